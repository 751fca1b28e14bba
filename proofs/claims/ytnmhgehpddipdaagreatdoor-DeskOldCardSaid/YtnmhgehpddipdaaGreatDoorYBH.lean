import Derived.Test.YtnmhgehpddipdaaGreatDoorYAB
import Derived.Test.YtnmhgehpddipdaaGreatDoorYAC
import Derived.Test.YtnmhgehpddipdaaGreatDoorYAV
import Derived.Test.YtnmhgehpddipdaaGreatDoorYAX
import Derived.Test.YtnmhgehpddipdaaGreatDoorYBB
import Derived.Test.YtnmhgehpddipdaaGreatDoorYBD
import Derived.Test.YtnmhgehpddipdaaGreatDoorYBF
import Derived.Shelf.Strings.SlTrimAscii
import Derived.Lib.SplitLaws
import Derived.Lib.AtoiAllCases
import Derived.Lib.AtoiTie
import Derived.Lib.ItoaNum
import Derived.Laws.StructEq
import Derived.ChangeKeysEq
import Derived.BigRegion
import Derived.Deep.CutBlock
import Derived.Deep.DeepCutAuto
import Derived.RegionTactic
import Derived.Deep.RegionWith
set_option linter.unusedSimpArgs false
set_option linter.unusedVariables false
namespace Go.Proofs.YtnmhgehpddipdaaGreatDoor
open Go.RowKit Go.Cof Go.Sort Go.Shelf
def lettersT:ByteArray:=⟨#[97,98,99,100,101,102,103,104,105,106,107,108,109,110,111,112,113,114,115,116,117,118,119,120,121,122]⟩
def alnumT:ByteArray:=⟨#[97,98,99,100,101,102,103,104,105,106,107,108,109,110,111,112,113,114,115,116,117,118,119,120,121,122,48,49,50,51,52,53,54,55,56,57]⟩
def nameB(s:ByteArray):Bool:=decide (s≠⟨#[]⟩)&&decide (s.size<=10)&&decide (0<=Lib.indexByte lettersT.data.toList (s.data.toList.headD 0))&&decide (Lib.trimS s.data.toList alnumT.data.toList= [])
set_option maxRecDepth 100000 in
set_option maxHeartbeats 4000000 in
theorem name_any(s:ByteArray)(w:World):Calls Tryz.prog 5 #[.string s] w λe w'=>e= .returned (.bool (nameB s))∧Keep NoB w w':=by
 by_cases h0:s=⟨#[]⟩
 ·subst h0
  go_enter Tryz.func5,Tryz.ntmps5
  go_wp2_with fail
  go_ret
  exact⟨rfl,Keep.refl _ _⟩
 have hs0:0<s.size:=by
  rcases Nat.eq_zero_or_pos s.size with h|h
  ·exact absurd (bs_inj (List.eq_nil_of_length_eq_zero ((bs_len s).trans h))) h0
  ·exact h
 have i1:(0:Int)<s.size:=by omega
 have h0':s.toList.isEmpty=false:=by
  cases h:s.toList with
  | nil=>exact absurd (toList_inj (by rw[h,ByteArray.toList_eq])) h0
  | cons a l=>rfl
 have hn:nameB s=(decide (s.size<=10)&&decide (0<=Lib.indexByte lettersT.data.toList (s.data.toList.headD 0))&&decide (Lib.trimS s.data.toList alnumT.data.toList= [])):=by
  rw[nameB,decide_eq_true h0,Bool.true_and]
 rw[hn]
 clear hn
 by_cases h1:s.size<=10
 ·rw[decide_eq_true h1,Bool.true_and]
  have d1:((s.size:Nat):Int)<=10:=by omega
  have hix:=λw=>Tryz.strings_IndexByte lettersT (s[0].toNat:Int) w
  have e0:((s[0].toNat:Nat):Int).toNat.toUInt8=s.data.toList.headD 0:=by
   rw[Int.toNat_natCast]
   have:s.data.toList.headD 0=s[0]:=by
    have h:=hs0
    obtain⟨⟨d⟩⟩:=s
    cases d with
    | nil=>simp[ByteArray.size]at h
    | cons a l=>rfl
   rw[this]
   exact UInt8.ofNat_toNat
  rw[e0]at hix
  have htr:=λw=>Any.strings_Trim_laid Tryz.lays160 (by kernel_rfl) s alnumT w (by omega) (by decide) (ascii_of_all (by decide))
  change∀w,Calls Tryz.prog 20 _ _ _ at htr
  obtain⟨I,hI⟩:∃I,I=Lib.indexByte lettersT.data.toList (s.data.toList.headD 0):=⟨_,rfl⟩
  obtain⟨T,hT⟩:∃T,T=Lib.trimS s.data.toList alnumT.data.toList:=⟨_,rfl⟩
  rw[<-hI]at hix⊢
  rw[<-hT]at htr⊢
  simp only[lettersT,alnumT]at hix htr
  have Hix:=Lib.hid hix
  have Htr:=Lib.hid htr
  clear h0 h1 e0 hI hT hix htr
  by_cases hI:0<=I
  ·rw[decide_eq_true hI,Bool.true_and]
   have hT2:(⟨T.toArray⟩:ByteArray).toList.isEmpty=decide (T= []):=by
    rw[ByteArray.toList_eq]
    cases T<;>simp
   go_enter Tryz.func5,Tryz.ntmps5
   go_wp2_with fail
   refine(Hix.out _).mono ?_
   rintro e w' ⟨rfl,hw⟩
   subst w'
   go_wp2_with fail
   refine(Htr.out _).mono ?_
   rintro e w' ⟨rfl,hB⟩
   go_wp2_with fail
   go_ret
   exact⟨by simp[hT2];cases T<;>rfl,Keep.ofBelow hB⟩
  ·rw[decide_eq_false hI,Bool.false_and]
   go_enter Tryz.func5,Tryz.ntmps5
   go_wp2_with fail
   refine(Hix.out _).mono ?_
   rintro e w' ⟨rfl,hw⟩
   subst w'
   go_wp2_with fail
   go_ret
   exact⟨rfl,Keep.refl _ _⟩
 ·rw[decide_eq_false h1,Bool.false_and,Bool.false_and]
  have d1:¬((s.size:Nat):Int)<=10:=by omega
  clear h0 h1
  go_enter Tryz.func5,Tryz.ntmps5
  go_wp2_with fail
  go_ret
  exact⟨rfl,Keep.refl _ _⟩
def itemB(x:ItemV)(dim:Int):Bool:=nameB x.name&&(decide (x.tag=⟨#[]⟩)||nameB x.tag)&&decide (1<=dim)&&decide (dim<=8)&&decide ((x.ns.length:Int)=dim)&& !x.ns.any farB
theorem farI_any(n:Int)(w:World):Calls Tryz.prog 89 #[.int .i64 n] w λe w'=>e= .returned (.bool (farB n))∧w'=w:=by
 by_cases h:n< -1000
 ·have hb:farB n=true:=by simp[farB,h]
  rw[hb]
  go_enter Tryz.func89,Tryz.ntmps89
  go_wp2_with fail
  go_ret
  exact⟨rfl,rfl⟩
 ·have hb:farB n=decide (1000<n):=by simp[farB,h]
  rw[hb]
  have hd:decide (n< -1000)=false:=by simpa using h
  clear h hb
  go_enter Tryz.func89,Tryz.ntmps89
  go_wp2_with fail
  go_ret
  exact⟨rfl,rfl⟩
set_option maxRecDepth 100000 in
set_option maxHeartbeats 4000000 in
theorem itemRight_any(x:ItemV)(dim:Int)(w:World)(N:Nums w x.av x.ns)(hl:x.ns.length<=1000000):
  Calls Tryz.prog 42 #[.agg (encItem x).toArray,.int .i64 dim] w λe w'=>e= .returned (.bool (itemB x dim))∧Keep NoB w w':=by
 obtain⟨nm,tg,av,ns⟩:=x
 simp only at N hl
 obtain⟨p,c,rfl⟩:=N.len
 simp only[encItem,itemB]
 have hn1:=λw=>name_any nm w
 have hn2:=λw=>name_any tg w
 have hc:=λ(W:World) (K:Keep NoB w W)=>containsInt_any 89 farB farI_any (enters_of Tryz.func89 (by kernel_rfl) rfl) _ ns W (N.keep K (λ_ _ x=>x)) hl
 obtain⟨B1,hB1⟩:∃b,b=nameB nm:=⟨_,rfl⟩
 obtain⟨B2,hB2⟩:∃b,b=nameB tg:=⟨_,rfl⟩
 obtain⟨B3,hB3⟩:∃b,b=ns.any farB:=⟨_,rfl⟩
 have ht:tg.toList.isEmpty=decide (tg=⟨#[]⟩):=by
  by_cases h:tg=⟨#[]⟩
  ·rw[decide_eq_true h,h,ByteArray.toList_eq];rfl
  ·rw[decide_eq_false h]
   cases h2:tg.toList with
   | nil=>exact absurd (toList_inj (by rw[h2,ByteArray.toList_eq])) h
   | cons a l=>rfl
 obtain⟨B4,hB4⟩:∃b,b=decide (tg=(⟨#[]⟩:ByteArray)):=⟨_,rfl⟩
 rw[<-hB1]at hn1
 rw[<-hB2]at hn2
 rw[<-hB3]at hc
 rw[<-hB4]at ht
 rw[<-hB1,<-hB2,<-hB3,<-hB4]
 obtain⟨nl,hnl⟩:∃n,n=ns.length:=⟨_,rfl⟩
 rw[<-hnl]at hc⊢
 have H1:=Lib.hid hn1
 have H2:=Lib.hid hn2
 have HC:=Lib.hid hc
 have HT:=Lib.hid ht
 clear hn1 hn2 hc ht hB1 hB2 hB3 hB4 hnl N
 have hT:=HT.out
 cases B1 with
 | false=>
  simp only[Bool.false_and]
  clear hT
  go_enter Tryz.func42,Tryz.ntmps42
  go_wp2_with fail
  refine(H1.out _).mono ?_
  rintro e w1 ⟨rfl,K1⟩
  go_wp2_with fail
  go_ret
  exact⟨rfl,((Keep.refl NoB w).alloc _).thenN K1⟩
 | true=>
  have h4:(1<=dim∧dim<=8∧(nl:Int)=dim)∨(¬1<=dim)∨(1<=dim∧¬dim<=8)∨(1<=dim∧dim<=8∧¬(nl:Int)=dim):=by omega
  rcases h4 with⟨d1,d2,d3⟩|d1|⟨d1,d2⟩|⟨d1,d2,d3⟩
  ·have er:(true&&(B4||B2)&&decide (1<=dim)&&decide (dim<=8)&&decide ((nl:Int)=dim)&& !B3)=((B4||B2)&& !B3):=by
    rw[decide_eq_true d1,decide_eq_true d2,decide_eq_true d3];simp
   have e3:((nl:Int)==dim)=true:=by simpa using d3
   rw[er]
   clear er d3
   cases B4 with
   | true=>
    go_enter Tryz.func42,Tryz.ntmps42
    go_wp2_with fail
    refine(H1.out _).mono ?_
    rintro e w1 ⟨rfl,K1⟩
    have K1':=((Keep.refl NoB w).alloc (.cells #[.string nm,.string tg,.slice p nl c] 47)).thenN K1
    have c1:w1.cell? ⟨w.heap.size,1,none⟩=some (.string tg):=(K1.cell (p:=⟨w.heap.size,1,none⟩) (by simp) (λx=>x)).trans (by rw[cell_of_row _ _ _ _ 47 (0,0) (heap_alloc_new w _)];rfl)
    have c2:w1.cell? ⟨w.heap.size,2,none⟩=some (.slice p nl c):=(K1.cell (p:=⟨w.heap.size,2,none⟩) (by simp) (λx=>x)).trans (by rw[cell_of_row _ _ _ _ 47 (0,0) (heap_alloc_new w _)];rfl)
    have hX1:w.heap.size<w1.heap.size:=by have:=K1.size;simp at this;omega
    go_wp2_with fail
    refine(HC.out _ K1').mono ?_
    rintro e w5 ⟨rfl,hw⟩
    subst w5
    go_wp2_with fail
    go_ret
    exact⟨rfl,K1'⟩
   | false=>
    go_enter Tryz.func42,Tryz.ntmps42
    go_wp2_with fail
    refine(H1.out _).mono ?_
    rintro e w1 ⟨rfl,K1⟩
    have K1':=((Keep.refl NoB w).alloc (.cells #[.string nm,.string tg,.slice p nl c] 47)).thenN K1
    have c1:w1.cell? ⟨w.heap.size,1,none⟩=some (.string tg):=(K1.cell (p:=⟨w.heap.size,1,none⟩) (by simp) (λx=>x)).trans (by rw[cell_of_row _ _ _ _ 47 (0,0) (heap_alloc_new w _)];rfl)
    have c2:w1.cell? ⟨w.heap.size,2,none⟩=some (.slice p nl c):=(K1.cell (p:=⟨w.heap.size,2,none⟩) (by simp) (λx=>x)).trans (by rw[cell_of_row _ _ _ _ 47 (0,0) (heap_alloc_new w _)];rfl)
    have hX1:w.heap.size<w1.heap.size:=by have:=K1.size;simp at this;omega
    go_wp2_with fail
    refine(H2.out _).mono ?_
    rintro e w2 ⟨rfl,K2⟩
    have K2':=K1'.thenN K2
    have c3:w2.cell? ⟨w.heap.size,2,none⟩=some (.slice p nl c):=(K2.cell (p:=⟨w.heap.size,2,none⟩) hX1 (λx=>x)).trans c2
    cases B2 with
    | false=>
     go_wp2_with fail
     go_ret
     exact⟨rfl,K2'⟩
    | true=>
     go_wp2_with fail
     refine(HC.out _ K2').mono ?_
     rintro e w5 ⟨rfl,hw⟩
     subst w5
     go_wp2_with fail
     go_ret
     exact⟨rfl,K2'⟩
  ·have er:(true&&(B4||B2)&&decide (1<=dim)&&decide (dim<=8)&&decide ((nl:Int)=dim)&& !B3)=false:=by
    rw[decide_eq_false d1];simp
   rw[er]
   clear er
   cases B4 with
   | true=>
    go_enter Tryz.func42,Tryz.ntmps42
    go_wp2_with fail
    refine(H1.out _).mono ?_
    rintro e w1 ⟨rfl,K1⟩
    have K1':=((Keep.refl NoB w).alloc (.cells #[.string nm,.string tg,.slice p nl c] 47)).thenN K1
    have c1:w1.cell? ⟨w.heap.size,1,none⟩=some (.string tg):=(K1.cell (p:=⟨w.heap.size,1,none⟩) (by simp) (λx=>x)).trans (by rw[cell_of_row _ _ _ _ 47 (0,0) (heap_alloc_new w _)];rfl)
    have c2:w1.cell? ⟨w.heap.size,2,none⟩=some (.slice p nl c):=(K1.cell (p:=⟨w.heap.size,2,none⟩) (by simp) (λx=>x)).trans (by rw[cell_of_row _ _ _ _ 47 (0,0) (heap_alloc_new w _)];rfl)
    have hX1:w.heap.size<w1.heap.size:=by have:=K1.size;simp at this;omega
    go_wp2_with fail
    go_ret
    exact⟨rfl,K1'⟩
   | false=>
    go_enter Tryz.func42,Tryz.ntmps42
    go_wp2_with fail
    refine(H1.out _).mono ?_
    rintro e w1 ⟨rfl,K1⟩
    have K1':=((Keep.refl NoB w).alloc (.cells #[.string nm,.string tg,.slice p nl c] 47)).thenN K1
    have c1:w1.cell? ⟨w.heap.size,1,none⟩=some (.string tg):=(K1.cell (p:=⟨w.heap.size,1,none⟩) (by simp) (λx=>x)).trans (by rw[cell_of_row _ _ _ _ 47 (0,0) (heap_alloc_new w _)];rfl)
    have c2:w1.cell? ⟨w.heap.size,2,none⟩=some (.slice p nl c):=(K1.cell (p:=⟨w.heap.size,2,none⟩) (by simp) (λx=>x)).trans (by rw[cell_of_row _ _ _ _ 47 (0,0) (heap_alloc_new w _)];rfl)
    have hX1:w.heap.size<w1.heap.size:=by have:=K1.size;simp at this;omega
    go_wp2_with fail
    refine(H2.out _).mono ?_
    rintro e w2 ⟨rfl,K2⟩
    have K2':=K1'.thenN K2
    have c3:w2.cell? ⟨w.heap.size,2,none⟩=some (.slice p nl c):=(K2.cell (p:=⟨w.heap.size,2,none⟩) hX1 (λx=>x)).trans c2
    cases B2 with
    | false=>
     go_wp2_with fail
     go_ret
     exact⟨rfl,K2'⟩
    | true=>
     go_wp2_with fail
     go_ret
     exact⟨rfl,K2'⟩
  ·have er:(true&&(B4||B2)&&decide (1<=dim)&&decide (dim<=8)&&decide ((nl:Int)=dim)&& !B3)=false:=by
    rw[decide_eq_false d2];simp
   rw[er]
   clear er
   cases B4 with
   | true=>
    go_enter Tryz.func42,Tryz.ntmps42
    go_wp2_with fail
    refine(H1.out _).mono ?_
    rintro e w1 ⟨rfl,K1⟩
    have K1':=((Keep.refl NoB w).alloc (.cells #[.string nm,.string tg,.slice p nl c] 47)).thenN K1
    have c1:w1.cell? ⟨w.heap.size,1,none⟩=some (.string tg):=(K1.cell (p:=⟨w.heap.size,1,none⟩) (by simp) (λx=>x)).trans (by rw[cell_of_row _ _ _ _ 47 (0,0) (heap_alloc_new w _)];rfl)
    have c2:w1.cell? ⟨w.heap.size,2,none⟩=some (.slice p nl c):=(K1.cell (p:=⟨w.heap.size,2,none⟩) (by simp) (λx=>x)).trans (by rw[cell_of_row _ _ _ _ 47 (0,0) (heap_alloc_new w _)];rfl)
    have hX1:w.heap.size<w1.heap.size:=by have:=K1.size;simp at this;omega
    go_wp2_with fail
    go_ret
    exact⟨rfl,K1'⟩
   | false=>
    go_enter Tryz.func42,Tryz.ntmps42
    go_wp2_with fail
    refine(H1.out _).mono ?_
    rintro e w1 ⟨rfl,K1⟩
    have K1':=((Keep.refl NoB w).alloc (.cells #[.string nm,.string tg,.slice p nl c] 47)).thenN K1
    have c1:w1.cell? ⟨w.heap.size,1,none⟩=some (.string tg):=(K1.cell (p:=⟨w.heap.size,1,none⟩) (by simp) (λx=>x)).trans (by rw[cell_of_row _ _ _ _ 47 (0,0) (heap_alloc_new w _)];rfl)
    have c2:w1.cell? ⟨w.heap.size,2,none⟩=some (.slice p nl c):=(K1.cell (p:=⟨w.heap.size,2,none⟩) (by simp) (λx=>x)).trans (by rw[cell_of_row _ _ _ _ 47 (0,0) (heap_alloc_new w _)];rfl)
    have hX1:w.heap.size<w1.heap.size:=by have:=K1.size;simp at this;omega
    go_wp2_with fail
    refine(H2.out _).mono ?_
    rintro e w2 ⟨rfl,K2⟩
    have K2':=K1'.thenN K2
    have c3:w2.cell? ⟨w.heap.size,2,none⟩=some (.slice p nl c):=(K2.cell (p:=⟨w.heap.size,2,none⟩) hX1 (λx=>x)).trans c2
    cases B2 with
    | false=>
     go_wp2_with fail
     go_ret
     exact⟨rfl,K2'⟩
    | true=>
     go_wp2_with fail
     go_ret
     exact⟨rfl,K2'⟩
  ·have er:(true&&(B4||B2)&&decide (1<=dim)&&decide (dim<=8)&&decide ((nl:Int)=dim)&& !B3)=false:=by
    rw[decide_eq_false d3];simp
   have e3:((nl:Int)==dim)=false:=by simpa using d3
   rw[er]
   clear er d3
   cases B4 with
   | true=>
    go_enter Tryz.func42,Tryz.ntmps42
    go_wp2_with fail
    refine(H1.out _).mono ?_
    rintro e w1 ⟨rfl,K1⟩
    have K1':=((Keep.refl NoB w).alloc (.cells #[.string nm,.string tg,.slice p nl c] 47)).thenN K1
    have c1:w1.cell? ⟨w.heap.size,1,none⟩=some (.string tg):=(K1.cell (p:=⟨w.heap.size,1,none⟩) (by simp) (λx=>x)).trans (by rw[cell_of_row _ _ _ _ 47 (0,0) (heap_alloc_new w _)];rfl)
    have c2:w1.cell? ⟨w.heap.size,2,none⟩=some (.slice p nl c):=(K1.cell (p:=⟨w.heap.size,2,none⟩) (by simp) (λx=>x)).trans (by rw[cell_of_row _ _ _ _ 47 (0,0) (heap_alloc_new w _)];rfl)
    have hX1:w.heap.size<w1.heap.size:=by have:=K1.size;simp at this;omega
    go_wp2_with fail
    go_ret
    exact⟨rfl,K1'⟩
   | false=>
    go_enter Tryz.func42,Tryz.ntmps42
    go_wp2_with fail
    refine(H1.out _).mono ?_
    rintro e w1 ⟨rfl,K1⟩
    have K1':=((Keep.refl NoB w).alloc (.cells #[.string nm,.string tg,.slice p nl c] 47)).thenN K1
    have c1:w1.cell? ⟨w.heap.size,1,none⟩=some (.string tg):=(K1.cell (p:=⟨w.heap.size,1,none⟩) (by simp) (λx=>x)).trans (by rw[cell_of_row _ _ _ _ 47 (0,0) (heap_alloc_new w _)];rfl)
    have c2:w1.cell? ⟨w.heap.size,2,none⟩=some (.slice p nl c):=(K1.cell (p:=⟨w.heap.size,2,none⟩) (by simp) (λx=>x)).trans (by rw[cell_of_row _ _ _ _ 47 (0,0) (heap_alloc_new w _)];rfl)
    have hX1:w.heap.size<w1.heap.size:=by have:=K1.size;simp at this;omega
    go_wp2_with fail
    refine(H2.out _).mono ?_
    rintro e w2 ⟨rfl,K2⟩
    have K2':=K1'.thenN K2
    have c3:w2.cell? ⟨w.heap.size,2,none⟩=some (.slice p nl c):=(K2.cell (p:=⟨w.heap.size,2,none⟩) hX1 (λx=>x)).trans c2
    cases B2 with
    | false=>
     go_wp2_with fail
     go_ret
     exact⟨rfl,K2'⟩
    | true=>
     go_wp2_with fail
     go_ret
     exact⟨rfl,K2'⟩
end Go.Proofs.YtnmhgehpddipdaaGreatDoor
namespace Go.Cof
open Go.Lib Go.Proofs.YtnmhgehpddipdaaGreatDoor
def pieces(c:UInt8):List UInt8->List (List UInt8)
 | []=> [[]]
 | b::l=>if b=c then []::pieces c l else match pieces c l with
  | []=> [[b]]
  | p::r=>(b::p)::r
theorem pieces_ne(c:UInt8):∀l,pieces c l≠ []
 | []=>by simp[pieces]
 | b::l=>by
  rw[pieces]
  split
  ·simp
  ·split<;>simp
theorem splitK_pieces(c:UInt8):∀l:List UInt8,splitK [c] 0 (count l [c]) l=pieces c l
 | []=>by rw[count_one];rfl
 | b::l=>by
  have ih:=splitK_pieces c l
  by_cases h:b=c
  ·subst h
   have hix:index (b::l) [b]=0:=by rw[index];simp[List.isPrefixOf]
   rw[count_cons_eq,Nat.add_comm,splitK,hix,pieces,if_pos rfl]
   simpa using ih
  ·have hp:([c]:List UInt8).isPrefixOf (b::l)=false:=by simp[List.isPrefixOf,Ne.symm h]
   have hix:index (b::l) [c]=if index l [c]== -1 then-1 else index l [c]+1:=by rw[index,hp];simp
   rw[count_cons_ne b c l h,pieces,if_neg h]
   cases hk:count l [c]with
   | zero=>
    rw[hk,splitK]at ih
    rw[splitK,<-ih]
   | succ k=>
    have hm:index l [c]≠-1:=λe=>by rw[count_miss e]at hk;cases hk
    have hge:=index_ge l [c]
    obtain⟨j,hj⟩:∃j:Nat,index l [c]=j:=⟨(index l [c]).toNat,by omega⟩
    have hix':index (b::l) [c]=((j+1:Nat):Int):=by rw[hix,if_neg (λe=>hm (beq_iff_eq.1 e)),hj];omega
    rw[hk,splitK,hj,if_neg (by simp)]at ih
    rw[splitK,hix',if_neg (by simp;omega),<-ih]
    have e1:((j+1:Nat):Int).toNat+0=j+1:=by omega
    have e2:((j:Nat):Int).toNat+0=j:=by omega
    have e3:((j+1:Nat):Int).toNat+ [c].length=j+1+1:=rfl
    have e4:((j:Nat):Int).toNat+ [c].length=j+1:=rfl
    rw[e1,e2,e3,e4]
    rfl
theorem splitB_pieces(c:UInt8)(s:ByteArray):(splitB ⟨#[c]⟩ 0 (countB s ⟨#[c]⟩) s).map (·.data.toList)=pieces c s.data.toList:=by
 rw[splitB_data]
 exact splitK_pieces c s.data.toList
theorem pieces_len(c:UInt8)(l:List UInt8):(pieces c l).length=l.count c+1:=by
 induction l with
 | nil=>rfl
 | cons b l ih=>
  rw[pieces]
  by_cases h:b=c
  ·rw[if_pos h,List.length_cons,ih,h,List.count_cons_self]
  ·rw[if_neg h,List.count_cons_of_ne (by simpa using h),<-ih]
   have:=pieces_ne c l
   split
   ·rename_i e;exact absurd e this
   ·rename_i e;rw[e];rfl
theorem pieces_self(c:UInt8):∀l:List UInt8,c∉l->pieces c l= [l]
 | [],_=>rfl
 | b::l,h=>by
  rw[pieces,if_neg (λe=>h (by rw[e];exact List.mem_cons_self)),pieces_self c l (λe=>h (List.mem_cons_of_mem _ e))]
theorem pieces_cut(c:UInt8)(r:List UInt8):∀p:List UInt8,c∉p->pieces c (p++c::r)=p::pieces c r
 | [],_=>by rw[List.nil_append,pieces,if_pos rfl]
 | b::p,h=>by
  rw[List.cons_append,pieces,if_neg (λe=>h (by rw[e];exact List.mem_cons_self)),pieces_cut c r p (λe=>h (List.mem_cons_of_mem _ e))]
theorem pieces_rows(c:UInt8):∀(ls:List (List UInt8)) (r:List UInt8),(∀p∈ls,c∉p)->pieces c (ls.flatMap (λp=>p++ [c])++r)=ls++pieces c r
 | [],r,_=>rfl
 | p::ls,r,h=>by
  rw[List.flatMap_cons,List.append_assoc,List.append_assoc,List.singleton_append,pieces_cut c _ p (h p List.mem_cons_self),pieces_rows c ls r (λq hq=>h q (List.mem_cons_of_mem _ hq))]
  rfl
theorem pieces_behind(c:UInt8):∀(ls:List (List UInt8)) (p:List UInt8),c∉p->(∀q∈ls,c∉q)->pieces c (p++ls.flatMap (λq=>c::q))=p::ls
 | [],p,hp,_=>by rw[List.flatMap_nil,List.append_nil,pieces_self c p hp]
 | q::ls,p,hp,h=>by
  rw[List.flatMap_cons,List.cons_append,pieces_cut c _ p hp,pieces_behind c ls q (h q List.mem_cons_self) (λx hx=>h x (List.mem_cons_of_mem _ hx))]
def numT(s:List UInt8):Option Int:=match atoiAll s with
 | .ok v=>if itoa v=s then some v else none
 | _=>none
theorem decFrom_app:∀(l r:List UInt8) (a:Nat),decFrom a (l++r)=(decFrom a l).bind λm=>decFrom m r
 | [],r,a=>rfl
 | b::l,r,a=>by
  rw[List.cons_append,decFrom,decFrom]
  cases digitVal b with
  | none=>rfl
  | some d=>exact decFrom_app l r _
theorem digitVal_of(d:Nat)(h:d<10):digitVal (UInt8.ofNat (48+d))=some d:=by
 have e:(UInt8.ofNat (48+d)).toNat=48+d:=by rw[UInt8.toNat_ofNat'];omega
 rw[digitVal,e,if_pos (by omega)]
 congr 1
 omega
theorem decFrom_digits:∀(u:Nat),decFrom 0 (decDigits u)=some u:=by
 intro u
 induction u using Nat.strongRecOn with
 | ind u ih=>
  rw[decDigits]
  split
  ·rename_i h
   rw[decFrom,digitVal_of u h]
   show some (0*10+u)=some u
   rw[Nat.zero_mul,Nat.zero_add]
  ·rename_i h
   rw[decFrom_app,ih (u/10) (by omega)]
   show decFrom (u/10) _=_
   rw[decFrom,digitVal_of (u % 10) (by omega)]
   show some (u/10*10+u % 10)=some u
   congr 1
   omega
theorem digits_mem:∀(u:Nat),∀c∈decDigits u,48<=c.toNat∧c.toNat<=57:=by
 intro u
 induction u using Nat.strongRecOn with
 | ind u ih=>
  intro c hc
  have one:∀d,d<10->c=UInt8.ofNat (48+d)->48<=c.toNat∧c.toNat<=57:=by
   rintro d hd rfl
   rw[UInt8.toNat_ofNat'];omega
  rw[decDigits]at hc
  split at hc
  ·rename_i h
   exact one u h (List.mem_singleton.1 hc)
  ·rename_i h
   rcases List.mem_append.1 hc with hc|hc
   ·exact ih (u/10) (by omega) c hc
   ·exact one _ (by omega) (List.mem_singleton.1 hc)
theorem digits_ne(u:Nat):decDigits u≠ []:=by
 rw[decDigits]
 split<;>simp
theorem digits_len(u:Nat)(h:u<10000):(decDigits u).length<=4:=by
 have h1:∀u,u<10->(decDigits u).length=1:=λu h=>by rw[decDigits,dif_pos h];rfl
 have h2:∀u,u<100->(decDigits u).length<=2:=λu h=>by
  by_cases h0:u<10
  ·have:=h1 u h0;omega
  ·rw[decDigits,dif_neg h0,List.length_append,h1 _ (by omega)];simp
 have h3:∀u,u<1000->(decDigits u).length<=3:=λu h=>by
  by_cases h0:u<10
  ·have:=h1 u h0;omega
  ·have:=h2 (u/10) (by omega)
   rw[decDigits,dif_neg h0,List.length_append];simp;omega
 by_cases h0:u<10
 ·have:=h1 u h0;omega
 ·have:=h3 (u/10) (by omega)
  rw[decDigits,dif_neg h0,List.length_append];simp;omega
theorem itoa_mem(n:Int):∀c∈itoa n,(48<=c.toNat∧c.toNat<=57)∨c.toNat=45:=by
 intro c hc
 unfold itoa at hc
 split at hc
 ·rcases List.mem_cons.1 hc with rfl|hc
  ·exact .inr rfl
  ·exact .inl (digits_mem _ c hc)
 ·exact .inl (digits_mem _ c hc)
theorem itoa_len(n:Int)(h: -10000<n∧n<10000):(itoa n).length<=5:=by
 unfold itoa
 split
 ·have:=digits_len n.natAbs (by omega)
  simp;omega
 ·have:=digits_len n.toNat (by omega)
  omega
theorem atoi_itoa(n:Int)(h: -10000<n∧n<10000):atoiAll (itoa n)= .ok n:=by
 have hl:=itoa_len n h
 have hd:∀u,decNat (decDigits u)=some u:=λu=>by
  have hne:=digits_ne u
  rw[decNat,decFrom_digits]
  cases hx:decDigits u with
  | nil=>exact absurd hx hne
  | cons a l=>rfl
 have key:atoi (itoa n)=some n:=by
  unfold itoa
  by_cases hn:n<0
  ·rw[if_pos hn,atoi,if_pos (by rfl),hd]
   show some (-(n.natAbs:Int))=some n
   congr 1
   omega
  ·rw[if_neg hn]
   have hm:=digits_mem n.toNat
   have hdd:=hd n.toNat
   cases hx:decDigits n.toNat with
   | nil=>exact absurd hx (digits_ne _)
   | cons a l=>
    rw[hx]at hm hdd
    have ha:=hm a List.mem_cons_self
    rw[atoi,if_neg (by intro e;have:=beq_iff_eq.1 e;subst this;exact absurd ha.1 (by decide)),if_neg (by intro e;have:=beq_iff_eq.1 e;subst this;exact absurd ha.1 (by decide)),hdd]
    show some ((n.toNat:Nat):Int)=some n
    congr 1
    omega
 rw[atoiAll_short _ (by omega),key]
 rfl
theorem numT_of(n:Int)(h: -10000<n∧n<10000):numT (itoa n)=some n:=by
 rw[numT,atoi_itoa n h]
 show(if itoa n=itoa n then some n else none)=some n
 rw[if_pos rfl]
abbrev alnumC(c:UInt8):Prop:=(97<=c.toNat∧c.toNat<=122)∨(48<=c.toNat∧c.toNat<=57)
theorem alnum_of{c:UInt8}(h:alnumT.data.toList.contains c=true):alnumC c:=by
 have key:∀i:Fin 256,alnumT.data.toList.contains (UInt8.ofNat i.val)=true->alnumC (UInt8.ofNat i.val):=by decide+kernel
 have:=key ⟨c.toNat,c.toNat_lt⟩
 rw[UInt8.ofNat_toNat]at this
 exact this h
theorem drop_nil(p:UInt8->Bool):∀l:List UInt8,l.dropWhile p= []->∀c∈l,p c=true
 | [],_,c,hc=>by cases hc
 | b::l,h,c,hc=>by
  rw[List.dropWhile_cons]at h
  split at h
  ·rename_i hb
   rcases List.mem_cons.1 hc with rfl|hc
   ·exact hb
   ·exact drop_nil p l h c hc
  ·cases h
theorem drop_head(p:UInt8->Bool):∀l:List UInt8,l.dropWhile p= []∨∃b r,l.dropWhile p=b::r∧p b=false
 | []=> .inl rfl
 | b::l=>by
  rw[List.dropWhile_cons]
  split
  ·exact drop_head p l
  ·rename_i hb;exact .inr ⟨b,l,rfl,by simpa using hb⟩
theorem name_mem{s:ByteArray}(h:nameB s=true):∀c∈s.data.toList,alnumC c:=by
 simp only[nameB,Bool.and_eq_true,decide_eq_true_eq]at h
 have ht:=h.2
 unfold trimS trimLeftS trimRightS at ht
 intro c hc
 rcases drop_head (alnumT.data.toList.contains ·) s.data.toList.reverse with h2|⟨b,r,h2,hb⟩
 ·exact alnum_of (drop_nil _ _ h2 c (List.mem_reverse.2 hc))
 ·have h3:=drop_nil _ _ ht b (List.mem_reverse.2 (by rw[h2];exact List.mem_cons_self))
  rw[hb]at h3
  cases h3
abbrev PItem:=ByteArray×ByteArray×List Int
def plainI(x:ItemV):PItem:=(x.name,x.tag,x.ns)
def pitemB(x:PItem)(dim:Int):Bool:=nameB x.1&&(decide (x.2.1=⟨#[]⟩)||nameB x.2.1)&&decide (1<=dim)&&decide (dim<=8)&&decide ((x.2.2.length:Int)=dim)&& !x.2.2.any farB
theorem pitemB_of(x:ItemV)(dim:Int):pitemB (plainI x) dim=itemB x dim:=rfl
def bodyT(x:PItem):List UInt8:=x.1.data.toList++(x.2.1.data.toList::x.2.2.map itoa).flatMap (λq=>32::q)
def lineT(x:PItem):List UInt8:=bodyT x++ [10]
def dimT:List UInt8:= [100,105,109,32]
def printT(dim:Int)(l:List PItem):List UInt8:=(dimT++itoa dim++ [10])++l.flatMap lineT
def risesB:List PItem->Bool
 | []=>true
 | x::r=>(match r with
  | []=>true
  | y::_=>decide (x.1.data.toList<y.1.data.toList))&&risesB r
def printOk(dim:Int)(l:List PItem):Bool:=decide (1<=dim)&&decide (dim<=8)&&decide (l.length<=60)&&l.all (pitemB · dim)&&risesB l
def allNums:List (List UInt8)->Option (List Int)
 | []=>some []
 | t::r=>match numT t with
  | none=>none
  | some n=>(allNums r).map (n:: ·)
def oneT(t:List UInt8):Option PItem:=match pieces 32 t with
 | a::b::c::r=>(allNums (c::r)).map λns=>(⟨a.toArray⟩,⟨b.toArray⟩,ns)
 | _=>none
def allOnes:List (List UInt8)->Option (List PItem)
 | []=>some []
 | t::r=>match oneT t with
  | none=>none
  | some x=>(allOnes r).map (x:: ·)
def linesOf(s:List UInt8):List (List UInt8):=(pieces 10 s).tail.dropLast
def headOf(s:List UInt8):List UInt8:=(pieces 10 s).headD []
def parseT(s:List UInt8):Option (Int×List PItem):=
 if hasPrefix (headOf s) dimT then
  match numT (trimPrefix (headOf s) dimT)with
  | none=>none
  | some dim=>match allOnes (linesOf s)with
   | none=>none
   | some l=>if printOk dim l=true∧printT dim l=s then some (dim,l)else none
 else none
theorem parseT_back{s:List UInt8}{dim:Int}{l:List PItem}(h:parseT s=some (dim,l)):printOk dim l=true∧printT dim l=s:=by
 unfold parseT at h
 split at h
 ·split at h
  ·cases h
  ·split at h
   ·cases h
   ·split at h
    ·rename_i e
     simp only[Option.some.injEq,Prod.mk.injEq]at h
     rw[h.1,h.2]at e
     exact e
    ·cases h
 ·cases h
theorem allNums_of:∀ns:List Int,(∀n∈ns,-10000<n∧n<10000)->allNums (ns.map itoa)=some ns
 | [],_=>rfl
 | n::ns,h=>by
  rw[List.map_cons,allNums,numT_of n (h n List.mem_cons_self),allNums_of ns (λm hm=>h m (List.mem_cons_of_mem _ hm))]
  rfl
theorem far_bound{ns:List Int}(h:ns.any farB=false):∀n∈ns,-10000<n∧n<10000:=by
 intro n hn
 rw[List.any_eq_false]at h
 have:=h n hn
 simp only[farB,Bool.or_eq_true,decide_eq_true_eq,not_or]at this
 omega
structure ItemOk(x:PItem):Prop where
 name:∀c∈x.1.data.toList,alnumC c
 tag:∀c∈x.2.1.data.toList,alnumC c
 ns:∀n∈x.2.2,-10000<n∧n<10000
 some:x.2.2≠ []
theorem itemOk_of{x:PItem}{dim:Int}(h:pitemB x dim=true):ItemOk x:=by
 simp only[pitemB,Bool.and_eq_true,Bool.or_eq_true,decide_eq_true_eq,Bool.not_eq_true']at h
 obtain⟨⟨⟨⟨⟨h1,h2⟩,h3⟩,h4⟩,h5⟩,h6⟩:=h
 refine⟨name_mem h1,?_,far_bound h6,λe=>by rw[e]at h5;simp at h5;omega⟩
 rcases h2 with h2|h2
 ·rw[h2];intro c hc;cases hc
 ·exact name_mem h2
theorem itoa_no{c:UInt8}(n:Int)(hc:c.toNat=10∨c.toNat=32):c∉itoa n:=by
 intro h
 have:=itoa_mem n c h
 omega
theorem alnum_no{c:UInt8}{l:List UInt8}(h:∀c∈l,alnumC c)(hc:c.toNat=10∨c.toNat=32):c∉l:=by
 intro hm
 have:=h c hm
 unfold alnumC at this
 omega
theorem body_pieces{x:PItem}(h:ItemOk x):pieces 32 (bodyT x)=x.1.data.toList::x.2.1.data.toList::x.2.2.map itoa:=by
 rw[bodyT,pieces_behind 32 _ _ (alnum_no h.name (.inr rfl))]
 intro q hq
 rcases List.mem_cons.1 hq with rfl|hq
 ·exact alnum_no h.tag (.inr rfl)
 ·obtain⟨n,_,rfl⟩:=List.mem_map.1 hq
  exact itoa_no n (.inr rfl)
theorem body_no{x:PItem}(h:ItemOk x):(10:UInt8)∉bodyT x:=by
 rw[bodyT,List.mem_append,not_or]
 refine⟨alnum_no h.name (.inl rfl),λhm=> ?_⟩
 obtain⟨q,hq,hm⟩:=List.mem_flatMap.1 hm
 rcases List.mem_cons.1 hm with e|hm
 ·exact absurd e (by decide)
 rcases List.mem_cons.1 hq with rfl|hq
 ·exact alnum_no h.tag (.inl rfl) hm
 ·obtain⟨n,_,rfl⟩:=List.mem_map.1 hq
  exact itoa_no n (.inl rfl) hm
theorem one_body{x:PItem}(h:ItemOk x):oneT (bodyT x)=some x:=by
 rw[oneT,body_pieces h]
 cases hns:x.2.2 with
 | nil=>exact absurd hns h.some
 | cons n ns=>
  rw[List.map_cons]
  show Option.map _ (allNums ((n::ns).map itoa))=_
  rw[<-hns,allNums_of x.2.2 h.ns]
  rfl
theorem ones_bodies:∀l:List PItem,(∀x∈l,ItemOk x)->allOnes (l.map bodyT)=some l
 | [],_=>rfl
 | x::l,h=>by
  rw[List.map_cons,allOnes,one_body (h x List.mem_cons_self),ones_bodies l (λy hy=>h y (List.mem_cons_of_mem _ hy))]
  rfl
theorem dim_no(dim:Int):(10:UInt8)∉dimT++itoa dim:=by
 rw[List.mem_append,not_or]
 exact⟨by decide,itoa_no dim (.inl rfl)⟩
theorem print_pieces{dim:Int}{l:List PItem}(h:∀x∈l,ItemOk x):pieces 10 (printT dim l)=(dimT++itoa dim)::(l.map bodyT++ [[]]):=by
 have e:printT dim l=(((dimT++itoa dim)::l.map bodyT).flatMap λp=>p++ [10])++ []:=by
  rw[List.append_nil,List.flatMap_cons,List.flatMap_map]
  rfl
 rw[e,pieces_rows 10 _ _ ?_]
 ·rfl
 ·intro p hp
  rcases List.mem_cons.1 hp with rfl|hp
  ·exact dim_no dim
  ·obtain⟨x,hx,rfl⟩:=List.mem_map.1 hp
   exact body_no (h x hx)
theorem parse_print{dim:Int}{l:List PItem}(h:printOk dim l=true):parseT (printT dim l)=some (dim,l):=by
 have h0:=h
 simp only[printOk,Bool.and_eq_true,decide_eq_true_eq]at h
 obtain⟨⟨⟨⟨h1,h2⟩,h3⟩,h4⟩,h5⟩:=h
 have hok:∀x∈l,ItemOk x:=λx hx=>itemOk_of (List.all_eq_true.1 h4 x hx)
 have hh:headOf (printT dim l)=dimT++itoa dim:=by rw[headOf,print_pieces hok];rfl
 have hl:linesOf (printT dim l)=l.map bodyT:=by
  rw[linesOf,print_pieces hok,List.tail_cons,List.dropLast_append_of_ne_nil (by simp)]
  simp
 have hp:hasPrefix (dimT++itoa dim) dimT=true:=by
  simp[hasPrefix,dimT]
 have ht:trimPrefix (dimT++itoa dim) dimT=itoa dim:=by
  unfold trimPrefix
  rw[hp]
  simp[dimT]
 rw[parseT,hh,hp,if_pos rfl,ht,numT_of dim (by omega)]
 simp only[hl,ones_bodies l hok]
 exact if_pos ⟨h0,trivial⟩
theorem risesB_take:∀(l:List PItem) (k:Nat),risesB l=true->risesB (l.take k)=true
 | [],k,_=>by rw[List.take_nil];rfl
 | x::r,0,_=>rfl
 | [x],k+1,h=>by rw[List.take_succ_cons,List.take_nil];rfl
 | x::y::r,k+1,h=>by
  rw[risesB,Bool.and_eq_true]at h
  have ih:=risesB_take (y::r) k h.2
  cases k with
  | zero=>rfl
  | succ k=>
   rw[List.take_succ_cons]at ih
   rw[List.take_succ_cons,List.take_succ_cons,risesB,Bool.and_eq_true]
   exact⟨h.1,ih⟩
end Go.Cof
namespace Go.Cof
open Go.RowKit Go.Sort Go.Shelf
open Go.Proofs (ltOf)
def numOk(l:List Int):Prop:=∀n∈l,-1000<=n∧n<=1000
theorem numOk_getD{l:List Int}(h:numOk l)(k:Nat): -1000<=l.getD k 0∧l.getD k 0<=1000:=by
 rw[List.getD_eq_getElem?_getD]
 cases e:l[k]? with
 | none=>simp
 | some n=>exact h n (List.mem_of_getElem? e)
def sqd(x y:Int):Int:=(x-y)*(x-y)
theorem sq_bound{d:Int}{B:Nat}(h1: -(B:Int)<=d)(h2:d<=B):0<=d*d∧d*d<=(B:Int)*B:=by
 constructor
 ·rcases Int.le_total 0 d with h|h
  ·exact Int.mul_nonneg h h
  ·have:=Int.mul_nonneg (show 0≤-d by omega) (show 0≤-d by omega)
   rwa [Int.neg_mul_neg]at this
 ·rcases Int.le_total 0 d with h|h
  ·exact Int.mul_le_mul h2 h2 h (by omega)
  ·have:=Int.mul_le_mul (show-d<=B by omega) (show-d<=B by omega) (show 0≤-d by omega) (by omega)
   rwa [Int.neg_mul_neg]at this
theorem farStep_ok(n x y:Int)(hn:0<=n)(hn2:n<=1000000000000)(hx: -1000<=x∧x<=1000)(hy: -1000<=y∧y<=1000):farStep n x y=n+sqd x y∧0<=sqd x y∧sqd x y<=4000000:=by
 have hd:wrap64 (x-y)=x-y:=by unfold wrap64;omega
 have hb:=sq_bound (d:=x-y) (B:=2000) (by omega) (by omega)
 refine⟨?_,hb⟩
 unfold farStep
 rw[hd]
 have hs:wrap64 ((x-y)*(x-y))=(x-y)*(x-y):=by
  obtain⟨q,hq⟩:∃q,q=(x-y)*(x-y):=⟨_,rfl⟩
  rw[<-hq]at hb⊢
  unfold wrap64
  omega
 rw[hs]
 show wrap64 (n+sqd x y)=_
 obtain⟨q,hq⟩:∃q,q=sqd x y:=⟨_,rfl⟩
 have hq2:q=(x-y)*(x-y):=hq
 rw[<-hq2]at hb
 rw[<-hq]
 unfold wrap64
 omega
theorem farK_ok(a b:List Int)(ha:numOk a)(hb:numOk b):∀k,k<=a.length->k<=b.length->k<=100->0<=farK a b k∧farK a b k<=4000000*k
 | 0,_,_,_=>by rw[farK_zero];omega
 | k+1,h1,h2,h3=>by
  have ih:=farK_ok a b ha hb k (by omega) (by omega) (by omega)
  rw[farK_succ a b k (by omega) (by omega)]
  have:=farStep_ok (farK a b k) (a.getD k 0) (b.getD k 0) ih.1 (by omega) (numOk_getD ha k) (numOk_getD hb k)
  rw[this.1]
  omega
theorem farK_next(a b:List Int)(ha:numOk a)(hb:numOk b)(k:Nat)(h1:k<a.length)(h2:k<b.length)(h3:k<100):farK a b (k+1)=farK a b k+sqd (a.getD k 0) (b.getD k 0):=by
 have ih:=farK_ok a b ha hb k (by omega) (by omega) (by omega)
 rw[farK_succ a b k (by omega) (by omega)]
 exact(farStep_ok (farK a b k) (a.getD k 0) (b.getD k 0) ih.1 (by omega) (numOk_getD ha k) (numOk_getD hb k)).1
def downI(n:Int):Int:=(n+1000)/250-4
theorem downI_low(n:Int)(h: -1000<=n):downI n*250<=n∧n<=downI n*250+249:=by unfold downI;omega
theorem downI_in(n:Int)(h: -1000<=n∧n<=1000): -4<=downI n∧downI n<=4:=by unfold downI;omega
def atK(ns:List Int)(k:Nat):List Int:=(ns.take k).map downI++List.replicate (8-k) 0
def cellAt(x:ItemV):List Int:=atK x.ns x.ns.length
theorem atK_len(ns:List Int)(k:Nat)(h:k<=ns.length)(h8:k<=8):(atK ns k).length=8:=by
 rw[atK,List.length_append,List.length_map,List.length_take,List.length_replicate];omega
theorem atK_set(ns:List Int)(k:Nat)(h:k<ns.length)(h8:k<8):(atK ns k).set k (downI (ns.getD k 0))=atK ns (k+1):=by
 have e:(ns.take k).map downI++List.replicate (8-k) 0=(ns.take k).map downI++(0::List.replicate (8-(k+1)) 0):=by
  rw[show 8-k=(8-(k+1))+1 by omega,List.replicate_succ]
 have hl:((ns.take k).map downI).length=k:=by rw[List.length_map,List.length_take];omega
 rw[atK,e,List.set_append_right _ _ (by omega),hl,Nat.sub_self,List.set_cons_zero,atK,List.take_succ_eq_append_getElem h,List.map_append,List.append_assoc,List.getD_eq_getElem?_getD,List.getElem?_eq_getElem h]
 rfl
theorem atK_get(ns:List Int)(k i:Nat)(h:i<k)(hk:k<=ns.length):(atK ns k).getD i 0=downI (ns.getD i 0):=by
 rw[atK,List.getD_eq_getElem?_getD,List.getElem?_append_left (by rw[List.length_map,List.length_take];omega),List.getElem?_map,List.getElem?_take,if_pos h,List.getD_eq_getElem?_getD,List.getElem?_eq_getElem (by omega)]
 rfl
def gapI(low a:Int):Int:=max (max (low-a) (a-(low+250-1))) 0
def leastK(c at_:List Int):Nat->Int
 | 0=>0
 | k+1=>leastK c at_ k+gapI (c.getD k 0*250) (at_.getD k 0)*gapI (c.getD k 0*250) (at_.getD k 0)
theorem gap_le(n a:Int)(h: -1000<=n):gapI (downI n*250) a*gapI (downI n*250) a<=sqd n a:=by
 have hl:=downI_low n h
 obtain⟨g,hg⟩:∃g,g=gapI (downI n*250) a:=⟨_,rfl⟩
 rw[<-hg]
 unfold sqd
 unfold gapI at hg
 have h0:0<=g:=by omega
 rcases Int.le_total n a with h|h
 ·have h2:g<=a-n:=by omega
  have:=Int.mul_le_mul h2 h2 h0 (by omega)
  have e:(n-a)*(n-a)=(a-n)*(a-n):=by
   rw[<-Int.neg_mul_neg]
   congr 1<;>omega
  rwa [e]
 ·have h2:g<=n-a:=by omega
  exact Int.mul_le_mul h2 h2 h0 (by omega)
theorem leastK_le(x:ItemV)(at_:List Int)(hx:numOk x.ns)(ha:numOk at_)(h8:x.ns.length<=8):∀k,k<=x.ns.length->k<=at_.length->leastK (cellAt x) at_ k<=farK x.ns at_ k
 | 0,_,_=>by rw[farK_zero];exact Int.le_refl _
 | k+1,h1,h2=>by
  have ih:=leastK_le x at_ hx ha h8 k (by omega) (by omega)
  rw[leastK,farK_next x.ns at_ hx ha k (by omega) (by omega) (by omega),cellAt,atK_get _ _ _ (by omega) (Nat.le_refl _)]
  have:=gap_le (x.ns.getD k 0) (at_.getD k 0) (numOk_getD hx k).1
  rw[cellAt]at ih
  omega
theorem leastK_ok(c at_:List Int)(hc:∀k,-4<=c.getD k 0∧c.getD k 0<=4)(ha:numOk at_):∀k,k<=100->0<=leastK c at_ k∧leastK c at_ k<=16000000*k
 | 0,_=>by show(0:Int)<=0∧_;simp[leastK]
 | k+1,h=>by
  have ih:=leastK_ok c at_ hc ha k (by omega)
  have h1:=hc k
  have h2:=numOk_getD ha k
  have hg:=sq_bound (d:=gapI (c.getD k 0*250) (at_.getD k 0)) (B:=4000) (by unfold gapI;omega) (by unfold gapI;omega)
  rw[leastK]
  omega
abbrev Cell:=List Int×List ItemV
def hasC(cs:List Cell)(a:List Int):Bool:=cs.any λc=>decide (c.1=a)
def withC(cs:List Cell)(a:List Int):List Cell:=if hasC cs a then cs else cs++ [(a,[])]
def idxC(cs:List Cell)(a:List Int):Nat:=cs.findIdx λc=>decide (c.1=a)
def putC(cs:List Cell)(k:Nat)(x:ItemV):List Cell:=cs.modify k λc=>(c.1,c.2++ [x])
def stepC(cs:List Cell)(x:ItemV):List Cell:=putC (withC cs (cellAt x)) (idxC cs (cellAt x)) x
def cellsL(l:List ItemV):List Cell:=l.foldl stepC []
theorem cellsL_succ(l:List ItemV)(j:Nat)(x:ItemV)(hx:l[j]? =some x):cellsL (l.take (j+1))=stepC (cellsL (l.take j)) x:=by
 have hj:=(List.getElem?_eq_some_iff.1 hx).1
 rw[List.take_succ_eq_append_getElem hj,(List.getElem?_eq_some_iff.1 hx).2,cellsL,cellsL,List.foldl_append]
 rfl
structure CellsOk(cs:List Cell)(l:List ItemV):Prop where
 perm:(cs.flatMap (·.2)).Perm l
 at_:∀c∈cs,∃x∈l,c.1=cellAt x
 in_:∀c∈cs,∀x∈c.2,cellAt x=c.1
 len:cs.length<=l.length
theorem idxC_lt(cs:List Cell)(a:List Int):idxC cs a<(withC cs a).length∧(withC cs a)[idxC cs a]?.map (·.1)=some a:=by
 unfold withC idxC
 by_cases h:hasC cs a=true
 ·rw[if_pos h]
  have h2:=List.findIdx_lt_length.2 (List.any_eq_true.1 h)
  refine⟨h2,?_⟩
  rw[List.getElem?_eq_getElem h2]
  have:=List.findIdx_getElem (p:=λc:Cell=>decide (c.1=a)) (w:=h2)
  simpa using this
 ·rw[if_neg h]
  have h2:cs.findIdx (λc=>decide (c.1=a))=cs.length:=by
   rw[List.findIdx_eq_length]
   intro c hc
   have h3:hasC cs a=false:=by simpa using h
   rw[hasC,List.any_eq_false]at h3
   simpa using h3 c hc
  rw[h2]
  simp
theorem stepC_ok{cs:List Cell}{l:List ItemV}(h:CellsOk cs l)(x:ItemV):CellsOk (stepC cs x) (l++ [x]):=by
 have hi:=idxC_lt cs (cellAt x)
 have hw:CellsOk (withC cs (cellAt x)) (l++ [x])->True:=λ_=>trivial
 have w1:((withC cs (cellAt x)).flatMap (·.2)).Perm l:=by
  unfold withC
  split
  ·exact h.perm
  ·rw[List.flatMap_append];simpa using h.perm
 have w2:∀c∈withC cs (cellAt x),∃y∈l++ [x],c.1=cellAt y:=by
  intro c hc
  unfold withC at hc
  split at hc
  ·obtain⟨y,hy,e⟩:=h.at_ c hc;exact⟨y,List.mem_append_left _ hy,e⟩
  ·rcases List.mem_append.1 hc with hc|hc
   ·obtain⟨y,hy,e⟩:=h.at_ c hc;exact⟨y,List.mem_append_left _ hy,e⟩
   ·rw[List.mem_singleton.1 hc];exact⟨x,by simp,rfl⟩
 have w3:∀c∈withC cs (cellAt x),∀y∈c.2,cellAt y=c.1:=by
  intro c hc
  unfold withC at hc
  split at hc
  ·exact h.in_ c hc
  ·rcases List.mem_append.1 hc with hc|hc
   ·exact h.in_ c hc
   ·rw[List.mem_singleton.1 hc];intro y hy;cases hy
 have w4:(withC cs (cellAt x)).length<=l.length+1:=by
  have:=h.len
  unfold withC
  split
  ·omega
  ·rw[List.length_append,List.length_singleton];omega
 obtain⟨W,hW⟩:∃W,W=withC cs (cellAt x):=⟨_,rfl⟩
 obtain⟨k,hk⟩:∃k,k=idxC cs (cellAt x):=⟨_,rfl⟩
 rw[<-hW]at hi w1 w2 w3 w4
 rw[<-hk]at hi
 rw[stepC,putC,<-hW,<-hk]
 have hsplit:W.modify k (λc=>(c.1,c.2++ [x]))=W.take k++(W[k].1,W[k].2++ [x])::W.drop (k+1):=by
  rw[List.modify_eq_take_cons_drop hi.1]
 have hW2:W=W.take k++W[k]::W.drop (k+1):=by
  rw[<-List.drop_eq_getElem_cons hi.1,List.take_append_drop]
 have hk1:W[k].1=cellAt x:=by
  have:=hi.2
  rw[List.getElem?_eq_getElem hi.1]at this
  simpa using this
 have hmem:∀c,c∈W.modify k (λc=>(c.1,c.2++ [x]))->c∈W∨c=(W[k].1,W[k].2++ [x]):=by
  intro c hc
  rw[hsplit]at hc
  rcases List.mem_append.1 hc with hc|hc
  ·exact .inl (List.mem_of_mem_take hc)
  ·rcases List.mem_cons.1 hc with hc|hc
   ·exact .inr hc
   ·exact .inl (List.mem_of_mem_drop hc)
 refine⟨?_,λc hc=> ?_,λc hc=> ?_,by rw[List.length_modify,List.length_append,List.length_singleton];exact w4⟩
 ·rw[hsplit]
  rw[hW2]at w1
  simp only[List.flatMap_append,List.flatMap_cons,List.append_assoc]at w1⊢
  have e1:((W.take k).flatMap (·.2)++(W[k].2++([x]++(W.drop (k+1)).flatMap (·.2)))).Perm (((W.take k).flatMap (·.2)++(W[k].2++(W.drop (k+1)).flatMap (·.2)))++ [x]):=by
   simp only[List.append_assoc]
   exact((List.perm_append_comm).append_left _).append_left _
  exact e1.trans (w1.append_right [x])
 ·rcases hmem c hc with hc|rfl
  ·exact w2 c hc
  ·exact⟨x,by simp,hk1⟩
 ·rcases hmem c hc with hc|rfl
  ·exact w3 c hc
  ·intro y hy
   rcases List.mem_append.1 hy with hy|hy
   ·exact w3 W[k] (List.getElem_mem _) y hy
   ·rw[List.mem_singleton.1 hy];exact hk1.symm
theorem cellsL_ok(l:List ItemV):CellsOk (cellsL l) l:=by
 have key:∀n,n<=l.length->CellsOk (cellsL (l.take n)) (l.take n):=by
  intro n
  induction n with
  | zero=>intro _;rw[List.take_zero];exact⟨List.Perm.refl _,λ_ h=>(by cases h),λ_ h=>(by cases h),Nat.le_refl _⟩
  | succ n ih=>
   intro hn
   have hx:l[n]? =some l[n]:=List.getElem?_eq_getElem (by omega)
   rw[cellsL_succ l n _ hx,List.take_succ_eq_append_getElem (by omega)]
   exact stepC_ok (ih (by omega)) _
 have:=key l.length (Nat.le_refl _)
 rwa [List.take_length]at this
theorem totF:Tot (λx y=> !(ltOf cmpF) y x) where
 trans:=leF_trans
 total:=leF_total
 anti:=λa b h1 h2=>by
  rw[Bool.not_eq_true']at h1 h2
  exact total_cmpF a b h2 h1
theorem foundL_append(l l':List ItemV)(at_:List Int)(tag:ByteArray):foundL (l++l') at_ tag=foundL l at_ tag++foundL l' at_ tag:=by
 rw[foundL,foundL,foundL,List.filter_append,List.map_append]
theorem top_step(V C:List ItemV)(at_:List Int)(k:Int)(tag:ByteArray):(sortF (topV V at_ k tag++topV C at_ k tag)).take k.toNat=topV (V++C) at_ k tag:=by
 have h1:=totF.first (foundL V at_ tag) (topV C at_ k tag) k.toNat
 have h2:=totF.first (foundL C at_ tag) (foundL V at_ tag) k.toNat
 have e1:(sortF (topV V at_ k tag++topV C at_ k tag)).take k.toNat=(sortF (foundL V at_ tag++topV C at_ k tag)).take k.toNat:=h1
 have e2:sortF (foundL V at_ tag++topV C at_ k tag)=sortF (topV C at_ k tag++foundL V at_ tag):=sortF_perm List.perm_append_comm
 have e3:(sortF (topV C at_ k tag++foundL V at_ tag)).take k.toNat=(sortF (foundL C at_ tag++foundL V at_ tag)).take k.toNat:=h2
 rw[e1,e2,e3,sortF_perm List.perm_append_comm,<-foundL_append]
 rfl
theorem top_break(V R:List ItemV)(at_:List Int)(k:Int)(tag:ByteArray)(hk:0<k.toNat)(hlen:(topV V at_ k tag).length=k.toNat)(y:FoundV)(hy:(topV V at_ k tag)[k.toNat-1]? =some y)(hR:∀x∈R,y.2<farW x.ns at_):topV (V++R) at_ k tag=topV V at_ k tag:=by
 have hl:k.toNat<=(foundL V at_ tag).length:=by
  rw[topV,List.length_take,sortF_len]at hlen;omega
 have h:=totF.absorb (foundL V at_ tag) (foundL R at_ tag) k.toNat hl ?_
 ·rw[topV,foundL_append]
  exact h
 ·intro x hx r hr
  have hx2:x.2<=y.2:=by
   have hS:=totF.sorted (foundL V at_ tag)
   have hy2:(sortF (foundL V at_ tag))[k.toNat-1]? =some y:=by
    rw[topV,List.getElem?_take,if_pos (by omega)]at hy
    exact hy
   obtain⟨i,hi,he⟩:=List.getElem_of_mem hx
   have hi2:i<k.toNat:=by rw[List.length_take]at hi;omega
   rw[List.getElem_take]at he
   obtain⟨hb,hb2⟩:=List.getElem?_eq_some_iff.1 hy2
   by_cases e:i=k.toNat-1
   ·subst e
    rw[<-he,<-hb2]
    exact Int.le_refl _
   ·have:=List.pairwise_iff_getElem.1 hS i (k.toNat-1) (by rw[List.length_take]at hi;omega) hb (by omega)
    rw[he]at this
    have h3:(!(ltOf cmpF) y x)=true:=by rw[<-hb2];exact this
    rw[Bool.not_eq_true',ltOf_cmpF_false]at h3
    have:¬y.2<x.2:=λe=>h3 (.inl e)
    omega
  obtain⟨z,hz,rfl⟩:=List.mem_map.1 hr
  have hz2:=hR z (List.mem_filter.1 hz).1
  have hz3:(foundV at_ z).2=farW z.ns at_:=rfl
  rw[Bool.not_eq_true',ltOf_cmpF_false]
  rintro(h|h)
  ·omega
  ·omega
end Go.Cof
namespace Go.Cof
open Go.RowKit Go.Sort Go.Shelf
def ints8(l:List Int):List Value:=l.map (Value.int .i64)
theorem eqItems_ints{P:Program}{d:Nat}{e:TypeId}{k:IntKind}{l m:List Int}{w:World}(he:P.underlying e=some (.int k))(hpk:P.plainKey e=true)(hl:l.length=8)(hm:m.length=8):
  ∀is:List Nat,(∀i∈is,i<8)->(Op.eqItems (d+1) e 1 (ints8 l).toArray (ints8 m).toArray is).run P w= .ok (is.all λi=>decide (l.getD i 0=m.getD i 0)) w
 | [],_=>by simp[Op.eqItems]
 | i::is,h=>by
  have hi:=h i List.mem_cons_self
  have ih:=eqItems_ints (d:=d) (w:=w) he hpk hl hm is (λj hj=>h j (List.mem_cons_of_mem _ hj))
  have ha:(part e (ints8 l).toArray (i*1)).run P w= .ok (.int .i64 (l.getD i 0)) w:=run_part_plain w hpk (by
   rw[Nat.mul_one,List.getElem?_toArray,ints8,List.getElem?_map,List.getD_eq_getElem?_getD,List.getElem?_eq_getElem (by omega)];rfl)
  have hb:(part e (ints8 m).toArray (i*1)).run P w= .ok (.int .i64 (m.getD i 0)) w:=run_part_plain w hpk (by
   rw[Nat.mul_one,List.getElem?_toArray,ints8,List.getElem?_map,List.getD_eq_getElem?_getD,List.getElem?_eq_getElem (by omega)];rfl)
  simp only[Op.eqItems,Sem.run_bind,ha,hb,Result.andThen_ok,run_equalIn_int w d e .i64 k _ _ he,ih,List.all_cons]
  by_cases h:l.getD i 0=m.getD i 0
  ·have hb:(l.getD i 0==m.getD i 0)=true:=by simpa using h
   rw[hb,decide_eq_true h,Bool.true_and]
   simp[ih]
  ·have hb:(l.getD i 0==m.getD i 0)=false:=by simpa using h
   rw[hb,decide_eq_false h,Bool.false_and]
   simp
set_option maxRecDepth 100000 in
theorem eight(l:List Int)(h:l.length=8):∃a0 a1 a2 a3 a4 a5 a6 a7,l= [a0,a1,a2,a3,a4,a5,a6,a7]:=by
 match l,h with
 | [a0,a1,a2,a3,a4,a5,a6,a7],_=>exact⟨a0,a1,a2,a3,a4,a5,a6,a7,rfl⟩
theorem all8{l m:List Int}(hl:l.length=8)(hm:m.length=8):((List.range 8).all λi=>decide (l.getD i 0=m.getD i 0))=decide (l=m):=by
 rw[Bool.eq_iff_iff,List.all_eq_true,decide_eq_true_eq]
 constructor
 ·intro h
  apply List.ext_getElem (by omega)
  intro i h1 h2
  have:=h i (List.mem_range.2 (by omega))
  rw[decide_eq_true_eq,List.getD_eq_getElem?_getD,List.getD_eq_getElem?_getD,List.getElem?_eq_getElem h1,List.getElem?_eq_getElem h2]at this
  exact this
 ·rintro rfl i _
  simp
end Go.Cof
namespace Go.Proofs.YtnmhgehpddipdaaGreatDoor
open Go.RowKit Go.Cof Go.Sort Go.Shelf
set_option maxRecDepth 100000 in
theorem eq_at(l m:List Int)(hl:l.length=8)(hm:m.length=8)(w:World):(Op.equalIn 10000 173 (.agg (ints8 l).toArray) (.agg (ints8 m).toArray)).run Tryz.prog w= .ok (decide (l=m)) w:=by
 have hib:∃i,Tryz.prog.info? 3=some i:=⟨_,rfl⟩
 obtain⟨i,hi⟩:=hib
 have hc:Tryz.prog.cellsOf 3=1:=by kernel_rfl
 have hpk:Tryz.prog.plainKey 3=true:=by kernel_rfl
 rw[show(10000:Nat)=9999+1 from rfl,run_equalIn_array w 9999 _ _ Tryz.underlying173 hi,hc,show(9999:Nat)=9998+1 from rfl,eqItems_ints Tryz.underlying3 hpk hl hm _ (λi hi=>List.mem_range.1 hi),all8 hl hm]
theorem down_any(n:Int)(hn: -1000<=n∧n<=1000)(w:World):Calls Tryz.prog 146 #[.int .i64 n] w λe w'=>e= .returned (.int .i64 (downI n))∧w'=w:=by
 have r1:IntKind.i64.wrap (n+1000)=n+1000:=IntWalk.i64_in _ (by omega)
 have hd:(n+1000).tdiv 250=(n+1000)/250:=Int.tdiv_eq_ediv_of_nonneg (by omega)
 have r2:IntKind.i64.wrap ((n+1000)/250)=(n+1000)/250:=IntWalk.i64_in _ (by omega)
 have r3:IntKind.i64.wrap ((n+1000)/250-4)=(n+1000)/250-4:=IntWalk.i64_in _ (by omega)
 unfold downI
 go_enter Tryz.func146,Tryz.ntmps146
 go_wp2_with fail
 go_ret
 exact⟨by simp[hd,r1,r2,r3],rfl⟩
theorem sameCell_any(pb ab:Nat)(l m:List Int)(sv:Value)(w:World)(hl:l.length=8)(hm:m.length=8)(hp:w.heap[pb]? =some (.cells (ints8 l++ [sv]).toArray 175 (0,0)))(ha:w.heap[ab]? =some (.cells (ints8 m).toArray 173 (0,0))):
  Calls Tryz.prog 148 #[.pointer (some ⟨pb,0,none⟩),.pointer (some ⟨ab,0,none⟩)] w λe w'=>e= .returned (.bool (decide (l=m)))∧∃q,w'=w.drewN q:=by
 have heq:=λw=>eq_at l m hl hm w
 have hgt:Tryz.prog.eqGuardType Tryz.prog.depth 173=false:=by kernel_rfl
 obtain⟨B,hB⟩:∃B,B=decide (l=m):=⟨_,rfl⟩
 rw[<-hB]at heq⊢
 obtain⟨a0,a1,a2,a3,a4,a5,a6,a7,rfl⟩:=eight l hl
 obtain⟨b0,b1,b2,b3,b4,b5,b6,b7,rfl⟩:=eight m hm
 have cp:∀j u,([Value.int .i64 a0,.int .i64 a1,.int .i64 a2,.int .i64 a3,.int .i64 a4,.int .i64 a5,.int .i64 a6,.int .i64 a7,sv])[j]? =some u->w.cell? ⟨pb,j,none⟩=some u:=λj u hu=>by
  rw[cell_of_row _ _ j _ 175 (0,0) hp,List.getElem?_toArray];exact hu
 have ca:∀j u,([Value.int .i64 b0,.int .i64 b1,.int .i64 b2,.int .i64 b3,.int .i64 b4,.int .i64 b5,.int .i64 b6,.int .i64 b7])[j]? =some u->w.cell? ⟨ab,j,none⟩=some u:=λj u hu=>by
  rw[cell_of_row _ _ j _ 173 (0,0) ha,List.getElem?_toArray];exact hu
 have p0:=cp 0 _ rfl
 have p1:=cp 1 _ rfl
 have p2:=cp 2 _ rfl
 have p3:=cp 3 _ rfl
 have p4:=cp 4 _ rfl
 have p5:=cp 5 _ rfl
 have p6:=cp 6 _ rfl
 have p7:=cp 7 _ rfl
 have q0:=ca 0 _ rfl
 have q1:=ca 1 _ rfl
 have q2:=ca 2 _ rfl
 have q3:=ca 3 _ rfl
 have q4:=ca 4 _ rfl
 have q5:=ca 5 _ rfl
 have q6:=ca 6 _ rfl
 have q7:=ca 7 _ rfl
 simp only[ints8,List.map_cons,List.map_nil]at heq
 clear hB hp ha hl hm cp ca
 go_enter Tryz.func148,Tryz.ntmps148
 go_wp2_with fail
 go_quiet (fail)
 go_wp2_with fail
 go_ret
 exact⟨rfl,_,rfl⟩
set_option maxRecDepth 100000 in
set_option maxHeartbeats 4000000 in
theorem least_any(cb pb:Nat)(dim:Nat)(cv:Value)(at_:List Int)(c:List Int)(sv:Value)(va:Value)(w:World)(hc8:c.length=8)(hcr:∀k,-4<=c.getD k 0∧c.getD k 0<=4)(hat:numOk at_)(hd:dim<=8)(hda:at_.length=dim)
  (N:Nums w va at_) (hC:w.heap[cb]? =some (.cells #[.int .i64 dim,cv] 163 (0,0))) (hp:w.heap[pb]? =some (.cells (ints8 c++ [sv]).toArray 175 (0,0))):
  Calls Tryz.prog 92 #[.pointer (some ⟨cb,0,none⟩),.pointer (some ⟨pb,0,none⟩),va] w λe w'=>e= .returned (.int .i64 (leastK c at_ dim))∧∃q,w'=w.drewN q:=by
 have c0:w.cell? ⟨cb,0,none⟩=some (.int .i64 dim):=by rw[cell_of_row _ _ _ _ _ (0,0) hC];rfl
 obtain⟨pa,ca,rfl⟩:=N.len
 have Hda:=Lib.hid hda
 rw[hda]at N⊢
 clear hda
 have HN:=Lib.hid N
 have Hp:=Lib.hid hp
 clear N hC hp
 go_enter Tryz.func92,Tryz.ntmps92
 go_wp2_with fail
 go_loopw [7,15] (λnv iv wr=>∃i:Nat,i<=dim∧iv= .int .i64 i∧nv= .int .i64 (leastK c at_ i)∧∃q,wr=w.drewN q) (λ_ iv _=>dim-(intOf iv).toNat)
 case atStart=>exact⟨0,by omega,rfl,rfl,0,rfl⟩
 case round=>
  obtain⟨i,hi,rfl,rfl,q,rfl⟩:=hrel
  by_cases hlt:i<dim
  ·have i1:(i:Int)<dim:=by omega
   have i8:(i:Int)<8:=by omega
   obtain⟨bA,oA,rfl,-,hbA,hcA⟩:=HN.out.at (by have:=Hda.out;omega)
   have cA:=hcA i (by have:=Hda.out;omega)
   have cP:w.cell? ⟨pb,i,none⟩=some (.int .i64 (c.getD i 0)):=by
    rw[cell_of_row _ _ _ _ _ (0,0) Hp.out,List.getElem?_toArray,List.getElem?_append_left (by rw[ints8,List.length_map];omega),ints8,List.getElem?_map,List.getD_eq_getElem?_getD,List.getElem?_eq_getElem (by omega)]
    rfl
   have hci:=hcr i
   have hai:=numOk_getD hat i
   have hL:=leastK_ok c at_ hcr hat i (by omega)
   have hnext:leastK c at_ (i+1)=leastK c at_ i+gapI (c.getD i 0*250) (at_.getD i 0)*gapI (c.getD i 0*250) (at_.getD i 0):=rfl
   obtain⟨x,hx⟩:∃x,x=c.getD i 0:=⟨_,rfl⟩
   obtain⟨y,hy⟩:∃y,y=at_.getD i 0:=⟨_,rfl⟩
   obtain⟨n,hn⟩:∃n,n=leastK c at_ i:=⟨_,rfl⟩
   rw[<-hx]at cP hci hnext
   rw[<-hy]at cA hai hnext
   rw[<-hn]at hL hnext⊢
   have r1:IntKind.i64.wrap (x*250)=x*250:=IntWalk.i64_in _ (by omega)
   have r2:IntKind.i64.wrap (x*250-y)=x*250-y:=IntWalk.i64_in _ (by omega)
   have r3:IntKind.i64.wrap (x*250+250)=x*250+250:=IntWalk.i64_in _ (by omega)
   have r4:IntKind.i64.wrap (x*250+250-1)=x*250+250-1:=IntWalk.i64_in _ (by omega)
   have r5:IntKind.i64.wrap (y-(x*250+250-1))=y-(x*250+250-1):=IntWalk.i64_in _ (by omega)
   have hgap:max (max (x*250-y) (y-(x*250+250-1))) 0=gapI (x*250) y:=rfl
   have Hnext:=Lib.hid hnext
   clear hcA hx hy hn hnext
   have mixed:Tryz.prog.follows .mixedOrders=true:=by kernel_rfl
   have hif:(if (if x*250-y<y-(x*250+250-1)then y-(x*250+250-1)else x*250-y)<0 then 0 else if x*250-y<y-(x*250+250-1)then y-(x*250+250-1)else x*250-y)=gapI (x*250) y:=by
    unfold gapI
    split<;>split<;>omega
   have hg0:0<=gapI (x*250) y∧gapI (x*250) y<=4000:=by unfold gapI;omega
   have hg2:=sq_bound (d:=gapI (x*250) y) (B:=4000) (by omega) (by omega)
   obtain⟨g,hg⟩:∃g,g=gapI (x*250) y:=⟨_,rfl⟩
   rw[<-hg]at hif hg2 Hnext
   obtain⟨gg,hgg⟩:∃gg,gg=g*g:=⟨_,rfl⟩
   rw[<-hgg]at hg2 Hnext
   have r6:IntKind.i64.wrap (g*g)=gg:=by rw[<-hgg];exact IntWalk.i64_in _ (by omega)
   have r7:IntKind.i64.wrap (n+gg)=n+gg:=IntWalk.i64_in _ (by omega)
   have Hgg:=Lib.hid hgg
   have Hif:=Lib.hid hif
   clear hg hgg hif hgap hg0 hg2
   go_upto_region 6 with(fail)
   go_big_region_o
   rw[Hif.out]
   clear r1 r2 r3 r4 r5
   go_wp2_with fail
   exact⟨⟨i+1,by omega,by go_num,by rw[Hnext.out],_,rfl⟩,by simp[intOf];omega⟩
  ·obtain rfl:i=dim:=by omega
   go_wp2_with fail
   go_ret
   exact⟨rfl,_,rfl⟩
end Go.Proofs.YtnmhgehpddipdaaGreatDoor
namespace Go.Proofs.YtnmhgehpddipdaaGreatDoor
open Go.RowKit Go.Cof Go.Sort Go.Shelf
structure RightOk(l out:List ItemV):Prop where
 sub:∀x∈out,x∈l
 ok:∀x∈out,itemB x 2=true
 nodup:(out.map (·.name)).Nodup
 len:out.length<=l.length
theorem item_info:∃i,Tryz.prog.info? 47=some i∧i.zero=some (.agg #[.string ⟨#[]⟩,.string ⟨#[]⟩,.slice none 0 0])∧i.size=3∧i.bytes=56:=by
 have h:(Tryz.prog.info? 47).map (λi=>(i.zero,i.size,i.bytes))=some (some (.agg #[.string ⟨#[]⟩,.string ⟨#[]⟩,.slice none 0 0]),3,56):=by kernel_rfl
 cases hi:Tryz.prog.info? 47 with
 | none=>rw[hi]at h;cases h
 | some i=>
  rw[hi]at h
  simp only[Option.map_some,Option.some.injEq,Prod.mk.injEq]at h
  exact⟨i,rfl,h.1,h.2.1,h.2.2⟩
theorem encItem_one3(nm tg:ByteArray)(pa:Option Addr)(nl ca:Nat):∀u∈ [Value.string nm,.string tg,.slice pa nl ca],u.oneCell'=true:=by
 intro u hu
 simp only[List.mem_cons,List.not_mem_nil,or_false]at hu
 rcases hu with rfl|rfl|rfl<;>rfl
theorem encItem_len(x:ItemV):(encItem x).length=3:=rfl
end Go.Proofs.YtnmhgehpddipdaaGreatDoor
namespace Go.Proofs.YtnmhgehpddipdaaGreatDoor
open Go.RowKit Go.Cof
theorem tab_keep{P:Program}{w w':World}{name:String}{k:IntKind}{zs:List Int}{g:Nat}(h:Lib.TabIs P w name k zs)(hg:P.globalNamed name=some g)(hh:w'.heap[g]? =w.heap[g]?):Lib.TabIs P w' name k zs:=by
 unfold Lib.TabIs World.var? at*
 rw[hg]at h⊢
 simp only[Option.bind_some,hh]at h⊢
 exact h
theorem powName:Tryz.prog.globalNamed "internal/strconv.uint64pow10" =some 2:=by kernel_rfl
def PowVar(w:World):Prop:=Lib.TabIs Tryz.prog w "internal/strconv.uint64pow10" .u64 Lib.pow10Tab
theorem PowVar.lt{w:World}(h:PowVar w):2<w.heap.size:=by
 have h0:(0:Nat)<Lib.pow10Tab.length:=by decide
 have:=Lib.TabIs.cell h powName 0 h0
 exact Lib.lt_of_cell this
theorem PowVar.keep{w w':World}(h:PowVar w){S:Nat->Prop}(hk:Keep S w w')(hn:¬S 2):PowVar w':=tab_keep h powName (hk.block _ h.lt hn)
theorem itoa_any(n:Int)(h0: -9223372036854775808<=n)(h1:n<=9223372036854775807)(w:World)(T:PowVar w):Calls Tryz.prog 7 #[.int .i64 n] w λe w'=>e= .returned (.string ⟨(Lib.itoa n).toArray⟩)∧Keep NoB w w':=by
 refine(Tryz.strconv_Itoa n h0 h1 w T).mono ?_
 rintro e w' ⟨he,k,os,hw⟩
 exact⟨he,Gr.keep ⟨k,os,hw⟩⟩
end Go.Proofs.YtnmhgehpddipdaaGreatDoor
namespace Go.Cof
open Go.RowKit Go.Proofs.YtnmhgehpddipdaaGreatDoor
theorem rises_snoc:∀(l:List PItem) (x:PItem),risesB (l++ [x])=(risesB l&&(match l.getLast? with|none=>true|some y=>decide (y.1.data.toList<x.1.data.toList)))
 | [],x=>rfl
 | [y],x=>by
  show risesB [y,x]=(risesB [y]&&decide (y.1.data.toList<x.1.data.toList))
  simp[risesB]
 | y::z::l,x=>by
  have ih:=rises_snoc (z::l) x
  show risesB (y::z::(l++ [x]))=_
  have e1:risesB (y::z::(l++ [x]))=(decide (y.1.data.toList<z.1.data.toList)&&risesB (z::(l++ [x]))):=rfl
  have e2:risesB (y::z::l)=(decide (y.1.data.toList<z.1.data.toList)&&risesB (z::l)):=rfl
  have e3:(y::z::l).getLast? =(z::l).getLast? :=by simp[List.getLast?_cons_cons]
  rw[e1,e2,e3,Bool.and_assoc,<-ih]
  rfl
theorem name_size{s:ByteArray}(h:nameB s=true):s.data.toList.length<=10:=by
 unfold nameB at h
 have h1:=(Bool.and_eq_true_iff.1 h).1
 have h2:=(Bool.and_eq_true_iff.1 h1).1
 have h3:=(Bool.and_eq_true_iff.1 h2).2
 exact of_decide_eq_true h3
theorem nums_len:∀ns:List Int,(∀n∈ns,-10000<n∧n<10000)->((ns.map Lib.itoa).flatMap (λq=>(32:UInt8)::q)).length<=6*ns.length:=by
 intro ns
 induction ns with
 | nil=>intro _;simp
 | cons n ns ih=>
  intro h
  have:=itoa_len n (h n List.mem_cons_self)
  have:=ih (λm hm=>h m (List.mem_cons_of_mem _ hm))
  rw[List.map_cons,List.flatMap_cons,List.length_append,List.length_cons,List.length_cons]
  omega
theorem item_sizes{x:PItem}{dim:Int}(h:pitemB x dim=true):x.1.data.toList.length<=10∧x.2.1.data.toList.length<=10∧x.2.2.length<=8:=by
 simp only[pitemB,Bool.and_eq_true,Bool.or_eq_true,decide_eq_true_eq,Bool.not_eq_true']at h
 obtain⟨⟨⟨⟨⟨h1,h2⟩,h3⟩,h4⟩,h5⟩,h6⟩:=h
 refine⟨name_size h1,?_,by omega⟩
 rcases h2 with h2|h2
 ·rw[h2];simp
 ·exact name_size h2
theorem line_len{x:PItem}{dim:Int}(h:pitemB x dim=true):(lineT x).length<=100:=by
 have hk:=itemOk_of h
 simp only[pitemB,Bool.and_eq_true,Bool.or_eq_true,decide_eq_true_eq,Bool.not_eq_true']at h
 obtain⟨⟨⟨⟨⟨h1,h2⟩,h3⟩,h4⟩,h5⟩,h6⟩:=h
 have n1:=name_size h1
 have n2:x.2.1.data.toList.length<=10:=by
  rcases h2 with h2|h2
  ·rw[h2];simp
  ·exact name_size h2
 have key:∀ns:List Int,(∀n∈ns,-10000<n∧n<10000)->((ns.map Lib.itoa).flatMap (λq=>(32:UInt8)::q)).length<=6*ns.length:=by
  intro ns
  induction ns with
  | nil=>intro _;simp
  | cons n ns ih=>
   intro h
   have:=itoa_len n (h n List.mem_cons_self)
   have:=ih (λm hm=>h m (List.mem_cons_of_mem _ hm))
   rw[List.map_cons,List.flatMap_cons,List.length_append,List.length_cons,List.length_cons]
   omega
 have:=key x.2.2 hk.ns
 rw[lineT,bodyT,List.length_append,List.length_append,List.flatMap_cons,List.length_append,List.length_cons,List.length_singleton]
 omega
def headT(dim:Int):List UInt8:=dimT++Lib.itoa dim++ [10]
theorem rows_len{l:List PItem}{dim:Int}(h:l.all (pitemB · dim)=true):(l.flatMap lineT).length<=100*l.length:=by
 induction l with
 | nil=>simp
 | cons x l ih=>
  rw[List.all_cons,Bool.and_eq_true]at h
  have:=line_len h.1
  have:=ih h.2
  rw[List.flatMap_cons,List.length_append,List.length_cons]
  omega
def okTo(dim:Int)(l:List ItemV)(j:Nat):Prop:=((l.take j).map plainI).all (pitemB · dim)=true∧risesB ((l.take j).map plainI)=true
theorem okTo_succ{dim:Int}{l:List ItemV}{j:Nat}{x:ItemV}(hx:l[j]? =some x):okTo dim l (j+1)↔okTo dim l j∧itemB x dim=true∧(∀y,0<j->l[j-1]? =some y->y.name.data.toList<x.name.data.toList):=by
 have hj:=(List.getElem?_eq_some_iff.1 hx)
 have hjl:j<l.length:=hj.1
 have e:(l.take (j+1)).map plainI=(l.take j).map plainI++ [plainI x]:=by
  rw[List.take_succ_eq_append_getElem hj.1,hj.2,List.map_append];rfl
 have hl:((l.take j).map plainI).getLast? =if 0<j then(l[j-1]?).map plainI else none:=by
  rw[List.getLast?_eq_getElem?,List.length_map,List.length_take,List.getElem?_map,List.getElem?_take]
  split
  ·rename_i h
   rw[if_pos (by omega),show min j l.length-1=j-1 by omega]
  ·rename_i h
   have:j=0:=by omega
   subst this
   simp
 unfold okTo
 rw[e,List.all_append,rises_snoc,hl,Bool.and_eq_true,Bool.and_eq_true]
 have hp: [plainI x].all (pitemB · dim)=itemB x dim:=by simp[<-pitemB_of]
 rw[hp]
 by_cases h0:0<j
 ·rw[if_pos h0]
  obtain⟨y,hy⟩:∃y,l[j-1]? =some y:=⟨_,List.getElem?_eq_getElem (by omega)⟩
  rw[hy]
  simp only[Option.map_some,decide_eq_true_eq]
  constructor
  ·rintro⟨⟨h1,h2⟩,h3,h4⟩
   exact⟨⟨h1,h3⟩,h2,λy' _ e=>by obtain rfl:=Option.some.inj e;exact h4⟩
  ·rintro⟨⟨h1,h3⟩,h2,h4⟩
   exact⟨⟨h1,h2⟩,h3,h4 y h0 rfl⟩
 ·rw[if_neg h0]
  simp only[and_true]
  constructor
  ·rintro⟨⟨h1,h2⟩,h3⟩
   exact⟨⟨h1,h3⟩,h2,λy h=>absurd h h0⟩
  ·rintro⟨⟨h1,h3⟩,h2,_⟩
   exact⟨⟨h1,h2⟩,h3⟩
theorem okTo_zero(dim:Int)(l:List ItemV):okTo dim l 0:=⟨rfl,rfl⟩
theorem okTo_down{dim:Int}{l:List ItemV}{j n:Nat}(h:okTo dim l n)(hj:j<=n):okTo dim l j:=by
 have e:(l.take j).map plainI=((l.take n).map plainI).take j:=by rw[<-List.map_take,List.take_take,Nat.min_eq_left hj]
 refine⟨?_,by rw[e];exact risesB_take _ _ h.2⟩
 rw[e]
 exact List.all_eq_true.2 λx hx=>List.all_eq_true.1 h.1 x (List.mem_of_mem_take hx)
theorem printOk_to{dim:Int}{l:List ItemV} :printOk dim (l.map plainI)=true↔1<=dim∧dim<=8∧l.length<=60∧okTo dim l l.length:=by
 unfold okTo
 rw[List.take_length]
 simp only[printOk,Bool.and_eq_true,decide_eq_true_eq,List.length_map]
 constructor
 ·rintro⟨⟨⟨⟨h1,h2⟩,h3⟩,h4⟩,h5⟩;exact⟨h1,h2,h3,h4,h5⟩
 ·rintro⟨h1,h2,h3,h4,h5⟩;exact⟨⟨⟨⟨h1,h2⟩,h3⟩,h4⟩,h5⟩
end Go.Cof
namespace Go.Proofs.YtnmhgehpddipdaaGreatDoor
open Go.RowKit Go.Cof
theorem two_types'{w:World}{g:Nat}{c c':Array Value}{t t':TypeId}{f f':Nat×Nat}(h:w.heap[g]? =some (.cells c t f))(h':w.heap[g]? =some (.cells c' t' f')):t=t':=by
 rw[h]at h'
 have:=Option.some.inj h'
 simp only[Obj.cells.injEq]at this
 exact this.2.1
def printS(dim:Int)(l:List ItemV):ByteArray:=if printOk dim (l.map plainI)then⟨(printT dim (l.map plainI)).toArray⟩else⟨#[]⟩
def printE(dim:Int)(l:List ItemV):Value:=if printOk dim (l.map plainI)then .nilIface else errVal 1
set_option maxRecDepth 100000 in
set_option maxHeartbeats 8000000 in
theorem print_any(dim:Int)(v:Value)(l:List ItemV)(w:World)(I:Items w v l)(hl:l.length<=maxLen)(hns:∀x∈l,x.ns.length<=1000000)(T:PowVar w):
  Calls Tryz.prog 39 #[.int .i64 dim,v] w λe w'=>e= .returned (.tuple #[.string (printS dim l),printE dim l])∧Keep NoB w w':=by
 obtain⟨p,c,rfl⟩:=I.rows.len
 obtain⟨n,hn⟩:∃n,n=l.length:=⟨_,rfl⟩
 rw[<-hn]at I hl⊢
 have hmax:(n:Int)<=9223372036854775807:=by unfold maxLen at hl;omega
 have HNo:Hid (printOk dim (l.map plainI)=false->Ending.returned (.tuple #[.string (printS dim l),printE dim l])= .returned (.tuple #[.string ⟨#[]⟩,.iface 40 (.int .i64 1)])):=Lib.hid (λh=>by rw[printS,printE,h];rfl)
 have Hn:=Lib.hid hn
 have HI:=Lib.hid I
 have HT:=Lib.hid T
 have Hns:=Lib.hid hns
 have hfalse:¬(1<=dim∧dim<=8∧n<=60∧okTo dim l n)->printOk dim (l.map plainI)=false:=λh=>by
  cases hp:printOk dim (l.map plainI)with
  | false=>rfl
  | true=>exact absurd (by rw[hn];exact printOk_to.1 hp) h
 have HF:=Lib.hid hfalse
 obtain⟨RV,hRV⟩:∃R,R=Ending.returned (.tuple #[.string (printS dim l),printE dim l]):=⟨_,rfl⟩
 rw[<-hRV]at HNo⊢
 have HRV:=Lib.hid hRV
 clear hn I T hns hfalse hRV hl
 by_cases hd:1<=dim∧dim<=8
 case neg=>
  have hno:=HNo.out (HF.out (λh=>hd ⟨h.1,h.2.1⟩))
  rw[hno]
  by_cases h1:dim<1
  ·go_enter Tryz.func39,Tryz.ntmps39
   go_wp2_with fail
   go_ret2
   exact⟨rfl,Keep.refl _ _⟩
  ·have h2:8<dim:=by omega
   go_enter Tryz.func39,Tryz.ntmps39
   go_wp2_with fail
   go_ret2
   exact⟨rfl,Keep.refl _ _⟩
 have h1:¬dim<1:=by omega
 have h8:¬8<dim:=by omega
 by_cases h60:n<=60
 case neg=>
  have hno:=HNo.out (HF.out (λh=>h60 h.2.2.1))
  rw[hno]
  have h2:(60:Int)<n:=by omega
  go_enter Tryz.func39,Tryz.ntmps39
  go_wp2_with fail
  go_ret2
  exact⟨rfl,Keep.refl _ _⟩
 have h61:¬((60:Int)<n):=by omega
 have hB0:=isB_new w
 have K0:Keep NoB w (w.alloc (.cells #[.pointer none,.slice none 0 0] 67)):=(Keep.refl _ _).alloc _
 have hblt:w.heap.size<(w.alloc (.cells #[.pointer none,.slice none 0 0] 67)).heap.size:=by show w.heap.size<(w.heap.push _).size;rw[Array.size_push];omega
 obtain⟨wb,hwb⟩:∃wb,wb=w.alloc (.cells #[.pointer none,.slice none 0 0] 67):=⟨_,rfl⟩
 obtain⟨b,hb⟩:∃b,b=w.heap.size:=⟨_,rfl⟩
 rw[<-hwb,<-hb]at hB0 hblt
 rw[<-hwb]at K0
 have Hwb:=Lib.hid hwb
 have Hb:=Lib.hid hb
 have hdimT:=itoa_len dim (by omega)
 have HdimT:=Lib.hid hdimT
 have hito:=λw1 (K:Keep NoB w w1)=>itoa_any dim (by omega) (by omega) w1 (HT.out.keep K (λx=>x))
 obtain⟨dt,hdt⟩:∃dt:ByteArray,dt=⟨(Lib.itoa dim).toArray⟩:=⟨_,rfl⟩
 rw[<-hdt]at hito
 have Hito:=Lib.hid (hito wb K0)
 have Hdt:=Lib.hid hdt
 have HB0:=Lib.hid hB0
 clear hwb hb hdimT hito hdt hB0
 go_enter Tryz.func39,Tryz.ntmps39
 go_wp2_with fail
 rw[<-Hwb.out,<-Hb.out]
 refine Hito.out.mono ?_
 rintro e w1 ⟨rfl,K1⟩
 have hdts:dt.size<=5:=by rw[Hdt.out];have:=HdimT.out;simpa [ByteArray.size]using this
 have hs1:((⟨#[100,105,109,32]⟩:ByteArray)++dt++(⟨#[10]⟩:ByteArray)).size=dt.size+5:=by rw[ByteArray.size_append,ByteArray.size_append];show 4+dt.size+1=_;omega
 have HB1:=Lib.hid (HB0.out.keepN K1)
 obtain⟨S0,hS0⟩:∃S0:ByteArray,S0=⟨#[100,105,109,32]⟩++dt++⟨#[10]⟩:=⟨_,rfl⟩
 have hS0l:S0.data.toList=headT dim:=by
  rw[hS0,Hdt.out,ByteArray.data_append,ByteArray.data_append]
  simp[headT,dimT]
 have hS0s:S0.size<=10:=by rw[hS0,hs1];omega
 have hwr:=write_any b b [] S0 w1 HB1.out (by simp;omega) (by have:=K1.size;omega)
 rw[List.nil_append,hS0l]at hwr
 have Hwr:=Lib.hid hwr
 have HS0:=Lib.hid hS0
 clear hwr hS0 hS0l hS0s hs1
 go_wp2_with fail
 rw[<-HS0.out]
 refine Hwr.out.mono ?_
 rintro e w2 ⟨rfl,B2,K2⟩
 have KW:∀x,x<w.heap.size->∀w',¬Wr b b w' x:=λx hx w' hw=>by
  have:=Hb.out
  rcases hw with h|⟨h,_⟩<;>omega
 have HKW:=Lib.hid KW
 have KA:Keep NoB w w2:=(K0.thenN K1).trans K2 (λi hi hs=>absurd hs (KW i hi _))
 have HB2:=Lib.hid B2
 have hbw2:b<w2.heap.size:=Nat.lt_of_lt_of_le hblt (Nat.le_trans K1.size K2.size)
 clear KW B2 Hito HB1 HB0 Hwr
 go_wp2_with fail
 go_loopw [30] (λiv wr=>∃j:Nat,j<=n∧iv= .int .i64 j∧Hid (okTo dim l j)∧Hid (IsB b b (headT dim++((l.take j).map plainI).flatMap lineT) wr)∧b<wr.heap.size∧Keep NoB w wr) (λiv _=>n-(intOf iv).toNat)
 case atStart=>exact⟨0,by omega,rfl,Lib.hid (okTo_zero dim l),Lib.hid (by rw[List.take_zero,List.map_nil,List.flatMap_nil,List.append_nil];exact HB2.out),hbw2,KA⟩
 case round=>
  clear HB2 KA K1 K2 hbw2
  obtain⟨j,hj,rfl,hok,hB,hbw,K⟩:=hrel
  obtain⟨wo,rfl⟩:∃wo,wo=wr:=⟨_,rfl⟩
  by_cases hlt:j<n
  ·have j1:(j:Int)<n:=by omega
   have Ir:=HI.out.rows.keep K (λ_ _ x=>x)
   obtain⟨pb,off,rfl,-,hpb,hcell⟩:=Ir.at (by have:=Hn.out;omega)
   obtain⟨x,hx⟩:∃x,l[j]? =some x:=⟨_,List.getElem?_eq_getElem (by have:=Hn.out;omega)⟩
   have hra:=hcell j x hx
   have hxm:x∈l:=List.mem_of_getElem? hx
   have Nx:=(HI.out.nums x hxm).keep K (λ_ _ x=>x)
   have hsu:=okTo_succ (dim:=dim) hx
   have c0:wo.cell? ⟨pb,off+j*3,none⟩=some (.string x.name):=hra 0 _ rfl
   have c1:wo.cell? ⟨pb,off+j*3+1,none⟩=some (.string x.tag):=hra 1 _ rfl
   have c2:wo.cell? ⟨pb,off+j*3+2,none⟩=some x.av:=hra 2 _ rfl
   obtain⟨px,cx,hav⟩:=Nx.len
   have hri:=λw' (Kx:Keep NoB wo w')=>itemRight_any x dim w' (Nx.keep Kx (λ_ _ x=>x)) (Hns.out x hxm)
   have henc:(encItem x).toArray= #[.string x.name,.string x.tag,.slice px x.ns.length cx]:=by rw[encItem,hav]
   rw[henc]at hri
   rw[hav]at c2
   obtain⟨R,hR⟩:∃R,R=itemB x dim:=⟨_,rfl⟩
   rw[<-hR]at hri hsu
   obtain⟨nx,hnx⟩:∃nx,nx=x.ns.length:=⟨_,rfl⟩
   rw[<-hnx]at hri c2
   obtain⟨nm,hnm⟩:∃nm,nm=x.name:=⟨_,rfl⟩
   obtain⟨tg,htg⟩:∃tg,tg=x.tag:=⟨_,rfl⟩
   rw[<-hnm,<-htg]at hri
   rw[<-hnm]at c0
   rw[<-htg]at c1
   have hprev:∀w',Keep NoB wo w'->0<j->∃y,l[j-1]? =some y∧w'.cell? ⟨pb,off+(j-1)*3,none⟩=some (.string y.name):=λw' Kx h0=>by
    obtain⟨y,hy⟩:∃y,l[j-1]? =some y:=⟨_,List.getElem?_eq_getElem (by have:=Hn.out;omega)⟩
    exact⟨y,hy,(Kx.cell (p:=⟨pb,off+(j-1)*3,none⟩) hpb (λx=>x)).trans (hcell (j-1) y hy 0 _ rfl)⟩
   have hbody:lineT (plainI x)=nm.data.toList++ [32]++tg.data.toList++(x.ns.map Lib.itoa).flatMap (λq=>(32:UInt8)::q)++ [10]:=by
    rw[hnm,htg,lineT,bodyT,plainI]
    simp
   have Hsu:=Lib.hid hsu
   have Hri:=Lib.hid hri
   have Hprev:=Lib.hid hprev
   have Hbody:=Lib.hid hbody
   have HNx:=Lib.hid Nx
   have HR:=Lib.hid hR
   have Hnx:=Lib.hid hnx
   have Hx:=Lib.hid hx
   have HxM:=Lib.hid hxm
   have Hav:=Lib.hid hav
   have hjn1:(j:Int)-1<n:=by omega
   have Hnm:=Lib.hid hnm
   have Htg:=Lib.hid htg
   clear hsu hri hprev hbody Nx hR hnx hx hav henc hra hcell hxm hnm htg Ir
   go_wp2_with fail
   obtain⟨wX,hwX⟩:∃wX,wX=wo.alloc (.cells #[.string nm,.string tg,.slice px nx cx] 47):=⟨_,rfl⟩
   obtain⟨X,hXe⟩:∃X,X=wo.heap.size:=⟨_,rfl⟩
   have hX:wX.heap[X]? =some (.cells #[.string nm,.string tg,.slice px nx cx] 47 (0,0)):=by rw[hwX,hXe];exact heap_alloc_new wo _
   have KX:Keep NoB wo wX:=by rw[hwX];exact(Keep.refl _ _).alloc _
   rw[<-hwX,<-hXe]
   have hXlt:=lt_of_heap hX
   have x0:wX.cell? ⟨X,0,none⟩=some (.string nm):=by rw[cell_of_row _ _ _ _ _ (0,0) hX];rfl
   have x1:wX.cell? ⟨X,1,none⟩=some (.string tg):=by rw[cell_of_row _ _ _ _ _ (0,0) hX];rfl
   have x2:wX.cell? ⟨X,2,none⟩=some (.slice px nx cx):=by rw[cell_of_row _ _ _ _ _ (0,0) hX];rfl
   have HX:=Lib.hid hX
   have HXe:=Lib.hid hXe
   have HKX:=Lib.hid KX
   have Hri2:=Lib.hid (λY:Ext wX=>Hri.out (wX.ext Y) (KX.thenN (ext_keep wX Y)))
   have hpbX:pb<wX.heap.size:=Nat.lt_of_lt_of_le hpb KX.size
   clear hwX hXe hX KX Hri c0 c1 c2
   go_cut [53] (λbv wx=>∃G:Bool,bv= .bool (!G)∧Hid (G=true↔okTo dim l (j+1))∧Keep NoB wX wx)
   case first=>
    cases R with
    | false=>
     refine wp_region_q_ext (by kernel_rfl) (by kernel_rfl) ?_
     repeat((with_reducible refine wpQuiet_step (λK hK=> ?_));go_simp;first|(refine hK _ ?_;clear hK K)|(apply Exists.intro;refine⟨λ_=> ?_,hK _ ?_⟩;(go_at_call 42;exact quiet_ext _ (Hri2.out _));clear hK K))
     refine wpQuiet_nil ?_
     intro Y
     go_wp2_with fail
     go_meet
     case rel=>exact⟨false,rfl,Lib.hid ⟨λh=>(by cases h),λh=>(by have:=(Hsu.out.1 h).2.1;cases this)⟩,ext_keep wX Y⟩
    | true=>
     by_cases hj0:j=0
     ·have hj1:¬(0<j):=by omega
      have Hj0:=Lib.hid hj0
      clear hj0
      refine wp_region_q_ext (by kernel_rfl) (by kernel_rfl) ?_
      repeat((with_reducible refine wpQuiet_step (λK hK=> ?_));go_simp;first|(refine hK _ ?_;clear hK K)|(apply Exists.intro;refine⟨λ_=> ?_,hK _ ?_⟩;(go_at_call 42;exact quiet_ext _ (Hri2.out _));clear hK K))
      refine wpQuiet_nil ?_
      intro Y
      go_wp2_with fail
      go_meet
      case rel=>exact⟨true,rfl,Lib.hid ⟨λ_=>Hsu.out.2 ⟨hok.out,(by first|rfl|trivial),λy h=>by have:=Hj0.out;omega⟩,λ_=>rfl⟩,ext_keep wX Y⟩
     ·have hj1:0<j:=by omega
      have hji:(0:Int)<j:=by omega
      obtain⟨y,hy,hyc⟩:=Hprev.out wX HKX.out (by omega)
      have hw1:IntKind.i64.wrap ((j:Int)-1)=((j-1:Nat):Int):=by rw[IntWalk.i64_in _ (by omega)];omega
      have hjm:j-1<n:=by omega
      obtain⟨S,hS⟩:∃S,S=Op.bytesLess y.name.toList nm.toList:=⟨_,rfl⟩
      have hS':=hS.symm
      have Hy:=Lib.hid hy
      have HSS:=Lib.hid hS
      obtain⟨yn,hyn⟩:∃yn,yn=y.name:=⟨_,rfl⟩
      rw[<-hyn]at hyc hS'
      have Hyn:=Lib.hid hyn
      clear hy hS hyn
      cases S with
      | true=>
       refine wp_region_q_ext (by kernel_rfl) (by kernel_rfl) ?_
       repeat((with_reducible refine wpQuiet_step (λK hK=> ?_));go_simp;first|(refine hK _ ?_;clear hK K)|(apply Exists.intro;refine⟨λ_=> ?_,hK _ ?_⟩;(go_at_call 42;exact quiet_ext _ (Hri2.out _));clear hK K))
       refine wpQuiet_nil ?_
       intro Y
       go_wp2_with fail
       go_meet
       case rel=>
        refine⟨true,rfl,Lib.hid ⟨λ_=>Hsu.out.2 ⟨hok.out,(by first|rfl|trivial),λy2 _ e=> ?_⟩,λ_=>rfl⟩,ext_keep wX Y⟩
        rw[Hy.out]at e
        obtain rfl:=Option.some.inj e
        have h2:=HSS.out
        rw[less_eq]at h2
        have h3:=of_decide_eq_true h2.symm
        rw[ByteArray.toList_eq,ByteArray.toList_eq,Hnm.out]at h3
        exact h3
      | false=>
       refine wp_region_q_ext (by kernel_rfl) (by kernel_rfl) ?_
       repeat((with_reducible refine wpQuiet_step (λK hK=> ?_));go_simp;first|(refine hK _ ?_;clear hK K)|(apply Exists.intro;refine⟨λ_=> ?_,hK _ ?_⟩;(go_at_call 42;exact quiet_ext _ (Hri2.out _));clear hK K))
       refine wpQuiet_nil ?_
       intro Y
       go_wp2_with fail
       go_meet
       case rel=>
        refine⟨false,rfl,Lib.hid ⟨λh=>(by cases h),λh=> ?_⟩,ext_keep wX Y⟩
        have h1:=(Hsu.out.1 h).2.2 y (by omega) Hy.out
        have h2:=HSS.out
        rw[less_eq]at h2
        have h3:=of_decide_eq_false h2.symm
        rw[ByteArray.toList_eq,ByteArray.toList_eq,Hnm.out]at h3
        exact absurd h1 h3
   case rest=>
    obtain⟨G,rfl,HG,K3⟩:=hcut
    obtain⟨w3,rfl⟩:∃w3,w3=wc:=⟨_,rfl⟩
    have Kw3:Keep NoB w w3:=(K.thenN HKX.out).thenN K3
    cases G with
    | false=>
     have hno:=HNo.out (HF.out (λh=>by
      have h2:=HG.out.2 (okTo_down h.2.2.2 (by omega))
      cases h2))
     have Hno:=Lib.hid hno
     clear hno
     go_wp2_with fail
     go_ret2
     exact⟨by rw[Hno.out];rfl,Kw3⟩
    | true=>
     have hok1:=HG.out.1 (by first|rfl|trivial)
     have hx3:=K3.heap HX.out (λx=>x)
     have y0:w3.cell? ⟨X,0,none⟩=some (.string nm):=by rw[cell_of_row _ _ _ _ _ (0,0) hx3];rfl
     have y1:w3.cell? ⟨X,1,none⟩=some (.string tg):=by rw[cell_of_row _ _ _ _ _ (0,0) hx3];rfl
     have hit:pitemB (plainI x) dim=true:=HR.out.symm.trans (Hsu.out.1 hok1).2.1
     have hsz:=item_sizes hit
     have hib:=(itemOk_of hit).ns
     have hnx8:nx<=8:=by have h3:x.ns.length<=8:=hsz.2.2;have:=Hnx.out;omega
     have hszn:nm.size<=10:=by rw[Hnm.out];exact hsz.1
     have hszt:tg.size<=10:=by rw[Htg.out];exact hsz.2.1
     obtain⟨cur,hcur⟩:∃cur,cur=headT dim++((l.take j).map plainI).flatMap lineT:=⟨_,rfl⟩
     have hcl:cur.length<=7000:=by
      have h1:=rows_len hok.out.1
      have h2:(headT dim).length<=10:=by
       have:=HdimT.out
       rw[headT,List.length_append,List.length_append]
       show 4+_+1<=10
       omega
      have h3:((l.take j).map plainI).length<=60:=by rw[List.length_map,List.length_take];have:=Hn.out;omega
      rw[hcur,List.length_append]
      omega
     have hB3:IsB b b cur w3:=by rw[hcur];exact hB.out.keepN (HKX.out.thenN K3)
     obtain⟨S1,hS1⟩:∃S1:ByteArray,S1=nm++⟨#[32]⟩++tg:=⟨_,rfl⟩
     have hS1s:S1.size<=21:=by rw[hS1,ByteArray.size_append,ByteArray.size_append];show nm.size+1+tg.size<=21;omega
     have hS1l:S1.data.toList=nm.data.toList++ [32]++tg.data.toList:=by rw[hS1,ByteArray.data_append,ByteArray.data_append];simp
     have hbw3:b<w3.heap.size:=Nat.lt_of_lt_of_le hbw (Nat.le_trans HKX.out.size K3.size)
     have hwr1:=write_any b b cur S1 w3 hB3 (by omega) (by omega)
     have hcat:nm.size+1+tg.size<=1000:=by omega
     have hns1:((nm++⟨#[32]⟩:ByteArray)).size=nm.size+1:=ByteArray.size_append
     have Hwr1:=Lib.hid hwr1
     have HS1:=Lib.hid hS1
     have HS1l:=Lib.hid hS1l
     have Hcur:=Lib.hid hcur
     have Hx3:=Lib.hid hx3
     have Hib:=Lib.hid hib
     have Hsz:=Lib.hid hsz
     have Hok1:=Lib.hid hok1
     clear hwr1 hS1 hS1l hcur hx3 hit hib hsz hB3 hok1
     go_wp2_with fail
     rw[<-HS1.out]
     refine Hwr1.out.mono ?_
     rintro e w4 ⟨rfl,B4,K4⟩
     have Kw4:Keep NoB w w4:=Kw3.trans K4 (λi hi hs=>absurd hs (HKW.out i hi _))
     have hx4:=K4.heap Hx3.out (λhs=>by
      rcases hs with h|⟨_,cs,fz,h⟩
      ·have:=HXe.out;omega
      ·exact absurd (two_types' Hx3.out h) (by decide))
     have z2:w4.cell? ⟨X,2,none⟩=some (.slice px nx cx):=by rw[cell_of_row _ _ _ _ _ (0,0) hx4];rfl
     have HB4:=Lib.hid B4
     have hbw4:b<w4.heap.size:=Nat.lt_of_lt_of_le hbw3 K4.size
     clear B4 hx4 Hwr1
     go_wp2_with fail
     go_loopw [65] (λiv wr=>∃k:Nat,k<=nx∧iv= .int .i64 k∧Hid (IsB b b (cur++S1.data.toList++((x.ns.take k).map Lib.itoa).flatMap (λq=>(32:UInt8)::q)) wr)∧b<wr.heap.size∧Keep NoB w wr) (λiv _=>nx-(intOf iv).toNat)
     case atStart=>exact⟨0,by omega,rfl,Lib.hid (by rw[List.take_zero,List.map_nil,List.flatMap_nil,List.append_nil];exact HB4.out),hbw4,Kw4⟩
     case round=>
      clear HB4 Kw4 K4 Kw3 z2 hbw4
      obtain⟨k,hk,rfl,hBk,hbk,Kk⟩:=hrel
      obtain⟨w5,rfl⟩:∃w5,w5=wr:=⟨_,rfl⟩
      by_cases hkn:k<nx
      ·have k1:(k:Int)<nx:=by omega
       have Nk:=(HI.out.nums x HxM.out).keep Kk (λ_ _ x=>x)
       rw[Hav.out,<-Hnx.out]at Nk
       obtain⟨bn,on,rfl,-,hbn,hcn⟩:=Nk.at (by have:=Hnx.out;omega)
       have cn:=hcn k (by have:=Hnx.out;omega)
       obtain⟨y,hy⟩:∃y,x.ns[k]? =some y:=⟨_,List.getElem?_eq_getElem (by have:=Hnx.out;omega)⟩
       rw[List.getD_eq_getElem?_getD,hy]at cn
       have cn':w5.cell? ⟨bn,on+k,none⟩=some (.int .i64 y):=cn
       have hyb:=Hib.out y (List.mem_of_getElem? hy)
       have hito:=itoa_any y (by omega) (by omega) w5 (HT.out.keep Kk (λx=>x))
       obtain⟨it,hit⟩:∃it:ByteArray,it=⟨(Lib.itoa y).toArray⟩:=⟨_,rfl⟩
       rw[<-hit]at hito
       have hitl:it.data.toList=Lib.itoa y:=by rw[hit]
       have hits:it.size<=5:=by have:=itoa_len y hyb;rw[<-hitl]at this;exact this
       have htk:((x.ns.take (k+1)).map Lib.itoa).flatMap (λq=>(32:UInt8)::q)=((x.ns.take k).map Lib.itoa).flatMap (λq=>(32:UInt8)::q)++32::it.data.toList:=by
        have hkl:=(List.getElem?_eq_some_iff.1 hy)
        rw[List.take_succ_eq_append_getElem hkl.1,hkl.2,List.map_append,List.flatMap_append,hitl]
        simp
       have hlk:(((x.ns.take k).map Lib.itoa).flatMap (λq=>(32:UInt8)::q)).length<=48:=by
        have h1:=nums_len (x.ns.take k) (λn hn=>Hib.out n (List.mem_of_mem_take hn))
        have h2:(x.ns.take k).length<=8:=by rw[List.length_take];have:=Hsz.out.2.2;show min k x.ns.length<=8;have h3:x.ns.length<=8:=this;omega
        omega
       have Hito:=Lib.hid hito
       have Htk:=Lib.hid htk
       have Hlk:=Lib.hid hlk
       have hcat2:((⟨#[32]⟩:ByteArray)++it).size=it.size+1:=by rw[ByteArray.size_append];show 1+it.size=_;omega
       clear cn hcn hy hito hit hitl htk hlk Nk
       go_wp2_with fail
       refine Hito.out.mono ?_
       rintro e w6 ⟨rfl,K6⟩
       obtain⟨S2,hS2⟩:∃S2:ByteArray,S2=⟨#[32]⟩++it:=⟨_,rfl⟩
       have hS2l:S2.data.toList=32::it.data.toList:=by rw[hS2,ByteArray.data_append];simp
       have hw2:=write_any b b _ S2 w6 (hBk.out.keepN K6) (by
        rw[List.length_append,List.length_append]
        have h1:S1.data.toList.length=S1.size:=rfl
        have h2:S2.size=it.size+1:=by rw[hS2];exact hcat2
        have:=Hlk.out
        omega) (by have:=K6.size;omega)
       rw[List.append_assoc,hS2l,<-Htk.out]at hw2
       have Hw2:=Lib.hid hw2
       have HS2:=Lib.hid hS2
       clear hw2 hS2 hS2l
       go_wp2_with fail
       rw[<-HS2.out]
       refine Hw2.out.mono ?_
       rintro e w7 ⟨rfl,B7,K7⟩
       have HB7:=Lib.hid B7
       clear B7
       go_wp2_with fail
       exact⟨⟨k+1,by omega,by go_num,HB7,Nat.lt_of_lt_of_le hbk (Nat.le_trans K6.size K7.size),(Kk.thenN K6).trans K7 (λi hi hs=>absurd hs (HKW.out i hi _))⟩,by simp[intOf];omega⟩
      ·obtain rfl:k=nx:=by omega
       have hfull:cur++S1.data.toList++((x.ns.take k).map Lib.itoa).flatMap (λq=>(32:UInt8)::q)++(⟨#[10]⟩:ByteArray).data.toList=headT dim++((l.take (j+1)).map plainI).flatMap lineT:=by
        have hj2:=(List.getElem?_eq_some_iff.1 Hx.out)
        rw[List.take_of_length_le (by have:=Hnx.out;omega),List.take_succ_eq_append_getElem hj2.1,hj2.2,List.map_append,List.flatMap_append,Hcur.out,HS1l.out]
        have h1:(List.map plainI [x]).flatMap lineT=lineT (plainI x):=by simp
        rw[h1,Hbody.out]
        simp
       have hlk:(((x.ns.take k).map Lib.itoa).flatMap (λq=>(32:UInt8)::q)).length<=48:=by
        have h1:=nums_len (x.ns.take k) (λn hn=>Hib.out n (List.mem_of_mem_take hn))
        have h2:(x.ns.take k).length<=8:=by rw[List.length_take];have h3:x.ns.length<=8:=Hsz.out.2.2;omega
        omega
       have hw2:=write_any b b _ ⟨#[10]⟩ w5 hBk.out (by
        rw[List.length_append,List.length_append]
        have h1:S1.data.toList.length=S1.size:=rfl
        show _+1<=_
        omega) (by omega)
       rw[hfull]at hw2
       have Hw2:=Lib.hid hw2
       clear hw2 hfull hlk
       go_wp2_with fail
       refine Hw2.out.mono ?_
       rintro e w7 ⟨rfl,B7,K7⟩
       have HB7:=Lib.hid B7
       clear B7
       go_wp2_with fail
       exact⟨⟨j+1,by omega,by go_num,Hok1,HB7,Nat.lt_of_lt_of_le hbk K7.size,Kk.trans K7 (λi hi hs=>absurd hs (HKW.out i hi _))⟩,by simp[intOf];omega⟩
  ·obtain rfl:j=n:=by omega
   have hall:printOk dim (l.map plainI)=true:=printOk_to.2 ⟨hd.1,hd.2,by rw[<-Hn.out];exact h60,by rw[<-Hn.out];exact hok.out⟩
   have hRV2:RV=Ending.returned (.tuple #[.string ⟨(printT dim (l.map plainI)).toArray⟩,.nilIface]):=by rw[HRV.out,printS,printE,if_pos hall,if_pos hall]
   have hBn:=hB.out
   rw[List.take_of_length_le (by have:=Hn.out;omega)]at hBn
   have hstr:=Tryz.Builder_String_any_k b b _ wo hBn (by omega)
   have Hstr:=Lib.hid hstr
   have HRV2:=Lib.hid hRV2
   have hbw':=hbw
   clear hall hRV2 hBn hstr
   go_wp2_with fail
   refine Hstr.out.mono ?_
   rintro e w9 ⟨rfl,-,hBl,-⟩
   go_wp2_with fail
   go_ret2
   refine⟨by rw[HRV2.out];rfl,⟨hBl.os.trans K.os,hBl.tape.trans K.tape,hBl.output.trans K.output,Nat.le_trans K.size hBl.size,λi hi hn=> ?_⟩⟩
   rw[hBl.block i (by have:=Hb.out;omega)]
   exact K.block i hi hn
end Go.Proofs.YtnmhgehpddipdaaGreatDoor
namespace Go.Proofs.YtnmhgehpddipdaaGreatDoor
open Go.RowKit Go.Cof
def ErrLike(v:Value):Prop:=v= .nilIface∨∃te pe,v= .iface te pe
structure NumErrs(w:World):Prop where
 range:∃ev,w.cell? ⟨9,0,none⟩=some ev∧ErrLike ev
 form:∃ev,w.cell? ⟨8,0,none⟩=some ev∧ErrLike ev
theorem NumErrs.keep{w w':World}(h:NumErrs w){S:Nat->Prop}(hk:Keep S w w')(h1:¬S 9)(h2:¬S 8):NumErrs w':=by
 obtain⟨⟨a,ha,ha'⟩,⟨b,hb,hb'⟩⟩:=h
 exact⟨⟨a,(hk.cell (p:=⟨9,0,none⟩) (Lib.lt_of_cell ha) h1).trans ha,ha'⟩,⟨b,(hk.cell (p:=⟨8,0,none⟩) (Lib.lt_of_cell hb) h2).trans hb,hb'⟩⟩
theorem keep_bytes(w:World)(e:TypeId)(s:ByteArray):Keep NoB w (Lib.bytesWorld w e s):=Keep.ofBelow (Lib.bytesWorld_below w e s)
def NumSaid(s:ByteArray)(e:Ending):Prop:=∃(n:Int) (b:Bool),e= .returned (.tuple #[.int .i64 n,.bool b])∧(match numT s.data.toList with|some v=>n=v∧b=true|none=>b=false)
set_option maxRecDepth 100000 in
theorem number_any(s:ByteArray)(w:World)(hs:s.size<=1000000)(T:PowVar w)(E:NumErrs w):
  Calls Tryz.prog 76 #[.string s] w λe w'=>NumSaid s e∧Keep NoB w w':=by
 have hbad:∀(n:Int) (N:Nat),numT s.data.toList=none->Calls Tryz.prog 145 #[.string s] w (λe w'=>∃N,e= .returned (.tuple #[.int .i64 n,.iface 298 (.pointer (some ⟨N,0,none⟩))])∧Keep NoB w w')->
   Calls Tryz.prog 76 #[.string s] w λe w'=>NumSaid s e∧Keep NoB w w':=by
  intro n N hno hc
  have HS:Hid (NumSaid s (.returned (.tuple #[.int .i64 n,.bool false]))):=Lib.hid ⟨n,false,rfl,by rw[hno]⟩
  clear hno
  go_enter Tryz.func76,Tryz.ntmps76
  go_wp2_with fail
  refine hc.mono ?_
  rintro e w1 ⟨N1,rfl,K1⟩
  go_wp2_with fail
  go_ret2
  exact⟨HS.out,K1⟩
 cases hA:Lib.atoiAll s.data.toList with
 | ok v=>
  have hc:=Tryz.strconv_Atoi_ok s (by omega) v hA w
  have hvb:=Lib.atoiAll_bounds hA
  obtain⟨it,hit⟩:∃it:ByteArray,it=⟨(Lib.itoa v).toArray⟩:=⟨_,rfl⟩
  have hito:=λw1 (K:Keep NoB w w1)=>itoa_any v hvb.1 hvb.2 w1 (T.keep K (λx=>x))
  rw[<-hit]at hito
  have hitl:it.data.toList=Lib.itoa v:=by rw[hit]
  obtain⟨B,hB⟩:∃B,B=(it.toList==s.toList):=⟨_,rfl⟩
  have hS:NumSaid s (.returned (.tuple #[.int .i64 v,.bool B])):=by
   refine⟨v,B,rfl,?_⟩
   rw[numT,hA]
   show(match (if Lib.itoa v=s.data.toList then some v else none)with|some v_1=>v=v_1∧B=true|none=>B=false)
   rw[ByteArray.toList_eq,ByteArray.toList_eq,hitl]at hB
   by_cases e:Lib.itoa v=s.data.toList
   ·rw[if_pos e]
    exact⟨rfl,by rw[hB,e];exact beq_self_eq_true _⟩
   ·rw[if_neg e]
    rw[hB]
    exact beq_eq_false_iff_ne.2 e
  have HS:=Lib.hid hS
  have Hito:=Lib.hid hito
  have hB':=hB.symm
  clear hS hito hit hitl hB hbad hA
  go_enter Tryz.func76,Tryz.ntmps76
  go_wp2_with fail
  refine hc.mono ?_
  rintro e w1 ⟨rfl,hw1⟩
  have K1:Keep NoB w w1:=by
   rcases hw1 with rfl|⟨t,rfl⟩
   ·exact Keep.refl _ _
   ·exact keep_bytes _ _ _
  clear hw1
  go_wp2_with fail
  refine(Hito.out _ K1).mono ?_
  rintro e w2 ⟨rfl,K2⟩
  go_wp2_with fail
  go_ret2
  exact⟨HS.out,K1.thenN K2⟩
 | range=>
  obtain⟨ev,hv,hev⟩:=E.range
  refine hbad (Lib.atoiSat s.data.toList) 0 (by rw[numT,hA]) ?_
  refine(Tryz.strconv_Atoi_range s (by omega) hA ev w hv hev).mono ?_
  rintro e w' ⟨N,rfl,_,_,hb⟩
  exact⟨N,rfl,Keep.ofBelow hb⟩
 | _=>
  obtain⟨ev,hv,hev⟩:=E.form
  refine hbad 0 0 (by rw[numT,hA]) ?_
  refine(Any.strconv_Atoi_syntax Tryz.laysC172 s (by omega) hA ev w hv hev).mono ?_
  rintro e w' ⟨N,rfl,_,_,hb⟩
  exact⟨N,rfl,Keep.ofBelow hb⟩
structure ItemVars(w:World):Prop where
 pow:PowVar w
 errs:NumErrs w
 max:∃m,w.cell? ⟨1,0,none⟩=some (.int .i64 m)
theorem ItemVars.keep{w w':World}(h:ItemVars w)(hk:Keep NoB w w'):ItemVars w':=by
 obtain⟨m,hm⟩:=h.max
 exact⟨h.pow.keep hk (λx=>x),h.errs.keep hk (λx=>x) (λx=>x),m,(hk.cell (p:=⟨1,0,none⟩) (Lib.lt_of_cell hm) (λx=>x)).trans hm⟩
theorem split_any(s:ByteArray)(c:UInt8)(w:World)(hs:s.size<=1000000)(V:ItemVars w):
  Calls Tryz.prog 8 #[.string s,.string ⟨#[c]⟩] w λe w'=>∃P:List ByteArray,P.map (·.data.toList)=pieces c s.data.toList∧e= .returned (.slice (some ⟨w.heap.size,0,none⟩) P.length P.length)∧w'.heap[w.heap.size]? =some (.cells (P.map Value.string).toArray 9 (0,0))∧Keep NoB w w':=by
 obtain⟨m,hm⟩:=V.max
 refine(Tryz.strings_Split s ⟨#[c]⟩ m w (by omega) hm (Nat.le_refl 1)).mono ?_
 rintro e w' ⟨rfl,rfl⟩
 have hP:=splitB_pieces c s
 have hl:(Lib.splitB ⟨#[c]⟩ 0 (Lib.countB s ⟨#[c]⟩) s).length=Lib.countB s ⟨#[c]⟩+1:=Lib.splitB_all ⟨#[c]⟩ (Nat.le_refl 1) 0 _ s rfl
 exact⟨_,hP,by rw[hl],heap_alloc_new w _,(Keep.refl _ _).alloc _⟩
theorem setCell_same'{w:World}{b i:Nat}{cur:Array Value}{E:TypeId}{fz:Nat×Nat}{u:Value}(h:w.heap[b]? =some (.cells cur E fz))(hu:cur[i]? =some u):w.setCell ⟨b,i,none⟩ u=w:=by
 have hlt:=lt_of_heap h
 have e:(w.heap.modify b λo=>match o with| .cells c e fr=> .cells (c.setIfInBounds i u) e fr|o=>o)=w.heap:=by
  apply Array.ext_getElem?
  intro k
  rw[Array.getElem?_modify]
  split
  ·rename_i hk
   subst hk
   rw[h]
   have:cur.setIfInBounds i u=cur:=by
    apply Array.ext_getElem?
    intro j
    rw[Array.getElem?_setIfInBounds]
    split
    ·rename_i hj;subst hj
     split
     ·exact hu.symm
     ·rename_i hn;rw[Array.getElem?_eq_none (by omega)]
    ·rfl
   simp[this]
  ·rfl
 show { w with heap:=_ } =w
 have e2:(w.setCell ⟨b,i,none⟩ u).heap=w.heap:=e
 exact congrArg (λhp=> { w with heap:=hp }) e2
theorem results_cell2{fn:Func}{t u:Tmp}{ty:TypeId}(h:fn.results= #[.cell t ty,.tmp u]){tmps:Array Value}{P:Program}{w:World}{a:Addr}{x:Value}(ha:tmps.getD t undef= .pointer (some a))(hl:(loadVar ty a).run P w= .ok x w):
  (results fn tmps).run P w= .ok (.tuple #[x,tmps.getD u undef]) w:=by
 rw[Array.getD_eq_getD_getElem?]at ha
 simp[results,h,ha,asAddr,hl]
set_option maxRecDepth 100000 in
theorem one_few(s:ByteArray)(w:World)(hs:s.size<=1000000)(V:ItemVars w)(hf:(pieces 32 s.data.toList).length<3):
  Calls Tryz.prog 77 #[.string s] w λe w'=>e= .returned (.tuple #[.agg #[.string ⟨#[]⟩,.string ⟨#[]⟩,.slice none 0 0],.bool false])∧Keep NoB w w':=by
 have hsp:=λw1 (K:Keep NoB w w1)=>split_any s 32 w1 hs (V.keep K)
 have Hsp:=Lib.hid hsp
 clear hsp
 go_enter Tryz.func77,Tryz.ntmps77
 go_wp2_with fail
 refine(Hsp.out _ ((Keep.refl _ _).alloc _)).mono ?_
 rintro e w1 ⟨P,hP,rfl,hrow,K1⟩
 have hPl:P.length<3:=by have:=congrArg List.length hP;rw[List.length_map]at this;omega
 have h3:(P.length:Int)<3:=by omega
 have hz:w1.heap[w.heap.size]? =some (.cells #[.string ⟨#[]⟩,.string ⟨#[]⟩,.slice none 0 0] 47 (0,0)):=K1.heap (heap_alloc_new w _) (λx=>x)
 have z0:w1.cell? ⟨w.heap.size,0,none⟩=some (.string ⟨#[]⟩):=by rw[cell_of_row _ _ _ _ _ (0,0) hz];rfl
 have z1:w1.cell? ⟨w.heap.size,1,none⟩=some (.string ⟨#[]⟩):=by rw[cell_of_row _ _ _ _ _ (0,0) hz];rfl
 have z2:w1.cell? ⟨w.heap.size,2,none⟩=some (.slice none 0 0):=by rw[cell_of_row _ _ _ _ _ (0,0) hz];rfl
 have f0:∀i,w1.frozen? ⟨w.heap.size,i,none⟩=false:=λi=>Lib.frozen_of_heap hz i
 clear hP hrow hf Hsp
 go_wp2_with fail
 have hzz:(((w1.setCell ⟨w.heap.size,0,none⟩ (.string ⟨#[]⟩)).setCell ⟨w.heap.size,1,none⟩ (.string ⟨#[]⟩)).setCell ⟨w.heap.size,2,none⟩ (.slice none 0 0))=w1:=by
  have h1:w1.setCell ⟨w.heap.size,0,none⟩ (.string ⟨#[]⟩)=w1:=setCell_same' hz rfl
  rw[h1,setCell_same' hz rfl,setCell_same' hz rfl]
 rw[hzz]
 refine bodyPost_ret (results_cell2 (x:= .agg #[.string ⟨#[]⟩,.string ⟨#[]⟩,.slice none 0 0]) rfl rfl ?_) rfl ⟨rfl,((Keep.refl _ _).alloc _).thenN K1⟩
 go_simp
def IntRow(w:World)(v:Value):Prop:=∀g,v.ownBlock=some g->∃cs fz,w.heap[g]? =some (.cells cs 3 fz)
def OneSaid(s:ByteArray)(w':World)(e:Ending):Prop:=∃(nm tg:ByteArray) (pa:Option Addr) (na ca:Nat) (b:Bool),e= .returned (.tuple #[.agg #[.string nm,.string tg,.slice pa na ca],.bool b])∧(match oneT s.data.toList with|some x=>b=true∧nm=x.1∧tg=x.2.1∧Nums w' (.slice pa na ca) x.2.2∧IntRow w' (.slice pa na ca)|none=>b=false)
def TwoC(N:Nat)(a b:ByteArray)(W:World):Prop:=W.cell? ⟨N,0,none⟩=some (.string a)∧W.cell? ⟨N,1,none⟩=some (.string b)
def intCells(l:List Int):List Value:=l.map (Value.int .i64)
theorem pieces_le(c:UInt8):∀(l:List UInt8),∀p∈pieces c l,p.length<=l.length
 | [],p,hp=>by rw[pieces,List.mem_singleton]at hp;rw[hp];exact Nat.le_refl _
 | b::l,p,hp=>by
  have ih:=pieces_le c l
  rw[pieces]at hp
  split at hp
  ·rcases List.mem_cons.1 hp with rfl|hp
   ·exact Nat.zero_le _
   ·have:=ih p hp;rw[List.length_cons];omega
  ·split at hp
   ·rw[List.mem_singleton.1 hp];simp
   ·rename_i q r e
    rcases List.mem_cons.1 hp with rfl|hp
    ·have:=ih q (by rw[e];exact List.mem_cons_self);simpa using this
    ·have:=ih p (by rw[e];exact List.mem_cons_of_mem _ hp);rw[List.length_cons];omega
theorem allNums_none:∀(l:List (List UInt8)) (k:Nat) (t:List UInt8),l[k]? =some t->numT t=none->allNums l=none
 | [],k,t,h,_=>by simp at h
 | x::l,0,t,h,hn=>by
  obtain rfl:x=t:=by simpa using h
  rw[allNums,hn]
 | x::l,k+1,t,h,hn=>by
  rw[allNums]
  cases numT x with
  | none=>rfl
  | some n=>
   have:=allNums_none l k t (by simpa using h) hn
   simp[this]
theorem allNums_snoc:∀(l:List (List UInt8)) (t:List UInt8) (ns:List Int) (n:Int),allNums l=some ns->numT t=some n->allNums (l++ [t])=some (ns++ [n])
 | [],t,ns,n,h,hn=>by
  obtain rfl: []=ns:=by simpa [allNums]using h
  simp[allNums,hn]
 | x::l,t,ns,n,h,hn=>by
  rw[allNums]at h
  rw[List.cons_append,allNums]
  cases hx:numT x with
  | none=>rw[hx]at h;cases h
  | some v=>
   rw[hx]at h
   cases hl:allNums l with
   | none=>rw[hl]at h;cases h
   | some ms=>
    rw[hl]at h
    obtain rfl:v::ms=ns:=by simpa using h
    rw[allNums_snoc l t ms n hl hn]
    rfl
theorem nums_ofN{w:World}{base:Nat}{v:Value}{ns:List Int}(h:OwnsN w base 3 1 v ns.length (intCells ns)):Nums w v ns:=by
 have h0:=h
 rcases h.2 with⟨hv,hn⟩|⟨g,cap,cur,fz,hv,_,hg,_⟩
 ·exact .inl ⟨List.eq_nil_of_length_eq_zero hn,none,0,hv⟩
 ·refine .inr ⟨g,0,cap,hv,lt_of_heap hg,λi hi=> ?_⟩
  have:=h0.cells (by rw[hv];rfl) i (.int .i64 (ns.getD i 0)) (by rw[intCells,List.getElem?_map,List.getD_eq_getElem?_getD,List.getElem?_eq_getElem hi];rfl)
  rwa [show(⟨g,0,none⟩:Addr).add i=⟨g,0+i,none⟩by unfold Addr.add;split<;>simp_all]at this
theorem own_sl1{w:World}{base:Nat}{e:TypeId}{size:Nat}{v:Value}{n:Nat}{xs:List Value}(h:OwnsN w base e size v n xs):∃p c,v= .slice p n c:=by
 rcases h.2 with⟨h,hn⟩|⟨_,_,_,_,h,_⟩
 ·exact⟨none,0,by rw[h,hn]⟩
 ·exact⟨_,_,h⟩
theorem int_info:∃i,Tryz.prog.info? 3=some i∧i.zero=some (.int .i64 0)∧i.size=1∧i.bytes=8:=by
 have h:(Tryz.prog.info? 3).map (λi=>(i.zero,i.size,i.bytes))=some (some (.int .i64 0),1,8):=by kernel_rfl
 cases hi:Tryz.prog.info? 3 with
 | none=>rw[hi]at h;cases h
 | some i=>
  rw[hi]at h
  simp only[Option.map_some,Option.some.injEq,Prod.mk.injEq]at h
  exact⟨i,rfl,h.1,h.2.1,h.2.2⟩
set_option maxRecDepth 100000 in
set_option maxHeartbeats 4000000 in
theorem one_more(s:ByteArray)(w:World)(hs:s.size<=1000000)(V:ItemVars w)(hf:3<=(pieces 32 s.data.toList).length):
  Calls Tryz.prog 77 #[.string s] w λe w'=>OneSaid s w' e∧Keep NoB w w':=by
 have hsp:=λw1 (K:Keep NoB w w1)=>split_any s 32 w1 hs (V.keep K)
 have Hsp:=Lib.hid hsp
 have HV:=Lib.hid V
 clear hsp V
 go_enter Tryz.func77,Tryz.ntmps77
 go_wp2_with fail
 refine(Hsp.out _ ((Keep.refl _ _).alloc _)).mono ?_
 rintro e w1 ⟨P,hP,rfl,hrow,K1⟩
 have hPl:3<=P.length:=by have:=congrArg List.length hP;rw[List.length_map]at this;omega
 obtain⟨a,b,c,R,rfl⟩:∃a b c R,P=a::b::c::R:=by
  match P,hPl with
  | a::b::c::R,_=>exact⟨a,b,c,R,rfl⟩
 have hsz:(w.alloc (.cells #[.string ⟨#[]⟩,.string ⟨#[]⟩,.slice none 0 0] 47)).heap.size=w.heap.size+1:=by show(w.heap.push _).size=_;rw[Array.size_push]
 rw[hsz]at hrow
 obtain⟨m,hm⟩:∃m,m=(a::b::c::R).length:=⟨_,rfl⟩
 have hm3:3<=m:=by rw[hm];exact hPl
 have h3:¬((m:Int)<3):=by omega
 have h0n:0<m:=by omega
 have h1n:1<m:=by omega
 have h0m:(0:Int)<m:=by omega
 have h1m:(1:Int)<m:=by omega
 have K0:Keep NoB w w1:=((Keep.refl _ _).alloc _).thenN K1
 have hz:w1.heap[w.heap.size]? =some (.cells #[.string ⟨#[]⟩,.string ⟨#[]⟩,.slice none 0 0] 47 (0,0)):=K1.heap (heap_alloc_new w _) (λx=>x)
 obtain⟨N,hN⟩:∃N,N=w.heap.size+1:=⟨_,rfl⟩
 obtain⟨Z,hZ⟩:∃Z,Z=w.heap.size:=⟨_,rfl⟩
 rw[<-hm]
 rw[<-hN]at hrow
 rw[<-hZ]at hz
 have cP:∀j t,(a::b::c::R)[j]? =some t->w1.cell? ⟨N,j,none⟩=some (.string t):=λj t ht=>by
  rw[cell_of_row _ _ _ _ _ (0,0) hrow,List.getElem?_toArray,List.getElem?_map,ht];rfl
 have hNlt:=lt_of_heap hrow
 have L0:TwoC N a b w1:=⟨cP 0 a rfl,cP 1 b rfl⟩
 have l0:∀x:InC (TwoC N a b),x.w.cell? ⟨N,0,none⟩=some (.string a):=λx=>x.h.1
 have l1:∀x:InC (TwoC N a b),x.w.cell? ⟨N,1,none⟩=some (.string b):=λx=>x.h.2
 have HP:=Lib.hid hP
 have HcP:=Lib.hid cP
 have Hrow:=Lib.hid hrow
 have Hm:=Lib.hid hm
 have HN:=Lib.hid hN
 have HZ:=Lib.hid hZ
 have HL0:=Lib.hid L0
 rw[hsz,<-hN]
 clear hP cP hm hrow hN hZ L0 hsz hf hPl Hsp K1
 go_wp2_with fail
 refine wp_region_take (TwoC N a b) [0,1,2,3,4,5,6] [7,8] (by kernel_rfl) (by kernel_rfl) (λc a d v w h=>by cases d<;>exact h) ?_
 simp only[pickL,List.getElem?_toArray,List.getElem?_cons_succ,List.getElem?_cons_zero]
 repeat(refine wpEarlyC_step (λK hK=> ?_);go_simp;first|(refine⟨_,λ_=>rfl,hK _ ?_⟩;clear hK K)|(refine hK _ ?_;clear hK K))
 refine wpEarlyC_nil ?_
 clear l0 l1
 simp only[wpRowC,pickL,List.getElem?_toArray,List.getElem?_cons_succ,List.getElem?_cons_zero]
 refine⟨HL0.out,?_⟩
 go_wp2_with fail
 have KA:Keep NoB w1 (w1.alloc (.cells #[.string ⟨#[]⟩,.string ⟨#[]⟩,.slice none 0 0] 47)).drew:=((Keep.refl _ _).alloc _).drew
 refine⟨⟨(KA.cell (p:=⟨N,0,none⟩) hNlt (λx=>x)).trans HL0.out.1,(KA.cell (p:=⟨N,1,none⟩) hNlt (λx=>x)).trans HL0.out.2⟩,?_⟩
 clear KA
 go_wp2_with fail
 have hX0:(w1.alloc (.cells #[.string a,.string b,.slice none 0 0] 47)).drew.heap[w1.heap.size]? =some (.cells #[.string a,.string b,.slice none 0 0] 47 (0,0)):=heap_alloc_new w1 _
 have KX0:Keep NoB w1 (w1.alloc (.cells #[.string a,.string b,.slice none 0 0] 47)).drew:=((Keep.refl _ _).alloc _).drew
 obtain⟨w2,hw2⟩:∃w2,w2=(w1.alloc (.cells #[.string a,.string b,.slice none 0 0] 47)).drew:=⟨_,rfl⟩
 obtain⟨X,hX⟩:∃X,X=w1.heap.size:=⟨_,rfl⟩
 rw[<-hw2]at hX0 KX0⊢
 rw[<-hX]at hX0⊢
 have HX:=Lib.hid hX
 have HX0:=Lib.hid hX0
 clear hw2 hX hX0
 obtain⟨ws,hws⟩:∃ws:List (List UInt8),ws=(c::R).map (·.data.toList):=⟨_,rfl⟩
 have Hws:=Lib.hid hws
 have hm2:m-2+2=m:=by omega
 clear hws
 go_loopw [26] (λiv wr=>∃(k:Nat) (ns:List Int) (av:Value),iv= .int .i64 k∧k<=m-2∧Hid (allNums (ws.take k)=some ns∧ns.length=k)∧Hid (wr.heap[X]? =some (.cells #[.string a,.string b,av] 47 (0,0)))∧Hid (OwnsN wr w1.heap.size 3 1 av k (intCells ns))∧Keep NoB w1 wr) (λiv _=>m-2-(intOf iv).toNat)
 case atStart=>exact⟨0,[],_,rfl,by omega,Lib.hid ⟨by rw[List.take_zero];rfl,rfl⟩,HX0,Lib.hid (OwnsN.nil _ _ _ _),KX0⟩
 case round=>
  clear KX0 HX0
  obtain⟨k,ns,av,rfl,hk,hns,hXr,hO,K⟩:=hrel
  obtain⟨wo,rfl⟩:∃wo,wo=wr:=⟨_,rfl⟩
  have hwl:ws.length=m-2:=by rw[Hws.out,List.length_map,Hm.out];simp
  have Hwl:=Lib.hid hwl
  clear hwl
  by_cases hlt:k<m-2
  ·have k1:(k:Int)<((m-2:Nat):Int):=by omega
   obtain⟨t,ht⟩:∃t,(c::R)[k]? =some t:=⟨_,List.getElem?_eq_getElem (by have h:=Hm.out;simp at h⊢;omega)⟩
   have ct:wo.cell? ⟨N,2+k,none⟩=some (.string t):=(K.cell (p:=⟨N,2+k,none⟩) hNlt (λx=>x)).trans (HcP.out (2+k) t (by rw[show 2+k=k+1+1 by omega];simpa using ht))
   have hwt:ws[k]? =some t.data.toList:=by rw[Hws.out,List.getElem?_map,ht];rfl
   have htl:t.size<=1000000:=by
    have h1:=pieces_le 32 s.data.toList t.data.toList (by rw[<-HP.out];exact List.mem_map.2 ⟨t,List.mem_cons_of_mem _ (List.mem_cons_of_mem _ (List.mem_of_getElem? ht)),rfl⟩)
    have h2:s.data.toList.length=s.size:=rfl
    have h3:t.data.toList.length=t.size:=rfl
    omega
   have hnum:=number_any t wo htl (HV.out.keep (K0.thenN K)).pow (HV.out.keep (K0.thenN K)).errs
   have Hnum:=Lib.hid hnum
   have Hwt:=Lib.hid hwt
   clear hnum hwt ht
   go_wp2_with fail
   refine Hnum.out.mono ?_
   rintro e w3 ⟨⟨n,B,rfl,hnb⟩,K3⟩
   have Hnb:=Lib.hid hnb
   clear hnb
   cases B with
   | false=>
    have hz3:w3.heap[w.heap.size]? =some (.cells #[.string ⟨#[]⟩,.string ⟨#[]⟩,.slice none 0 0] 47 (0,0)):=by rw[<-HZ.out];exact(K.thenN K3).heap hz (λx=>x)
    have z0:w3.cell? ⟨w.heap.size,0,none⟩=some (.string ⟨#[]⟩):=by rw[cell_of_row _ _ _ _ _ (0,0) hz3];rfl
    have z1:w3.cell? ⟨w.heap.size,1,none⟩=some (.string ⟨#[]⟩):=by rw[cell_of_row _ _ _ _ _ (0,0) hz3];rfl
    have z2:w3.cell? ⟨w.heap.size,2,none⟩=some (.slice none 0 0):=by rw[cell_of_row _ _ _ _ _ (0,0) hz3];rfl
    have f0:∀i,w3.frozen? ⟨w.heap.size,i,none⟩=false:=λi=>Lib.frozen_of_heap hz3 i
    have hnone:numT t.data.toList=none:=by
     have h:=Hnb.out
     cases hn:numT t.data.toList with
     | none=>rfl
     | some v=>rw[hn]at h;cases h.2
    have hone:oneT s.data.toList=none:=by
     have hp:=HP.out
     have h2:=allNums_none ws k _ Hwt.out hnone
     rw[Hws.out]at h2
     rw[oneT,<-hp]
     show Option.map _ (allNums ((c::R).map (·.data.toList)))=none
     rw[h2];rfl
    have hS:∀W,OneSaid s W (.returned (.tuple #[.agg #[.string ⟨#[]⟩,.string ⟨#[]⟩,.slice none 0 0],.bool false])):=λW=>⟨_,_,_,_,_,false,rfl,by rw[hone]⟩
    have HS:=Lib.hid hS
    clear hnone hone hS
    go_wp2_with fail
    have hzz:(((w3.setCell ⟨w.heap.size,0,none⟩ (.string ⟨#[]⟩)).setCell ⟨w.heap.size,1,none⟩ (.string ⟨#[]⟩)).setCell ⟨w.heap.size,2,none⟩ (.slice none 0 0))=w3:=by
     have h1:w3.setCell ⟨w.heap.size,0,none⟩ (.string ⟨#[]⟩)=w3:=setCell_same' hz3 rfl
     rw[h1,setCell_same' hz3 rfl,setCell_same' hz3 rfl]
    rw[hzz]
    refine bodyPost_ret (results_cell2 (x:= .agg #[.string ⟨#[]⟩,.string ⟨#[]⟩,.slice none 0 0]) rfl rfl ?_) rfl ⟨HS.out _,K0.thenN (K.thenN K3)⟩
    go_simp
   | true=>
    have hsome:numT t.data.toList=some n:=by
     have h:=Hnb.out
     cases hn:numT t.data.toList with
     | none=>rw[hn]at h;cases h
     | some v=>rw[hn]at h;rw[h.1]
    have hX3:=K3.heap hXr.out (λx=>x)
    obtain⟨pv,cv,hav⟩:=own_sl1 hO.out
    subst hav
    have x2:w3.cell? ⟨X,2,none⟩=some (.slice pv k cv):=by rw[cell_of_row _ _ _ _ _ (0,0) hX3];rfl
    have hO3:=hO.out.keep K3 (λ_ _ x=>x)
    have hs3:w1.heap.size<=w3.heap.size:=(K.thenN K3).size
    obtain⟨ii,hii,hzi,hsi,hbi⟩:=int_info
    have hkm:k<=1000001:=by
     have h1:=pieces_len 32 s.data.toList
     have h2:m=(pieces 32 s.data.toList).length:=by rw[<-HP.out,List.length_map];exact Hm.out
     have h3:s.data.toList.count 32<=s.data.toList.length:=List.count_le_length
     have h4:s.data.toList.length=s.size:=rfl
     omega
    have hfX:∀w4,(w3.alloc (.cells #[.int .i64 n] 3)).grownBy w4 (Value.slice pv k cv).ownBlock->w4.heap[X]? =some (.cells #[.string a,.string b,.slice pv k cv] 47 (0,0)):=by
     intro w4 hg4
     rw[hg4.block X (by show X<(w3.heap.push _).size;rw[Array.size_push];have:=lt_of_heap hX3;omega) (λe=> ?_)]
     ·rw[Below.heap_alloc _ _ _ (lt_of_heap hX3)];exact hX3
     ·rcases hO3.2 with⟨hv,_⟩|⟨g,cap,cur,fz,hv,_,hgg,_⟩
      ·rw[hv]at e;cases e
      ·rw[hv]at e
       have e2:X=g:=Option.some.inj e
       subst e2
       exact absurd (two_types' hX3 hgg) (by decide)
    have HfX:=Lib.hid hfX
    have HX3:=Lib.hid hX3
    clear hfX
    have Hsome:=Lib.hid hsome
    clear hX3 hsome
    go_wp2_with (at_builtin;refine wpList_append_n _ rfl _ _ 45 rfl w1.heap.size 3 ii _ 1 8 Tryz.underlying45 hii hzi hsi hbi rfl (by decide) (.slice pv k cv) k _ rfl (hO3.alloc _) ⟨w3.heap.size,0,none⟩ 1 1 [.int .i64 n] rfl rfl (cells_new _ _ _) (by intro u hu;rw[List.mem_singleton.1 hu];rfl) (by unfold maxLen;omega) (by omega) (by show w1.heap.size<=(w3.heap.push _).size;rw[Array.size_push];omega) ?_;intro v4 w4 own4 hg4;have hX4:=HfX.out _ hg4;have y2:w4.cell? ⟨X,2,none⟩=some (.slice pv k cv):=(cell_of_row _ _ _ _ _ (0,0) hX4).trans rfl;have fX:w4.frozen? ⟨X,2,none⟩=false:=Lib.frozen_of_heap hX4 2;obtain⟨p4,c4,hv4⟩:=own_sl1 own4;subst hv4)
    have KS:Keep (OneB X) w4 (w4.setCell ⟨X,2,none⟩ (.slice p4 (k+1) c4)):=(Keep.refl (OneB X) w4).set1 2 _
    have hX5:(w4.setCell ⟨X,2,none⟩ (.slice p4 (k+1) c4)).heap[X]? =some (.cells #[.string a,.string b,.slice p4 (k+1) c4] 47 (0,0)):=by
     have hlt:=lt_of_heap hX4
     have h':w4.heap[X]= .cells #[.string a,.string b,.slice pv k cv] 47 (0,0):=by simpa [Array.getElem?_eq_getElem hlt]using hX4
     show(w4.heap.modify X _)[X]? =_
     rw[Array.getElem?_eq_getElem (by simpa using hlt),Array.getElem_modify_self,h']
     rfl
    have own5:=own4.keep KS (λg hg hs=>by
     have h1:g=X:=hs
     subst h1
     rcases own4.2 with⟨hv,_⟩|⟨g',cap,cur,fz,hv,_,hgg,_⟩
     ·rw[hv]at hg;cases hg
     ·rw[hv]at hg
      obtain rfl:g'=g:=Option.some.inj hg
      exact absurd (two_types' hX4 hgg) (by decide))
    have K5:Keep NoB w1 (w4.setCell ⟨X,2,none⟩ (.slice p4 (k+1) c4)):=(((K.thenN K3).alloc _).grown hg4 (λq hq=> .inr (hO3.lt q hq).1)).trans KS (λi hi hs=>by have h:i=X:=hs;have:=HX.out;omega)
    refine⟨⟨k+1,ns++ [n],_,by go_num,by omega,Lib.hid ⟨?_,by rw[List.length_append,hns.out.2];rfl⟩,Lib.hid hX5,Lib.hid ?_,K5⟩,by simp[intOf];omega⟩
    ·have hk2:=(List.getElem?_eq_some_iff.1 Hwt.out)
     rw[List.take_succ_eq_append_getElem hk2.1,hk2.2]
     exact allNums_snoc _ _ _ _ hns.out.1 Hsome.out
    ·rw[show intCells (ns++ [n])=intCells ns++ [.int .i64 n]by simp[intCells]]
     exact own5
  ·obtain⟨pv,cv,hav⟩:=own_sl1 hO.out
   subst hav
   have x0:wo.cell? ⟨X,0,none⟩=some (.string a):=by rw[cell_of_row _ _ _ _ _ (0,0) hXr.out];rfl
   have x1:wo.cell? ⟨X,1,none⟩=some (.string b):=by rw[cell_of_row _ _ _ _ _ (0,0) hXr.out];rfl
   have x2:wo.cell? ⟨X,2,none⟩=some (.slice pv k cv):=by rw[cell_of_row _ _ _ _ _ (0,0) hXr.out];rfl
   have hz3:wo.heap[w.heap.size]? =some (.cells #[.string ⟨#[]⟩,.string ⟨#[]⟩,.slice none 0 0] 47 (0,0)):=by rw[<-HZ.out];exact K.heap hz (λx=>x)
   have z0:wo.cell? ⟨w.heap.size,0,none⟩=some (.string ⟨#[]⟩):=by rw[cell_of_row _ _ _ _ _ (0,0) hz3];rfl
   have z1:wo.cell? ⟨w.heap.size,1,none⟩=some (.string ⟨#[]⟩):=by rw[cell_of_row _ _ _ _ _ (0,0) hz3];rfl
   have z2:wo.cell? ⟨w.heap.size,2,none⟩=some (.slice none 0 0):=by rw[cell_of_row _ _ _ _ _ (0,0) hz3];rfl
   have f0:∀i,wo.frozen? ⟨w.heap.size,i,none⟩=false:=λi=>Lib.frozen_of_heap hz3 i
   have j1:¬((k:Int)<((m-2:Nat):Int)):=by omega
   go_wp2_with fail
   have hZX:w.heap.size<w1.heap.size:=by have:=lt_of_heap hz;have:=HZ.out;omega
   have KZ:Keep (OneB w.heap.size) wo (((wo.setCell ⟨w.heap.size,0,none⟩ (.string a)).setCell ⟨w.heap.size,1,none⟩ (.string b)).setCell ⟨w.heap.size,2,none⟩ (.slice pv k cv)):=(((Keep.refl (OneB w.heap.size) wo).set1 0 _).set1 1 _).set1 2 _
   have hNm:Nums wo (.slice pv k cv) ns:=nums_ofN (by rw[hns.out.2];exact hO.out)
   have hNm2:=hNm.keep KZ (λg hg hs=>by
    have h1:=(hO.out.lt g hg).1
    have h2:g=w.heap.size:=hs
    omega)
   have hIR:IntRow (((wo.setCell ⟨w.heap.size,0,none⟩ (.string a)).setCell ⟨w.heap.size,1,none⟩ (.string b)).setCell ⟨w.heap.size,2,none⟩ (.slice pv k cv)) (.slice pv k cv):=by
    intro g hg
    rcases hO.out.2 with⟨hv,_⟩|⟨g',cap,cur,fz,hv,hbg,hgg,_⟩
    ·rw[hv]at hg;cases hg
    ·rw[hv]at hg
     obtain rfl:g'=g:=Option.some.inj hg
     exact⟨_,_,KZ.heap hgg (λhs=>by have h2:g'=w.heap.size:=hs;omega)⟩
   have hone:oneT s.data.toList=some (a,b,ns):=by
    have h2:=hns.out.1
    rw[List.take_of_length_le (by rw[Hwl.out];exact Nat.le_of_eq (by omega)),Hws.out]at h2
    rw[oneT,<-HP.out]
    show Option.map _ (allNums ((c::R).map (·.data.toList)))=_
    rw[h2]
    rfl
   refine bodyPost_ret (results_cell2 (x:= .agg #[.string a,.string b,.slice pv k cv]) rfl rfl ?_) rfl ⟨⟨a,b,_,_,_,true,rfl,by rw[hone];exact⟨rfl,rfl,rfl,hNm2,hIR⟩⟩,(K0.thenN K).trans KZ (λi hi hs=>by have h:i=w.heap.size:=hs;omega)⟩
   go_simp
end Go.Proofs.YtnmhgehpddipdaaGreatDoor
namespace Go.Cof
open Go.Lib Go.Proofs.YtnmhgehpddipdaaGreatDoor
theorem allNums_len:∀(l:List (List UInt8)) (ns:List Int),allNums l=some ns->ns.length=l.length
 | [],ns,h=>by
  obtain rfl: []=ns:=by simpa [allNums]using h
  rfl
 | t::l,ns,h=>by
  rw[allNums]at h
  cases ht:numT t with
  | none=>rw[ht]at h;cases h
  | some n=>
   rw[ht]at h
   cases hl:allNums l with
   | none=>rw[hl]at h;cases h
   | some ms=>
    rw[hl]at h
    obtain rfl:n::ms=ns:=by simpa using h
    rw[List.length_cons,List.length_cons,allNums_len l ms hl]
theorem oneT_len{t:List UInt8}{x:PItem}(h:oneT t=some x):x.2.2.length<=t.length:=by
 have hl:=pieces_len 32 t
 have hc:t.count 32<=t.length:=List.count_le_length
 rw[oneT]at h
 split at h
 ·rename_i a b c r hp
  cases hn:allNums (c::r)with
  | none=>rw[hn]at h;cases h
  | some ns=>
   rw[hn]at h
   have h2:=allNums_len _ _ hn
   have h3:x.2.2=ns:=by rw[<-Option.some.inj h]
   rw[hp]at hl
   simp only[List.length_cons]at hl h2
   rw[h3,h2]
   omega
 ·cases h
theorem allOnes_none:∀(l:List (List UInt8)) (k:Nat) (t:List UInt8),l[k]? =some t->oneT t=none->allOnes l=none
 | [],k,t,h,_=>by simp at h
 | x::l,0,t,h,hn=>by
  obtain rfl:x=t:=by simpa using h
  rw[allOnes,hn]
 | x::l,k+1,t,h,hn=>by
  rw[allOnes]
  cases oneT x with
  | none=>rfl
  | some n=>
   have:=allOnes_none l k t (by simpa using h) hn
   simp[this]
theorem allOnes_snoc:∀(l:List (List UInt8)) (t:List UInt8) (ns:List PItem) (n:PItem),allOnes l=some ns->oneT t=some n->allOnes (l++ [t])=some (ns++ [n])
 | [],t,ns,n,h,hn=>by
  obtain rfl: []=ns:=by simpa [allOnes]using h
  simp[allOnes,hn]
 | x::l,t,ns,n,h,hn=>by
  rw[allOnes]at h
  rw[List.cons_append,allOnes]
  cases hx:oneT x with
  | none=>rw[hx]at h;cases h
  | some v=>
   rw[hx]at h
   cases hl:allOnes l with
   | none=>rw[hl]at h;cases h
   | some ms=>
    rw[hl]at h
    obtain rfl:v::ms=ns:=by simpa using h
    rw[allOnes_snoc l t ms n hl hn]
    rfl
end Go.Cof
namespace Go.Proofs.YtnmhgehpddipdaaGreatDoor
open Go.RowKit Go.Cof
theorem one_any(s:ByteArray)(w:World)(hs:s.size<=1000000)(V:ItemVars w):
  Calls Tryz.prog 77 #[.string s] w λe w'=>OneSaid s w' e∧Keep NoB w w':=by
 by_cases hf:(pieces 32 s.data.toList).length<3
 ·refine(one_few s w hs V hf).mono ?_
  rintro e w' ⟨rfl,K⟩
  have hone:oneT s.data.toList=none:=by
   rw[oneT]
   match hp:pieces 32 s.data.toList,hf with
   | [],_=>rfl
   | [_],_=>rfl
   | [_,_],_=>rfl
   | _::_::_::_,h=>simp at h;omega
  exact⟨⟨_,_,_,_,_,false,rfl,by rw[hone]⟩,K⟩
 ·exact one_more s w hs V (by omega)
end Go.Proofs.YtnmhgehpddipdaaGreatDoor
namespace Go.Proofs.YtnmhgehpddipdaaGreatDoor
open Go.RowKit Go.Cof Go.Sort Go.Shelf
theorem beqB(a b:ByteArray):(@BEq.beq (List UInt8) (@List.instBEq UInt8 instBEqOfDecidableEq) a.toList b.toList)=decide (a=b):=by
 by_cases h:a=b
 ·rw[decide_eq_true h,h];exact beq_self_eq_true _
 ·rw[decide_eq_false h];exact beq_eq_false_iff_ne.2 λe=>h (toList_inj e)
end Go.Proofs.YtnmhgehpddipdaaGreatDoor
namespace Go.Proofs.YtnmhgehpddipdaaGreatDoor
open Go.RowKit Go.Cof
def ParseSaid(s:ByteArray)(w':World)(e:Ending):Prop:=match parseT s.data.toList with
 | some (d,l)=>∃(v:Value) (L:List ItemV),e= .returned (.tuple #[.int .i64 d,v,.nilIface])∧L.map plainI=l∧Items w' v L∧∀x∈L,IntRow w' x.av
 | none=>e= .returned (.tuple #[.int .i64 0,.slice none 0 0,errVal 3])
set_option maxRecDepth 100000 in
set_option maxHeartbeats 8000000 in
theorem parse_any(s:ByteArray)(w:World)(hs:s.size<=1000000)(V:ItemVars w):
  Calls Tryz.prog 33 #[.string s] w λe w'=>ParseSaid s w' e∧Keep NoB w w':=by
 have hsp:=split_any s 10 w hs V
 have Hsp:=Lib.hid hsp
 have HV:=Lib.hid V
 clear hsp V
 go_enter Tryz.func33,Tryz.ntmps33
 go_wp2_with fail
 refine Hsp.out.mono ?_
 rintro e w1 ⟨P,hP,rfl,hrow,K1⟩
 have hPne:P≠ []:=λe=>by rw[e]at hP;exact pieces_ne 10 _ hP.symm
 obtain⟨hd,R,rfl⟩:∃hd R,P=hd::R:=by
  cases P with
  | nil=>exact absurd rfl hPne
  | cons a R=>exact⟨a,R,rfl⟩
 obtain⟨m,hm⟩:∃m,m=(hd::R).length:=⟨_,rfl⟩
 have hm1:0<m:=by rw[hm];simp
 obtain⟨N,hN⟩:∃N,N=w.heap.size:=⟨_,rfl⟩
 rw[<-hm]
 rw[<-hN]at hrow⊢
 have cP:∀j t,(hd::R)[j]? =some t->w1.cell? ⟨N,j,none⟩=some (.string t):=λj t ht=>by
  rw[cell_of_row _ _ _ _ _ (0,0) hrow,List.getElem?_toArray,List.getElem?_map,ht];rfl
 have c0:=cP 0 hd rfl
 have hhead:headOf s.data.toList=hd.data.toList:=by rw[headOf,<-hP];rfl
 have hlines:linesOf s.data.toList=(R.map (·.data.toList)).dropLast:=by rw[linesOf,<-hP];rfl
 have hple:∀t∈hd::R,t.size<=1000000:=λt ht=>by
  have h1:=pieces_le 10 s.data.toList t.data.toList (by rw[<-hP];exact List.mem_map.2 ⟨t,ht,rfl⟩)
  have h2:s.data.toList.length=s.size:=rfl
  have h3:t.data.toList.length=t.size:=rfl
  omega
 have hm6:m<=1000001:=by
  have h1:=pieces_len 10 s.data.toList
  have h2:m=(pieces 10 s.data.toList).length:=by rw[<-hP,List.length_map];exact hm
  have h3:s.data.toList.count 10<=s.data.toList.length:=List.count_le_length
  have h4:s.data.toList.length=s.size:=rfl
  omega
 have hcut:∀w,Calls Tryz.prog 75 #[.string hd,.string ⟨#[100,105,109,32]⟩] w λe w'=>e= .returned (.tuple #[.string ⟨(Lib.trimPrefix hd.data.toList dimT).toArray⟩,.bool (Lib.hasPrefix hd.data.toList dimT)])∧w'=w:=λw=>Tryz.strings_CutPrefix hd ⟨#[100,105,109,32]⟩ w
 obtain⟨tp,htp⟩:∃tp:ByteArray,tp=⟨(Lib.trimPrefix hd.data.toList dimT).toArray⟩:=⟨_,rfl⟩
 have htpl:tp.data.toList=Lib.trimPrefix hd.data.toList dimT:=by rw[htp]
 have htps:tp.size<=1000000:=by
  have h1:tp.size=(Lib.trimPrefix hd.data.toList dimT).length:=by rw[<-htpl];rfl
  have h2:(Lib.trimPrefix hd.data.toList dimT).length<=hd.data.toList.length:=by
   unfold Lib.trimPrefix
   split
   ·rw[List.length_drop];omega
   ·exact Nat.le_refl _
  have h3:=hple hd List.mem_cons_self
  have h4:hd.data.toList.length=hd.size:=rfl
  omega
 obtain⟨B,hB⟩:∃B,B=Lib.hasPrefix hd.data.toList dimT:=⟨_,rfl⟩
 rw[<-htp,<-hB]at hcut
 have hnum:=number_any tp w1 htps (HV.out.keep K1).pow (HV.out.keep K1).errs
 have Hcut:=Lib.hid hcut
 have Hnum:=Lib.hid hnum
 have Hhead:=Lib.hid hhead
 have Hlines:=Lib.hid hlines
 have Hple:=Lib.hid hple
 have Htpl:=Lib.hid htpl
 have HB:=Lib.hid hB
 have HcP:=Lib.hid cP
 have Hm:=Lib.hid hm
 have Hrow:=Lib.hid hrow
 have HN:=Lib.hid hN
 clear hcut hnum hhead hlines hple htpl hB cP hm hrow hP hPne htp Hsp hN
 go_wp2_with fail
 refine(Hcut.out _).mono ?_
 rintro e w2 ⟨rfl,hw2⟩
 subst w2
 go_wp2_with fail
 refine Hnum.out.mono ?_
 rintro e w3 ⟨⟨n,G,rfl,hnb⟩,K3⟩
 have Hnb:=Lib.hid hnb
 clear hnb
 have hno:∀W,(B=false∨G=false)->ParseSaid s W (.returned (.tuple #[.int .i64 0,.slice none 0 0,.iface 40 (.int .i64 3)])):=by
  intro W h
  have hp:parseT s.data.toList=none:=by
   rw[parseT,Hhead.out,<-HB.out,<-Htpl.out]
   rcases h with h|h
   ·rw[h];rfl
   ·cases B with
    | false=>rfl
    | true=>
     have h2:=Hnb.out
     cases hx:numT tp.data.toList with
     | none=>rfl
     | some v=>rw[hx]at h2;rw[h2.2]at h;cases h
  rw[ParseSaid,hp]
  rfl
 have Hno:=Lib.hid hno
 clear hno
 cases B with
 | false=>
  go_wp2_with fail
  go_ret3
  exact⟨Hno.out _ (.inl (by first|rfl|trivial)),K1.thenN K3⟩
 | true=>
  cases G with
  | false=>
   go_wp2_with fail
   go_ret3
   exact⟨Hno.out _ (.inr (by first|rfl|trivial)),K1.thenN K3⟩
  | true=>
   obtain⟨M,hM⟩:∃M,M=max (m-1) 1:=⟨_,rfl⟩
   have hM1:(max ((m:Int)-1) 1)=(M:Int):=by omega
   have hMw:IntKind.i64.wrap ((m:Int)-1)=(m:Int)-1:=IntWalk.i64_in _ (by omega)
   have hMl:M<=m:=by omega
   have hMg:1<=M:=by omega
   have HM:=Lib.hid hM
   clear hM
   go_upto_region 7 with(fail)
   go_cut [43,44,45] (λlv nv iv wx=>∃(pp:Addr),lv= .slice (some pp) (M-1) (m-1)∧Hid (1<m->pp=⟨N,1,none⟩)∧nv= .int .i64 ((M-1:Nat):Int)∧iv= .int .i64 0∧wx=w3)
   case first=>
    by_cases hm1e:m=1
    ·have Hm1e:=Lib.hid hm1e
     go_wp2_with fail
     go_meet
     case rel=>
      have hM0:M=1:=by have:=HM.out;have:=Hm1e.out;omega
      exact⟨⟨N,0,none⟩,by rw[hM0,show m-1=0 by have:=Hm1e.out;omega];rfl,Lib.hid (λh=>by have:=Hm1e.out;omega),by rw[hM0];rfl,rfl,rfl⟩
    ·go_wp2_with fail
     go_meet
     case rel=>exact⟨_,rfl,Lib.hid (λh=>rfl),rfl,rfl,rfl⟩
   case rest=>
    obtain⟨pp,rfl,hpp,rfl,rfl,hwx⟩:=hcut
    have hwx2:=hwx.symm
    clear hwx
    subst hwx2
    obtain⟨Q,hQ⟩:∃Q,Q=M-1:=⟨_,rfl⟩
    rw[<-hQ]
    obtain⟨ws,hws⟩:∃ws:List (List UInt8),ws=R.map (·.data.toList):=⟨_,rfl⟩
    have Hws:=Lib.hid hws
    have HQ:=Lib.hid hQ
    have hQ6:Q<=1000001:=by have:=HM.out;omega
    have HK1:=Lib.hid K1
    have HK3:=Lib.hid K3
    clear hws hQ K1 K3 hMl hMg hM1 hMw Hrow
    go_wp2_with fail
    go_loopw [10,45] (λlv iv wr=>∃(k:Nat) (L:List ItemV) (v:Value),iv= .int .i64 k∧v=lv∧k<=Q∧Hid (allOnes (ws.take k)=some (L.map plainI)∧L.length=k)∧Hid (OwnsN wr w3.heap.size 47 3 v k (L.flatMap encItem))∧Hid (∀x∈L,Nums wr x.av x.ns∧IntRow wr x.av∧x.ns.length<=1000000)∧Keep NoB w3 wr) (λ_ iv _=>Q-(intOf iv).toNat)
    case atStart=>exact⟨0,[],_,rfl,rfl,by omega,Lib.hid ⟨by rw[List.take_zero];rfl,rfl⟩,Lib.hid (OwnsN.nil _ _ _ _),Lib.hid (λx hx=>by cases hx),Keep.refl _ _⟩
    case round=>
     obtain⟨k,L,v,rfl,rfl,hk,hL,hO,hN,K⟩:=hrel
     obtain⟨wo,rfl⟩:∃wo,wo=wr:=⟨_,rfl⟩
     by_cases hlt:k<Q
     ·have k1:(k:Int)<(Q:Int):=by omega
      have h1m:1<m:=by have:=HM.out;have:=HQ.out;omega
      obtain rfl:=hpp.out h1m
      have hRl:R.length=m-1:=by have:=Hm.out;simp at this;omega
      obtain⟨t,ht⟩:∃t,R[k]? =some t:=⟨_,List.getElem?_eq_getElem (by have:=HM.out;have:=HQ.out;omega)⟩
      have ct:wo.cell? ⟨N,1+k,none⟩=some (.string t):=by
       have h0:=HcP.out (1+k) t (by rw[show 1+k=k+1 by omega];simpa using ht)
       have h1:=Lib.lt_of_cell h0
       exact((HK3.out.thenN K).cell (p:=⟨N,1+k,none⟩) h1 (λx=>x)).trans h0
      have hwt:ws[k]? =some t.data.toList:=by rw[Hws.out,List.getElem?_map,ht];rfl
      have htl:t.size<=1000000:=Hple.out t (List.mem_cons_of_mem _ (List.mem_of_getElem? ht))
      have hone:=λW (KW:Keep NoB wo W)=>one_any t W htl (HV.out.keep (((HK1.out.thenN HK3.out).thenN K).thenN KW))
      have Hone:=Lib.hid hone
      have Hwt:=Lib.hid hwt
      have Htl:=Lib.hid htl
      clear hone hwt ht hRl htl h1m
      go_wp2_with fail
      refine(Hone.out _ (Keep.refl _ _)).mono ?_
      rintro e w4 ⟨⟨nm,tg,pa,na,ca,B,rfl,hob⟩,K4⟩
      have Hob:=Lib.hid hob
      clear hob
      cases B with
      | false=>
       have hp:parseT s.data.toList=none:=by
        have h1:oneT t.data.toList=none:=by
         have h:=Hob.out
         cases hx:oneT t.data.toList with
         | none=>rfl
         | some v=>rw[hx]at h;cases h.1
        have h2:allOnes (linesOf s.data.toList)=none:=by
         refine allOnes_none _ k t.data.toList ?_ h1
         rw[Hlines.out,List.getElem?_dropLast,if_pos ?_]
         ·have:=Hwt.out;rw[Hws.out]at this;exact this
         ·have:=HM.out;have:=HQ.out;have:=Hm.out;rw[List.length_map];simp at this;omega
        rw[parseT,Hhead.out,<-HB.out,<-Htpl.out]
        have h3:=Hnb.out
        cases hx:numT tp.data.toList with
        | none=>simp
        | some v=>simp[h2]
       have hsaid:∀W,ParseSaid s W (.returned (.tuple #[.int .i64 0,.slice none 0 0,.iface 40 (.int .i64 3)])):=λW=>by rw[ParseSaid,hp];rfl
       have Hsaid:=Lib.hid hsaid
       clear hp hsaid
       go_wp2_with fail
       go_ret3
       exact⟨Hsaid.out _,(((HK1.out.thenN HK3.out).thenN K).thenN K4).alloc _⟩
      | true=>
       obtain⟨x,hx⟩:∃x,oneT t.data.toList=some x:=by
        have h:=Hob.out
        cases hx:oneT t.data.toList with
        | none=>rw[hx]at h;cases h
        | some x=>exact⟨x,rfl⟩
       have hob:=Hob.out
       rw[hx]at hob
       obtain⟨-,rfl,rfl,hnx,hix⟩:=hob
       obtain⟨xn,xt,ns⟩:=x
       simp only at hnx
       have hxl:ns.length<=1000000:=by
        have h1:=oneT_len hx
        have h2:=Htl.out
        have h3:t.data.toList.length=t.size:=rfl
        simp only at h1
        omega
       obtain⟨pv,cv,hav⟩:=own_sl1 hO.out
       subst hav
       obtain⟨ii,hii,hzi,hsi,hbi⟩:=item_info
       have hO4:=((hO.out.keep K4 (λ_ _ x=>x)).alloc (.cells #[.string xn,.string xt,.slice pa na ca] 47)).alloc (.cells #[.string xn,.string xt,.slice pa na ca] 47)
       have hs4:w3.heap.size<=w4.heap.size:=(K.thenN K4).size
       have Hx:=Lib.hid hx
       have Hnx:=Lib.hid hnx
       have Hix:=Lib.hid hix
       have Hxl:=Lib.hid hxl
       have hcn:=cells_new (w4.alloc (.cells #[.string xn,.string xt,.slice pa na ca] 47)) [.string xn,.string xt,.slice pa na ca] 47
       have hsz:(w4.alloc (.cells #[.string xn,.string xt,.slice pa na ca] 47)).heap.size=w4.heap.size+1:=Array.size_push _
       rw[hsz]at hcn
       have Hcn:=Lib.hid hcn
       clear hx hnx hix hxl Hone Hob hcn hsz
       go_wp2_with (at_builtin;refine wpList_append_n _ rfl _ _ 48 rfl w3.heap.size 47 ii _ 3 56 Tryz.underlying48 hii hzi hsi hbi rfl (by decide) (.slice pv k cv) k _ rfl hO4 ⟨w4.heap.size+1,0,none⟩ 1 1 [.string xn,.string xt,.slice pa na ca] rfl rfl Hcn.out (encItem_one3 xn xt pa na ca) (by unfold maxLen;omega) (by omega) (by simp<;>omega) ?_;intro v5 w5 own5 hg5)
       have KV:Keep (λb=>(Value.slice pv k cv).ownBlock=some b) ((w4.alloc (.cells #[.string xn,.string xt,.slice pa na ca] 47)).alloc (.cells #[.string xn,.string xt,.slice pa na ca] 47)) w5:=(Keep.refl _ _).grown hg5 (λq hq=> .inl hq)
       have K45:Keep NoB w4 ((w4.alloc (.cells #[.string xn,.string xt,.slice pa na ca] 47)).alloc (.cells #[.string xn,.string xt,.slice pa na ca] 47)):=((Keep.refl _ _).alloc _).alloc _
       have K35:Keep NoB w3 w5:=((K.thenN K4).thenN K45).grown hg5 (λq hq=> .inr (hO.out.lt q hq).1)
       have hkeep:∀(u:Value) (l:List Int),Nums w4 u l->IntRow w4 u->Nums w5 u l∧IntRow w5 u:=by
        intro u l hn hi
        have hne:∀b,u.ownBlock=some b->¬(Value.slice pv k cv).ownBlock=some b:=by
         intro b hb hv
         obtain⟨cs,fz,hc⟩:=hi b hb
         have hc2:=K45.heap hc (λx=>x)
         rcases hO4.2 with⟨hv0,_⟩|⟨g,cap,cur,fz2,hv0,_,hgg,_⟩
         ·rw[hv0]at hv;cases hv
         ·rw[hv0]at hv
          obtain rfl:g=b:=Option.some.inj hv
          exact absurd (two_types' hc2 hgg) (by decide)
        refine⟨(hn.keep K45 (λ_ _ x=>x)).keep KV hne,λb hb=> ?_⟩
        obtain⟨cs,fz,hc⟩:=hi b hb
        exact⟨cs,fz,KV.heap (K45.heap hc (λx=>x)) (hne b hb)⟩
       refine⟨⟨k+1,L++ [⟨xn,xt,.slice pa na ca,ns⟩],_,by go_num,rfl,by omega,Lib.hid ⟨?_,by rw[List.length_append,hL.out.2];rfl⟩,Lib.hid ?_,Lib.hid ?_,K35⟩,by simp[intOf];omega⟩
       ·have hk2:=(List.getElem?_eq_some_iff.1 Hwt.out)
        rw[List.take_succ_eq_append_getElem hk2.1,hk2.2,List.map_append]
        exact allOnes_snoc _ _ _ _ hL.out.1 Hx.out
       ·rw[List.flatMap_append]
        exact own5
       ·intro y hy
        rcases List.mem_append.1 hy with hy|hy
        ·obtain⟨h1,h2,h3⟩:=hN.out y hy
         have h4:=hkeep y.av y.ns (h1.keep K4 (λ_ _ x=>x)) (λb hb=>by obtain⟨cs,fz,hc⟩:=h2 b hb;exact⟨cs,fz,K4.heap hc (λx=>x)⟩)
         exact⟨h4.1,h4.2,h3⟩
        ·rw[List.mem_singleton.1 hy]
         have h4:=hkeep (.slice pa na ca) ns Hnx.out Hix.out
         exact⟨h4.1,h4.2,Hxl.out⟩
     ·obtain rfl:k=Q:=by omega
      have k1:¬((k:Int)<(k:Int)):=by omega
      obtain⟨pv,cv,hav⟩:=own_sl1 hO.out
      subst hav
      have hlk:=hL.out.2
      have hall:allOnes (linesOf s.data.toList)=some (L.map plainI):=by
       have h:=hL.out.1
       rw[Hlines.out]
       have e:ws.take k=(R.map (·.data.toList)).dropLast:=by
        rw[Hws.out,List.dropLast_eq_take,List.length_map]
        have h1:=HM.out
        have h2:=HQ.out
        have h3:=Hm.out
        simp only[List.length_cons]at h3
        by_cases h4:R.length=0
        ·have:R= []:=List.eq_nil_of_length_eq_zero h4
         subst this
         simp
        ·congr 1
         omega
       rw[<-e]
       exact h
      have hit:Items wo (.slice pv L.length cv) L:=⟨RowsK.ofN encItem_len (by rw[hlk];exact hO.out),λx hx=>(hN.out x hx).1⟩
      have hpr:=print_any n (.slice pv L.length cv) L wo hit (by unfold maxLen;omega) (λx hx=>(hN.out x hx).2.2) (HV.out.keep ((HK1.out.thenN HK3.out).thenN K)).pow
      rw[hlk]at hpr
      obtain⟨PS,hPS⟩:∃p,p=printS n L:=⟨_,rfl⟩
      rw[<-hPS]at hpr
      have hparse:∀d,numT tp.data.toList=some d->parseT s.data.toList=if printOk d (L.map plainI)=true∧printT d (L.map plainI)=s.data.toList then some (d,L.map plainI)else none:=by
       intro d hd
       rw[parseT,Hhead.out,<-HB.out,<-Htpl.out,hd,hall]
       simp
      have hd:numT tp.data.toList=some n:=by
       have h3:=Hnb.out
       cases hx:numT tp.data.toList with
       | none=>rw[hx]at h3;cases h3
       | some v=>rw[hx]at h3;rw[h3.1]
      have hpar:=hparse n hd
      have Hpar:=Lib.hid hpar
      have HPS:=Lib.hid hPS
      have Hpr:=Lib.hid hpr
      have Hlk:=Lib.hid hlk
      have Hit:=Lib.hid hit
      clear hpar hPS hpr hparse hd hall hlk hit
      by_cases hok:printOk n (L.map plainI)=true
      ·have hE:printE n L= .nilIface:=by rw[printE,if_pos hok]
       have hpr:=Hpr.out
       rw[hE]at hpr
       have Hpr2:=Lib.hid hpr
       have Hok:=Lib.hid hok
       clear hpr Hpr hE hok
       by_cases hsame:PS=s
       ·have hb:(@BEq.beq (List UInt8) (@List.instBEq UInt8 instBEqOfDecidableEq) PS.toList s.toList)=true:=by rw[beqB,decide_eq_true hsame]
        have Hsame:=Lib.hid hsame
        clear hsame
        go_wp2_with fail
        refine Hpr2.out.mono ?_
        rintro e w6 ⟨rfl,K6⟩
        go_wp2_with fail
        go_ret3
        refine⟨?_,(((HK1.out.thenN HK3.out).thenN K).thenN K6)⟩
        have hpp:printT n (L.map plainI)=s.data.toList:=by
         have h1:=HPS.out
         rw[printS,if_pos Hok.out,Hsame.out]at h1
         rw[h1]
        rw[ParseSaid,Hpar.out,if_pos ⟨Hok.out,hpp⟩]
        refine⟨_,L,rfl,rfl,?_⟩
        rw[<-Hlk.out]
        exact⟨⟨Hit.out.rows.keep K6 (λ_ _ x=>x),λx hx=>(Hit.out.nums x hx).keep K6 (λ_ _ x=>x)⟩,λx hx b hb=>by obtain⟨cs,fz,hc⟩:=(hN.out x hx).2.1 b hb;exact⟨cs,fz,K6.heap hc (λx=>x)⟩⟩
       ·have hb:(@BEq.beq (List UInt8) (@List.instBEq UInt8 instBEqOfDecidableEq) PS.toList s.toList)=false:=by rw[beqB,decide_eq_false hsame]
        have hnp:parseT s.data.toList=none:=by
         rw[Hpar.out,if_neg]
         rintro⟨_,h⟩
         have h1:=HPS.out
         rw[printS,if_pos Hok.out,h]at h1
         exact hsame h1
        have Hnp:=Lib.hid hnp
        clear hsame hnp
        go_wp2_with fail
        refine Hpr2.out.mono ?_
        rintro e w6 ⟨rfl,K6⟩
        go_wp2_with fail
        go_ret3
        exact⟨by rw[ParseSaid,Hnp.out];rfl,(((HK1.out.thenN HK3.out).thenN K).thenN K6)⟩
      ·have hE:printE n L= .iface 40 (.int .i64 1):=by rw[printE,if_neg hok];rfl
       have hnp:parseT s.data.toList=none:=by
        rw[Hpar.out,if_neg]
        rintro⟨h,_⟩
        exact hok h
       have Hnp:=Lib.hid hnp
       have hpr:=Hpr.out
       rw[hE]at hpr
       have Hpr2:=Lib.hid hpr
       clear hpr Hpr hE hok hnp
       go_wp2_with fail
       refine Hpr2.out.mono ?_
       rintro e w6 ⟨rfl,K6⟩
       go_wp2_with fail
       go_ret3
       exact⟨by rw[ParseSaid,Hnp.out];rfl,(((HK1.out.thenN HK3.out).thenN K).thenN K6)⟩
end Go.Proofs.YtnmhgehpddipdaaGreatDoor
namespace Go.Cof
open Go.RowKit Go.Sort Go.Shelf
structure DeedV where
 what:Int
 name:ByteArray
 tag:ByteArray
 av:Value
 ns:List Int
instance:Inhabited DeedV:=⟨⟨0,⟨#[]⟩,⟨#[]⟩,.slice none 0 0,[]⟩⟩
def encDeed(x:DeedV):List Value:= [.int .i64 x.what,.string x.name,.string x.tag,x.av]
structure Deeds(w:World)(v:Value)(l:List DeedV):Prop where
 rows:RowsK w v 4 encDeed l
 nums:∀x∈l,Nums w x.av x.ns
end Go.Cof
namespace Go.Proofs.YtnmhgehpddipdaaGreatDoor
open Go.RowKit Go.Cof Go.Sort Go.Shelf
end Go.Proofs.YtnmhgehpddipdaaGreatDoor
