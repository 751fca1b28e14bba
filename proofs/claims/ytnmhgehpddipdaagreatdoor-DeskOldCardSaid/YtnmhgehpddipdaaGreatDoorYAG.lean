import Derived.Test.YtnmhgehpddipdaaGreatDoorYAD
import Derived.Test.YtnmhgehpddipdaaGreatDoorProg
import Derived.BigQuiet
import Derived.Deep.QuietTactic
import Derived.Lib.Hide
import Derived.Shelf.Abstract
set_option linter.unusedSimpArgs false
set_option linter.unusedVariables false
namespace Go.Cof
open Go.RowKit
def farStep(n x y:Int):Int:=wrap64 (n+wrap64 (wrap64 (x-y)*wrap64 (x-y)))
def farL:List (Int×Int)->Int->Int
 | [],n=>n
 | p::l,n=>farL l (farStep n p.1 p.2)
def farW(a b:List Int):Int:=farL (a.zip b) 0
theorem farL_snoc:∀(l:List (Int×Int)) (p:Int×Int) (n:Int),farL (l++ [p]) n=farStep (farL l n) p.1 p.2
 | [],_,_=>rfl
 | q::l,p,n=>farL_snoc l p (farStep n q.1 q.2)
def farK(a b:List Int)(k:Nat):Int:=farL ((a.zip b).take k) 0
theorem farK_zero(a b:List Int):farK a b 0=0:=rfl
theorem farK_succ(a b:List Int)(k:Nat)(ha:k<a.length)(hb:k<b.length):farK a b (k+1)=farStep (farK a b k) (a.getD k 0) (b.getD k 0):=by
 have h:k<(a.zip b).length:=by rw[List.length_zip];omega
 unfold farK
 rw[List.take_succ_eq_append_getElem h,farL_snoc,List.getElem_zip,List.getD_eq_getElem?_getD,List.getD_eq_getElem?_getD,List.getElem?_eq_getElem ha,List.getElem?_eq_getElem hb]
 rfl
theorem farK_all(a b:List Int)(k:Nat)(h:min a.length b.length<=k):farK a b k=farW a b:=by
 unfold farK farW
 rw[List.take_of_length_le (by rw[List.length_zip];omega)]
end Go.Cof
namespace Go.Proofs.YtnmhgehpddipdaaGreatDoor
open Go.RowKit Go.Cof
set_option maxRecDepth 100000 in
set_option maxHeartbeats 4000000 in
theorem far_lt(pa pb:Option Addr)(ca cb na nb:Nat)(a b:List Int)(w:World)(A:Nums w (.slice pa na ca) a)(B:Nums w (.slice pb nb cb) b)(hna:na=a.length)(hnb:nb=b.length)(ha:na<=1000000)(hb:nb<=1000000)(hc:nb<na):
  Calls Tryz.prog 166 #[.slice pa na ca,.slice pb nb cb] w λe w'=>e= .returned (.int .i64 (farW a b))∧∃q,w'=w.drewN q:=by
 have Hna:=Lib.hid hna
 have Hnb:=Lib.hid hnb
 have hfin:=farK_all a b nb (by omega)
 have Hfin:=Lib.hid hfin
 clear hna hnb hfin
 go_enter Tryz.func166,Tryz.ntmps166
 go_wp2_with fail
 go_loopw [5,12] (λn i wr=>∃k:Nat,k<=nb∧i= .int .i64 k∧n= .int .i64 (farK a b k)∧∃q,wr=w.drewN q) (λ_ i _=>nb-(intOf i).toNat)
 case atStart=>exact⟨0,by omega,rfl,rfl,0,rfl⟩
 case round=>
  obtain⟨k,hk,rfl,rfl,q,rfl⟩:=hrel
  by_cases hlt:k<nb
  ·have j1:(k:Int)<nb:=by omega
   have k1:(k:Int)<na:=by omega
   have k2:(k:Int)<nb:=by omega
   obtain⟨bA,oA,rfl,_,hbA,hcA⟩:=A.at (by have:=Hna.out;omega)
   obtain⟨bB,oB,rfl,_,hbB,hcB⟩:=B.at (by have:=Hnb.out;omega)
   have cA:=hcA k (by have:=Hna.out;omega)
   have cB:=hcB k (by have:=Hnb.out;omega)
   have hst:=farK_succ a b k (by have:=Hna.out;omega) (by have:=Hnb.out;omega)
   obtain⟨x,hx⟩:∃x,x=a.getD k 0:=⟨_,rfl⟩
   obtain⟨y,hy⟩:∃y,y=b.getD k 0:=⟨_,rfl⟩
   obtain⟨f,hf⟩:∃f,f=farK a b k:=⟨_,rfl⟩
   rw[<-hx]at cA hst
   rw[<-hy]at cB hst
   rw[<-hf]at hst⊢
   unfold farStep at hst
   have Hst:=Lib.hid hst
   clear hcA hcB hst hx hy hf
   go_wp2_with fail
   go_quiet (fail)
   go_wp2_with fail
   exact⟨⟨k+1,by omega,by go_num,by rw[Hst.out],_,rfl⟩,by simp[intOf];omega⟩
  ·obtain rfl:k=nb:=by omega
   go_wp2_with fail
   go_ret
   exact⟨by rw[Hfin.out];rfl,_,rfl⟩
set_option maxRecDepth 100000 in
set_option maxHeartbeats 4000000 in
theorem far_ge(pa pb:Option Addr)(ca cb na nb:Nat)(a b:List Int)(w:World)(A:Nums w (.slice pa na ca) a)(B:Nums w (.slice pb nb cb) b)(hna:na=a.length)(hnb:nb=b.length)(ha:na<=1000000)(hb:nb<=1000000)(hc:¬nb<na):
  Calls Tryz.prog 166 #[.slice pa na ca,.slice pb nb cb] w λe w'=>e= .returned (.int .i64 (farW a b))∧∃q,w'=w.drewN q:=by
 have Hna:=Lib.hid hna
 have Hnb:=Lib.hid hnb
 have hfin:=farK_all a b na (by omega)
 have Hfin:=Lib.hid hfin
 clear hna hnb hfin
 go_enter Tryz.func166,Tryz.ntmps166
 go_wp2_with fail
 go_loopw [5,12] (λn i wr=>∃k:Nat,k<=na∧i= .int .i64 k∧n= .int .i64 (farK a b k)∧∃q,wr=w.drewN q) (λ_ i _=>na-(intOf i).toNat)
 case atStart=>exact⟨0,by omega,rfl,rfl,0,rfl⟩
 case round=>
  obtain⟨k,hk,rfl,rfl,q,rfl⟩:=hrel
  by_cases hlt:k<na
  ·have j1:(k:Int)<na:=by omega
   have k1:(k:Int)<na:=by omega
   have k2:(k:Int)<nb:=by omega
   obtain⟨bA,oA,rfl,_,hbA,hcA⟩:=A.at (by have:=Hna.out;omega)
   obtain⟨bB,oB,rfl,_,hbB,hcB⟩:=B.at (by have:=Hnb.out;omega)
   have cA:=hcA k (by have:=Hna.out;omega)
   have cB:=hcB k (by have:=Hnb.out;omega)
   have hst:=farK_succ a b k (by have:=Hna.out;omega) (by have:=Hnb.out;omega)
   obtain⟨x,hx⟩:∃x,x=a.getD k 0:=⟨_,rfl⟩
   obtain⟨y,hy⟩:∃y,y=b.getD k 0:=⟨_,rfl⟩
   obtain⟨f,hf⟩:∃f,f=farK a b k:=⟨_,rfl⟩
   rw[<-hx]at cA hst
   rw[<-hy]at cB hst
   rw[<-hf]at hst⊢
   unfold farStep at hst
   have Hst:=Lib.hid hst
   clear hcA hcB hst hx hy hf
   go_wp2_with fail
   go_quiet (fail)
   go_wp2_with fail
   exact⟨⟨k+1,by omega,by go_num,by rw[Hst.out],_,rfl⟩,by simp[intOf];omega⟩
  ·obtain rfl:k=na:=by omega
   go_wp2_with fail
   go_ret
   exact⟨by rw[Hfin.out];rfl,_,rfl⟩
theorem far_any(va vb:Value)(a b:List Int)(w:World)(A:Nums w va a)(B:Nums w vb b)(ha:a.length<=1000000)(hb:b.length<=1000000):
  Calls Tryz.prog 166 #[va,vb] w λe w'=>e= .returned (.int .i64 (farW a b))∧∃q,w'=w.drewN q:=by
 obtain⟨pa,ca,rfl⟩:=A.len
 obtain⟨pb,cb,rfl⟩:=B.len
 by_cases hc:b.length<a.length
 ·exact far_lt pa pb ca cb _ _ a b w A B rfl rfl ha hb hc
 ·exact far_ge pa pb ca cb _ _ a b w A B rfl rfl ha hb hc
set_option maxRecDepth 100000 in
set_option maxHeartbeats 4000000 in
theorem indexInt_any(g:FuncId)(p:Int->Bool)(hp:∀s w,Calls Tryz.prog g #[.int .i64 s] w λe w'=>e= .returned (.bool (p s))∧w'=w)(eg:∀args w,(callFunc g args).run Tryz.prog w= .ok (.enter g args) w)(v:Value)(l:List Int)(w:World)(S:Nums w v l)(hl:l.length<=1000000):
  Calls Tryz.prog 162 #[v,.func (.func g) #[] #[]] w λe w'=>(∃i:Int,e= .returned (.int .i64 i)∧decide (0<=i)=l.any p)∧w'=w:=by
 obtain⟨a,c,rfl⟩:=S.len
 obtain⟨n,hn⟩:∃n,n=l.length:=⟨_,rfl⟩
 rw[<-hn]at S hl
 rw[<-hn]
 have Hn:=Lib.hid hn
 clear hn
 go_enter Tryz.func162,Tryz.ntmps162
 go_wp2_with fail
 go_loop [8] (λi=>∃k:Nat,k<=n∧i= .int .i64 k∧(l.take k).any p=false) (λi=>n-(intOf i).toNat)
 case atStart=>exact⟨0,by omega,rfl,rfl⟩
 case round=>
  obtain⟨k,hk,rfl,hpre⟩:=hrel
  by_cases hlt:k<n
  ·have j1:decide (k<n)=true:=by simp;omega
   obtain⟨b,off,rfl,hnl,hb,hcell⟩:=S.at (by have:=Hn.out;omega)
   have hck:=hcell k (by have:=Hn.out;omega)
   obtain⟨s,hs⟩:∃s,s=l.getD k 0:=⟨_,rfl⟩
   rw[<-hs]at hck
   have hks:(l.take (k+1)).any p=p s:=by
    rw[List.take_succ_eq_append_getElem (by have:=Hn.out;omega),List.any_append,hpre,hs,List.getD_eq_getElem?_getD,List.getElem?_eq_getElem (by have:=Hn.out;omega)]
    simp
   have Hks:=Lib.hid hks
   have Hpre:=Lib.hid hpre
   have hj:(k:Int)<n:=by omega
   clear hcell hs hks hpre hnl
   go_wp2_with fail
   refine(hp s w).mono ?_
   rintro e w' ⟨rfl,hw⟩
   subst w'
   cases hps:p s with
   | true=>
    rw[hps]at Hks
    clear hps
    go_wp2_with fail
    go_ret
    refine⟨⟨(k:Int),rfl,?_⟩,rfl⟩
    have h1:=Hks.out
    rw[List.any_eq_true]at h1
    obtain⟨y,hy,hpy⟩:=h1
    have h2:l.any p=true:=List.any_eq_true.2 ⟨y,List.mem_of_mem_take hy,hpy⟩
    rw[h2]
    simp
   | false=>
    rw[hps]at Hks
    clear hps
    go_wp2_with fail
    exact⟨⟨k+1,by omega,by go_num,Hks.out⟩,by simp[intOf];omega⟩
  ·obtain rfl:k=n:=by omega
   have hall:l.any p=false:=by rw[<-hpre,List.take_of_length_le (by rw[<-Hn.out];exact Nat.le_refl _)]
   have j1:decide (k<k)=false:=by simp
   have Hall:=Lib.hid hall
   clear hall hpre
   go_wp2_with fail
   go_ret
   exact⟨⟨-1,rfl,by rw[Hall.out];rfl⟩,rfl⟩
set_option maxRecDepth 100000 in
theorem containsInt_any(g:FuncId)(p:Int->Bool)(hp:∀s w,Calls Tryz.prog g #[.int .i64 s] w λe w'=>e= .returned (.bool (p s))∧w'=w)(eg:∀args w,(callFunc g args).run Tryz.prog w= .ok (.enter g args) w)(v:Value)(l:List Int)(w:World)(S:Nums w v l)(hl:l.length<=1000000):
  Calls Tryz.prog 90 #[v,.func (.func g) #[] #[]] w λe w'=>e= .returned (.bool (l.any p))∧w'=w:=by
 have hi:=indexInt_any g p hp eg v l w S hl
 go_enter Tryz.func90,Tryz.ntmps90
 go_wp2_with fail
 refine hi.mono ?_
 rintro e w' ⟨⟨i,rfl,hii⟩,hw⟩
 subst w'
 have Hii:=Lib.hid hii
 clear hii hi
 go_wp2_with fail
 go_ret
 refine⟨congrArg (λb=>Ending.returned (.bool b)) ?_,rfl⟩
 rw[<-Hii.out]
def farB(n:Int):Bool:=decide (n< -1000)||decide (1000<n)
theorem farR_any(n:Int)(w:World):Calls Tryz.prog 163 #[.int .i64 n] w λe w'=>e= .returned (.bool (farB n))∧w'=w:=by
 by_cases h:n< -1000
 ·have hb:farB n=true:=by simp[farB,h]
  rw[hb]
  go_enter Tryz.func163,Tryz.ntmps163
  go_wp2_with fail
  go_ret
  exact⟨rfl,rfl⟩
 ·have hb:farB n=decide (1000<n):=by simp[farB,h]
  rw[hb]
  have hd:decide (n< -1000)=false:=by simpa using h
  clear h hb
  go_enter Tryz.func163,Tryz.ntmps163
  go_wp2_with fail
  go_ret
  exact⟨rfl,rfl⟩
def askB(dim:Int)(l:List Int)(k:Int):Bool:=decide ((l.length:Int)=dim)&& !l.any farB&&decide (1<=k)&&decide (k<=60)
set_option maxRecDepth 100000 in
theorem ask_any(dim:Int)(v:Value)(l:List Int)(k:Int)(w:World)(S:Nums w v l)(hl:l.length<=1000000):
  Calls Tryz.prog 91 #[.int .i64 dim,v,.int .i64 k] w λe w'=>e= .returned (.bool (askB dim l k))∧w'=w:=by
 have hc:=containsInt_any 163 farB farR_any (enters_of Tryz.func163 (by kernel_rfl) rfl) v l w S hl
 obtain⟨a,c,rfl⟩:=S.len
 by_cases hd:(l.length:Int)=dim
 ·cases hb:l.any farB with
  | true=>
   have hr:askB dim l k=false:=by simp[askB,hb]
   rw[hr]
   rw[hb]at hc
   have Hd:=Lib.hid hd
   have hd2:((l.length:Int)==dim)=true:=by simpa using hd
   clear hd hb hr
   go_enter Tryz.func91,Tryz.ntmps91
   go_wp2_with fail
   refine hc.mono ?_
   rintro e w' ⟨rfl,hw⟩
   subst w'
   go_wp2_with fail
   go_ret
   exact⟨rfl,rfl⟩
  | false=>
   have hr:askB dim l k=(decide (1<=k)&&decide (k<=60)):=by simp[askB,hb,hd]
   rw[hr]
   rw[hb]at hc
   have hd2:((l.length:Int)==dim)=true:=by simpa using hd
   by_cases h1:1<=k
   all_goals
    clear hd hb hr
    go_enter Tryz.func91,Tryz.ntmps91
    go_wp2_with fail
    refine hc.mono ?_
    rintro e w' ⟨rfl,hw⟩
    subst w'
    go_wp2_with fail
    go_ret
    exact⟨by first|(simp[h1];done)|(simp[h1];omega),rfl⟩
 ·have hr:askB dim l k=false:=by simp[askB,hd]
  rw[hr]
  have hd2:((l.length:Int)==dim)=false:=by simpa using hd
  clear hd hr hc
  go_enter Tryz.func91,Tryz.ntmps91
  go_wp2_with fail
  go_ret
  exact⟨rfl,rfl⟩
end Go.Proofs.YtnmhgehpddipdaaGreatDoor
