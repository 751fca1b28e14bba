import Derived.Test.YtopbkdebihcmcaaGreatDoorYAD
import Derived.Test.YtopbkdebihcmcaaGreatDoorProg
import Derived.BigQuiet
import Derived.Lib.Hide
import Derived.Shelf.Abstract
set_option linter.unusedSimpArgs false
set_option linter.unusedVariables false
namespace Go.Proofs.YtopbkdebihcmcaaGreatDoor
open Go.RowKit
set_option maxRecDepth 100000
set_option maxHeartbeats 16000000
def BH(n x y:Int):Int:=wrap64 (n+wrap64 (wrap64 (x-y)*wrap64 (x-y)))
def zaT:List (Int×Int)->Int->Int
 | [],n=>n
 | p::l,n=>zaT l (BH n p.1 p.2)
def PX(a b:List Int):Int:=zaT (a.zip b) 0
theorem V7:∀(l:List (Int×Int)) (p:Int×Int) (n:Int),zaT (l++ [p]) n=BH (zaT l n) p.1 p.2
 | [],_,_=>rfl
 | q::l,p,n=>V7 l p (BH n q.1 q.2)
def FO(a b:List Int)(k:Nat):Int:=zaT ((a.zip b).take k) 0
theorem V8(a b:List Int):FO a b 0=0:=rfl
theorem IE(a b:List Int)(k:Nat)(ha:k<a.length)(hb:k<b.length):FO a b (k+1)=BH (FO a b k) (a.getD k 0) (b.getD k 0):=by
 have h:k<(a.zip b).length:=by rw[List.length_zip];omega
 unfold FO;rw[aT h,V7,List.getElem_zip,ax,ax,aC ha,aC hb];rfl
theorem Rz(a b:List Int)(k:Nat)(h:min a.length b.length<=k):FO a b k=PX a b:=by unfold FO PX;rw[aV (by rw[List.length_zip];omega)]
theorem zlJ(pa pb:Option Addr)(ca cb na nb:Nat)(a b:List Int)(w:World)(A:Nums w (.slice pa na ca) a)(B:Nums w (.slice pb nb cb) b)(hna:na=a.length)(hnb:nb=b.length)(ha:na<=1000000)(hb:nb<=1000000)(hc:nb<na):
  Calls Tryz.prog 203 #[.slice pa na ca,.slice pb nb cb] w λe w'=>e= .returned (.int .i64 (PX a b))∧∃q,w'=w.drewN q:=by
 have Hna:=Lib.hid hna;have MP:=Lib.hid hnb;have hfin:=Rz a b nb (by omega);have yH:=Lib.hid hfin;clear hna hnb hfin;go_enter Tryz.func203,Tryz.ntmps203;go_wp2_with fail
 go_loopw [5,12] (λn i wr=>∃k:Nat,k<=nb∧i= .int .i64 k∧n= .int .i64 (FO a b k)∧∃q,wr=w.drewN q) (λ_ i _=>nb-(intOf i).toNat)
 case atStart=>exact⟨0,by omega,rfl,rfl,0,rfl⟩
 case round=>
  obtain⟨k,hk,rfl,rfl,q,rfl⟩:=hrel;by_cases hlt:k<nb
  ·have j1:(k:Int)<nb:=by omega
   have k1:(k:Int)<na:=by omega
   have k2:(k:Int)<nb:=by omega
   obtain⟨bA,oA,rfl,_,hbA,hcA⟩:=A.at (by have:=Hna.out;omega);obtain⟨bB,oB,rfl,_,hbB,hcB⟩:=B.at (by have:=MP.out;omega);have cA:=hcA k (by have:=Hna.out;omega);have cB:=hcB k (by have:=MP.out;omega);have hst:=IE a b k (by have:=Hna.out;omega) (by have:=MP.out;omega);obtain⟨x,hx⟩:∃x,x=a.getD k 0:=⟨_,rfl⟩
   obtain⟨y,hy⟩:∃y,y=b.getD k 0:=⟨_,rfl⟩
   obtain⟨f,hf⟩:∃f,f=FO a b k:=⟨_,rfl⟩
   rw[<-hx]at cA hst;rw[<-hy]at cB hst;rw[<-hf]at hst⊢;unfold BH at hst;have Hst:=Lib.hid hst;clear hcA hcB hst hx hy hf;go_wp2_with fail
   go_quiet (fail)
   go_wp2_with fail;exact⟨⟨k+1,by omega,by go_num,by rw[Hst.out],_,rfl⟩,by simp[intOf];omega⟩
  ·obtain rfl:k=nb:=by omega
   go_wp2_with fail;go_ret;exact⟨by rw[yH.out];rfl,_,rfl⟩
theorem zlL(pa pb:Option Addr)(ca cb na nb:Nat)(a b:List Int)(w:World)(A:Nums w (.slice pa na ca) a)(B:Nums w (.slice pb nb cb) b)(hna:na=a.length)(hnb:nb=b.length)(ha:na<=1000000)(hb:nb<=1000000)(hc:¬nb<na):
  Calls Tryz.prog 203 #[.slice pa na ca,.slice pb nb cb] w λe w'=>e= .returned (.int .i64 (PX a b))∧∃q,w'=w.drewN q:=by
 have Hna:=Lib.hid hna;have MP:=Lib.hid hnb;have hfin:=Rz a b na (by omega);have yH:=Lib.hid hfin;clear hna hnb hfin;go_enter Tryz.func203,Tryz.ntmps203;go_wp2_with fail
 go_loopw [5,12] (λn i wr=>∃k:Nat,k<=na∧i= .int .i64 k∧n= .int .i64 (FO a b k)∧∃q,wr=w.drewN q) (λ_ i _=>na-(intOf i).toNat)
 case atStart=>exact⟨0,by omega,rfl,rfl,0,rfl⟩
 case round=>
  obtain⟨k,hk,rfl,rfl,q,rfl⟩:=hrel;by_cases hlt:k<na
  ·have j1:(k:Int)<na:=by omega
   have k1:(k:Int)<na:=by omega
   have k2:(k:Int)<nb:=by omega
   obtain⟨bA,oA,rfl,_,hbA,hcA⟩:=A.at (by have:=Hna.out;omega);obtain⟨bB,oB,rfl,_,hbB,hcB⟩:=B.at (by have:=MP.out;omega);have cA:=hcA k (by have:=Hna.out;omega);have cB:=hcB k (by have:=MP.out;omega);have hst:=IE a b k (by have:=Hna.out;omega) (by have:=MP.out;omega);obtain⟨x,hx⟩:∃x,x=a.getD k 0:=⟨_,rfl⟩
   obtain⟨y,hy⟩:∃y,y=b.getD k 0:=⟨_,rfl⟩
   obtain⟨f,hf⟩:∃f,f=FO a b k:=⟨_,rfl⟩
   rw[<-hx]at cA hst;rw[<-hy]at cB hst;rw[<-hf]at hst⊢;unfold BH at hst;have Hst:=Lib.hid hst;clear hcA hcB hst hx hy hf;go_wp2_with fail
   go_quiet (fail)
   go_wp2_with fail;exact⟨⟨k+1,by omega,by go_num,by rw[Hst.out],_,rfl⟩,by simp[intOf];omega⟩
  ·obtain rfl:k=na:=by omega
   go_wp2_with fail;go_ret;exact⟨by rw[yH.out];rfl,_,rfl⟩
theorem zi3(va vb:Value)(a b:List Int)(w:World)(A:Nums w va a)(B:Nums w vb b)(ha:a.length<=1000000)(hb:b.length<=1000000):
  Calls Tryz.prog 203 #[va,vb] w λe w'=>e= .returned (.int .i64 (PX a b))∧∃q,w'=w.drewN q:=by
 obtain⟨pa,ca,rfl⟩:=A.len;obtain⟨pb,cb,rfl⟩:=B.len;by_cases hc:b.length<a.length
 ·exact zlJ pa pb ca cb _ _ a b w A B rfl rfl ha hb hc
 ·exact zlL pa pb ca cb _ _ a b w A B rfl rfl ha hb hc
theorem XT(g:FuncId)(p:Int->Bool)(hp:∀s w,Calls Tryz.prog g #[.int .i64 s] w λe w'=>e= .returned (.bool (p s))∧w'=w)(eg:∀args w,(callFunc g args).run Tryz.prog w= .ok (.enter g args) w)(v:Value)(l:List Int)(w:World)(S:Nums w v l)(hl:l.length<=1000000):
  Calls Tryz.prog 208 #[v,.func (.func g) #[] #[]] w λe w'=>(∃i:Int,e= .returned (.int .i64 i)∧decide (0<=i)=l.any p)∧w'=w:=by
 obtain⟨a,c,rfl⟩:=S.len;obtain⟨n,hn⟩:∃n,n=l.length:=⟨_,rfl⟩
 rw[<-hn]at S hl;rw[<-hn];have Hn:=Lib.hid hn;clear hn;go_enter Tryz.func208,Tryz.ntmps208;go_wp2_with fail
 go_loop [8] (λi=>∃k:Nat,k<=n∧i= .int .i64 k∧(l.take k).any p=false) (λi=>n-(intOf i).toNat)
 case atStart=>exact⟨0,by omega,rfl,rfl⟩
 case round=>
  obtain⟨k,hk,rfl,hpre⟩:=hrel;by_cases hlt:k<n
  ·have j1:decide (k<n)=true:=by simp;omega
   obtain⟨b,off,rfl,hnl,hb,hcell⟩:=S.at (by have:=Hn.out;omega);have hck:=hcell k (by have:=Hn.out;omega);obtain⟨s,hs⟩:∃s,s=l.getD k 0:=⟨_,rfl⟩
   rw[<-hs]at hck;have hks:(l.take (k+1)).any p=p s:=by rw[aT (by have:=Hn.out;omega),List.any_append,hpre,hs,ax,aC (by have:=Hn.out;omega)];simp
   have Hks:=Lib.hid hks;have zpA:=Lib.hid hpre;have hj:(k:Int)<n:=by omega
   clear hcell hs hks hpre hnl;go_wp2_with fail;refine(hp s w).mono ?_;rintro e w' ⟨rfl,hw⟩;subst w';cases hps:p s with
   | true=>
    rw[hps]at Hks;clear hps;go_wp2_with fail;go_ret;refine⟨⟨(k:Int),rfl,?_⟩,rfl⟩;have h1:=Hks.out;rw[iI]at h1;obtain⟨y,hy,hpy⟩:=h1;have h2:l.any p=true:=iI.2 ⟨y,dH hy,hpy⟩;rw[h2];simp
   | false=>
    rw[hps]at Hks;clear hps;go_wp2_with fail;exact⟨⟨k+1,by omega,by go_num,Hks.out⟩,by simp[intOf];omega⟩
  ·obtain rfl:k=n:=by omega
   have hall:l.any p=false:=by rw[<-hpre,aV (by rw[<-Hn.out];exact aF _)]
   have j1:decide (k<k)=false:=by simp
   have zaX:=Lib.hid hall;clear hall hpre;go_wp2_with fail;go_ret;exact⟨⟨-1,rfl,by rw[zaX.out];rfl⟩,rfl⟩
theorem FB(g:FuncId)(p:Int->Bool)(hp:∀s w,Calls Tryz.prog g #[.int .i64 s] w λe w'=>e= .returned (.bool (p s))∧w'=w)(eg:∀args w,(callFunc g args).run Tryz.prog w= .ok (.enter g args) w)(v:Value)(l:List Int)(w:World)(S:Nums w v l)(hl:l.length<=1000000):
  Calls Tryz.prog 168 #[v,.func (.func g) #[] #[]] w λe w'=>e= .returned (.bool (l.any p))∧w'=w:=by
 have hi:=XT g p hp eg v l w S hl;go_enter Tryz.func168,Tryz.ntmps168;go_wp2_with fail;refine hi.mono ?_;rintro e w' ⟨⟨i,rfl,hii⟩,hw⟩;subst w';have Hii:=Lib.hid hii;clear hii hi;go_wp2_with fail;go_ret;refine⟨dK (λb=>Ending.returned (.bool b)) ?_,rfl⟩;rw[<-Hii.out]
def BD(n:Int):Bool:=decide (n< -1000)||decide (1000<n)
theorem zhj(n:Int)(w:World):Calls Tryz.prog 200 #[.int .i64 n] w λe w'=>e= .returned (.bool (BD n))∧w'=w:=by
 by_cases h:n< -1000
 ·have hb:BD n=true:=by simp[BD,h]
  rw[hb];go_enter Tryz.func200,Tryz.ntmps200;go_wp2_with fail;go_ret;exact⟨rfl,rfl⟩
 ·have hb:BD n=decide (1000<n):=by simp[BD,h]
  rw[hb];have hd:decide (n< -1000)=false:=by simpa using h
  clear h hb;go_enter Tryz.func200,Tryz.ntmps200;go_wp2_with fail;go_ret;exact⟨rfl,rfl⟩
def DN(nS:Int)(l:List Int)(k:Int):Bool:=decide ((l.length:Int)=nS)&& !l.any BD&&decide (1<=k)&&decide (k<=60)
theorem Xo(nS:Int)(v:Value)(l:List Int)(k:Int)(w:World)(S:Nums w v l)(hl:l.length<=1000000):
  Calls Tryz.prog 156 #[.int .i64 nS,v,.int .i64 k] w λe w'=>e= .returned (.bool (DN nS l k))∧w'=w:=by
 have hc:=FB 200 BD zhj (enters_of Tryz.func200 (by kernel_rfl) rfl) v l w S hl;obtain⟨a,c,rfl⟩:=S.len;by_cases hd:(l.length:Int)=nS
 ·cases hb:l.any BD with
  | true=>
   have hr:DN nS l k=false:=by simp[DN,hb]
   rw[hr];rw[hb]at hc;have Hd:=Lib.hid hd;have hd2:((l.length:Int)==nS)=true:=by simpa using hd
   clear hd hb hr;go_enter Tryz.func156,Tryz.ntmps156;go_wp2_with fail;refine hc.mono ?_;rintro e w' ⟨rfl,hw⟩;subst w';go_wp2_with fail;go_ret;exact⟨rfl,rfl⟩
  | false=>
   have hr:DN nS l k=(decide (1<=k)&&decide (k<=60)):=by simp[DN,hb,hd]
   rw[hr];rw[hb]at hc;have hd2:((l.length:Int)==nS)=true:=by simpa using hd
   by_cases h1:1<=k
   all_goals
    clear hd hb hr;go_enter Tryz.func156,Tryz.ntmps156;go_wp2_with fail;refine hc.mono ?_;rintro e w' ⟨rfl,hw⟩;subst w';go_wp2_with fail;go_ret;exact⟨by first|(simp[h1];done)|(simp[h1];omega),rfl⟩
 ·have hr:DN nS l k=false:=by simp[DN,hd]
  rw[hr];have hd2:((l.length:Int)==nS)=false:=by simpa using hd
  clear hd hr hc;go_enter Tryz.func156,Tryz.ntmps156;go_wp2_with fail;go_ret;exact⟨rfl,rfl⟩
end Go.Proofs.YtopbkdebihcmcaaGreatDoor
