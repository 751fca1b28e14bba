import Derived.Test.YtnmhgehpddipdaaGreatDoorYAD
import Derived.Test.YtnmhgehpddipdaaGreatDoorYAK
import Derived.Test.YtnmhgehpddipdaaGreatDoorYAM
import Derived.Test.YtnmhgehpddipdaaGreatDoorYAQ
import Derived.Deep.MidRow
import Derived.IntWalk
import Derived.Deep.CutBlock
import Derived.Deep.DeepCutAuto
import Derived.Deep.RegionHeld3
set_option linter.unusedSimpArgs false
set_option linter.unusedVariables false
namespace Go.Proofs.YtnmhgehpddipdaaGreatDoor
open Go.RowKit Go.Cof
theorem right1_any(s:ByteArray)(w:World):Calls Tryz.prog 247 #[.string s] w λe w'=>e= .returned (.bool (decide (s.size≠16)))∧w'=w:=by
 go_enter Tryz.func247,Tryz.ntmps247
 go_wp2
 go_ret
 refine⟨congrArg (λb=>Ending.returned (.bool b)) ?_,rfl⟩
 rw[Bool.eq_iff_iff]
 simp
 omega
set_option maxRecDepth 100000 in
theorem right_any(v:Value)(l:List ByteArray)(w:World)(T:Strs w v l)(hl:l.length<=1000000)(m:Nat)(hm:m<=1000):
  Calls Tryz.prog 201 #[v,.int .i64 m] w λe w'=>e= .returned (.bool (rightB l m))∧w'=w:=by
 have hc:=containsFunc_any 247 _ right1_any (enters_of Tryz.func247 (by kernel_rfl) rfl) v l w T hl
 have hr:rightB l m=(decide (l.length=m)&& !l.any λs=>decide (s.size≠16)):=by
  rw[Bool.eq_iff_iff,rightB_true]
  simp
 rw[hr]
 generalize (l.any λs=>decide (s.size≠16))=b at hc⊢
 obtain⟨p,c,rfl⟩:=T.len
 by_cases hlm:l.length=m
 ·rw[decide_eq_true hlm,Bool.true_and]
  have j1:((l.length:Nat):Int)=m:=by omega
  subst hlm
  clear hr T
  go_enter Tryz.func201,Tryz.ntmps201
  go_wp2_with (go_at_call 246;refine hc.mono ?_;rintro e w2 ⟨rfl,hw2⟩;subst w2)
  go_ret
  first|exact⟨rfl,rfl⟩|exact⟨congrArg (λb=>Ending.returned (.bool b)) (by simp),rfl⟩
 ·rw[decide_eq_false hlm,Bool.false_and]
  have j1:¬((l.length:Nat):Int)=m:=by omega
  clear hr T hc
  go_enter Tryz.func201,Tryz.ntmps201
  go_wp2_with fail
  go_ret
  exact⟨rfl,rfl⟩
set_option maxRecDepth 100000 in
set_option maxHeartbeats 4000000 in
theorem treeRoot_any(p:Option Addr)(len cap:Nat)(l:List ByteArray)(w:World)(V:RoundsVar w)(T:Strs w (.slice p len cap) l)(hcap:len<=cap)(hl:l.length<=1000000):
  Calls Tryz.prog 143 #[.slice p len cap] w λe w'=>e= .returned (.tuple #[.string (rootV l),errVal (rootE l)])∧Keep NoB w w':=by
 have hmk:=right_any _ l w T hl 32 (by omega)
 by_cases hr:rightB l 32=true
 ·obtain⟨h32,hall⟩:=rightB_true.1 hr
  rw[hr]at hmk
  rw[rootV,rootE,if_pos hr,if_pos hr]
  have hlen:len=32:=by
   obtain⟨p',c',hv⟩:=T.len
   cases hv
   exact h32
  subst hlen
  have Hall:=Lib.hid hall
  have Hl:=Lib.hid h32
  clear hr hall h32 hl
  go_enter Tryz.func143,Tryz.ntmps143
  go_wp2_with (go_at_call 201;refine hmk.mono ?_;rintro e w2 ⟨rfl,hw2⟩;subst w2)
  clear hmk
  go_loopw [0] (λv wr=>∃(i n:Nat) (q:Option Addr) (c:Nat),i<=5∧n=2^(5-i)∧n<=c∧v= .slice q n c∧Strs wr v (ups i l)∧Keep NoB w wr) (λv _=>match v with| .slice _ n _=>n|_=>0)
  case atStart=>exact⟨0,32,p,cap,by omega,by decide,hcap,rfl,T,Keep.refl _ _⟩
  case round=>
   obtain⟨i,n,q,c,hi,hn,hnc,rfl,T2,K⟩:=hrel
   have hul:(ups i l).length=n:=by
    obtain⟨p',c',hv⟩:=T2.len
    cases hv
    rfl
   by_cases h5:i<5
   ·obtain⟨m,hm⟩:∃m,m=2^(5-(i+1)):=⟨_,rfl⟩
    have hnm:n=2*m:=by rw[hn,hm,show 5-i=(5-(i+1))+1 by omega,Nat.pow_succ,Nat.mul_comm]
    have hpos:0<m:=by rw[hm];exact Nat.pow_pos (by omega)
    have hn32:n<=32:=by
     rw[hn]
     have:i=0∨i=1∨i=2∨i=3∨i=4:=by omega
     rcases this with rfl|rfl|rfl|rfl|rfl<;>decide
    have hup:=up_any q n c (ups i l) wr (V.keep K (λx=>x)) T2 hnc m hpos (by rw[hul];exact hnm) (by rw[hul];omega) (ups_all l Hall.out i)
    have j1:(1:Int)<n:=by omega
    have Hm:=Lib.hid hm
    have Hnm:=Lib.hid hnm
    clear hm hnm hn hul
    go_wp2_with (go_at_call 202;refine hup.mono ?_;rintro e w3 ⟨g3,c3,rfl,hc3,hg3,T3,K3⟩)
    exact⟨⟨i+1,m,_,c3,by omega,Hm.out,hc3,rfl,T3,K.thenN K3⟩,by have:=Hnm.out;show m<n;omega⟩
   ·obtain rfl:i=5:=by omega
    obtain rfl:n=1:=by simpa using hn
    obtain⟨b2,o2,rfl,-,_,hc2⟩:=T2.at (by omega)
    have h0:=hc2 0 (by omega)
    rw[Nat.add_zero]at h0
    obtain⟨x,hx⟩:∃x,x=(ups 5 l).getD 0 ⟨#[]⟩:=⟨_,rfl⟩
    rw[<-hx]at h0
    have Hx:=Lib.hid hx
    clear hc2 hul hn hx
    go_wp2_with fail
    rw[<-Hx.out]
    exact bodyPost_ret (v:= .tuple #[.string x,.nilIface]) (by simp[results,Tryz.results143,go_sem]) rfl ⟨rfl,K⟩
 ·rw[Bool.eq_false_iff.2 hr]at hmk
  rw[rootV,rootE,if_neg hr,if_neg hr]
  clear hr T V hcap hl
  go_enter Tryz.func143,Tryz.ntmps143
  go_wp2_with (go_at_call 201;refine hmk.mono ?_;rintro e w2 ⟨rfl,hw2⟩;subst w2)
  exact bodyPost_ret (v:= .tuple #[.string ⟨#[]⟩,errVal 1]) (by simp[results,Tryz.results143,go_sem,errVal]) rfl ⟨rfl,Keep.refl _ _⟩
end Go.Proofs.YtnmhgehpddipdaaGreatDoor
