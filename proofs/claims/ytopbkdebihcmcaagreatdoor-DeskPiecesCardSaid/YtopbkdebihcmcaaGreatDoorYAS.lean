import Derived.Test.YtopbkdebihcmcaaGreatDoorYAM
import Derived.Test.YtopbkdebihcmcaaGreatDoorYAQ
import Derived.Deep.CutBlock
import Derived.Deep.DeepCutAuto
import Derived.Deep.RegionHeld3
set_option linter.unusedSimpArgs false
set_option linter.unusedVariables false
namespace Go.Proofs.YtopbkdebihcmcaaGreatDoor
open Go.RowKit
set_option maxRecDepth 100000
set_option maxHeartbeats 16000000
theorem zbL(s:af)(w:World):ae 220 #[.string s] w λe w'=>e= .returned (.bool (decide (s.size≠16)))∧w'=w:=by go_enter Tryz.func220,Tryz.ntmps220;go_wp2;go_ret;refine⟨dK (λb=>Ending.returned (.bool b)) ?_,rfl⟩;rw[jE];simp;omega
theorem zd1(v:Value)(l:List af)(w:World)(T:Strs w v l)(hl:l.length<=1000000)(m:Nat)(hm:m<=1000):
  ae 180 #[v,.int .i64 m] w λe w'=>e= .returned (.bool (Jj l m))∧w'=w:=by
 have hc:=Oi 220 _ zbL (enters_of Tryz.func220 (by kernel_rfl) rfl) v l w T hl;have hr:Jj l m=(decide (l.length=m)&& !l.any λs=>decide (s.size≠16)):=by rw[jE,AV];simp
 rw[hr];generalize (l.any λs=>decide (s.size≠16))=b at hc⊢;obtain⟨p,c,rfl⟩:=T.len;by_cases hlm:l.length=m
 ·rw[bJ hlm,iK];have j1:((l.length:Nat):Int)=m:=by omega
  subst hlm;clear hr T;go_enter Tryz.func180,Tryz.ntmps180;go_wp2_with (go_at_call 219;refine hc.mono ?_;rintro e w2 ⟨rfl,hw2⟩;subst w2);go_ret
  first|exact⟨rfl,rfl⟩|exact⟨dK (λb=>Ending.returned (.bool b)) (by simp),rfl⟩
 ·rw[bV hlm,iL];have j1:¬((l.length:Nat):Int)=m:=by omega
  clear hr T hc;go_enter Tryz.func180,Tryz.ntmps180;go_wp2_with fail;go_ret;exact⟨rfl,rfl⟩
theorem Lj(p:Option Addr)(len cap:Nat)(l:List af)(w:World)(V:oG w)(T:Strs w (.slice p len cap) l)(hcap:len<=cap)(hl:l.length<=1000000):
  ae 134 #[.slice p len cap] w λe w'=>e= .returned (.tuple #[.string (rV l),errVal (QI l)])∧Keep nM w w':=by
 have hmk:=zd1 _ l w T hl 32 (by omega);by_cases hr:Jj l 32=true
 ·obtain⟨h32,hall⟩:=AV.1 hr;rw[hr]at hmk;rw[rV,QI,aP hr,aP hr];have hlen:len=32:=by
   obtain⟨p',c',hv⟩:=T.len;cases hv;exact h32
  subst hlen;have zaX:=ag hall;have Hl:=ag h32;clear hr hall h32 hl;go_enter Tryz.func134,Tryz.ntmps134;go_wp2_with (go_at_call 180;refine hmk.mono ?_;rintro e w2 ⟨rfl,hw2⟩;subst w2);clear hmk
  go_loopw [0] (λv wr=>∃(i n:Nat) (q:Option Addr) (c:Nat),i<=5∧n=2^(5-i)∧n<=c∧v= .slice q n c∧Strs wr v (ups i l)∧Keep nM w wr) (λv _=>match v with| .slice _ n _=>n|_=>0)
  case atStart=>exact⟨0,32,p,cap,by omega,by decide,hcap,rfl,T,ah _ _⟩
  case round=>
   obtain⟨i,n,q,c,hi,hn,hnc,rfl,T2,K⟩:=hrel;have hul:(ups i l).length=n:=by obtain⟨p',c',hv⟩:=T2.len;cases hv;rfl
   by_cases h5:i<5
   ·obtain⟨m,hm⟩:∃m,m=2^(5-(i+1)):=⟨_,rfl⟩
    have hnm:n=2*m:=by rw[hn,hm,show 5-i=(5-(i+1))+1 by omega,Nat.pow_succ,gG]
    have hpos:0<m:=by rw[hm];exact Nat.pow_pos (by omega)
    have hn32:n<=32:=by
     rw[hn]
     have:i=0∨i=1∨i=2∨i=3∨i=4:=by omega
     rcases this with rfl|rfl|rfl|rfl|rfl<;>decide
    have hup:=zlg q n c (ups i l) wr (V.keep K (λx=>x)) T2 hnc m hpos (by rw[hul];exact hnm) (by rw[hul];omega) (ziz l zaX.out i);have j1:(1:Int)<n:=by omega
    have Hm:=ag hm;have Hnm:=ag hnm;clear hm hnm hn hul;go_wp2_with (go_at_call 181;refine hup.mono ?_;rintro e w3 ⟨g3,c3,rfl,hc3,hg3,T3,K3⟩);exact⟨⟨i+1,m,_,c3,by omega,Hm.out,hc3,rfl,T3,K.nK K3⟩,by have:=Hnm.out;show m<n;omega⟩
   ·obtain rfl:i=5:=by omega
    obtain rfl:n=1:=by simpa using hn
    obtain⟨b2,o2,rfl,-,_,hc2⟩:=T2.at (by omega);have h0:=hc2 0 (by omega);rw[jL]at h0;obtain⟨x,hx⟩:∃x,x=(ups 5 l).getD 0 ⟨#[]⟩:=⟨_,rfl⟩
    rw[<-hx]at h0;have Hx:=ag hx;clear hc2 hul hn hx;go_wp2_with fail;rw[<-Hx.out];exact dW (v:= .tuple #[.string x,.nilIface]) (by simp[results,Tryz.results134,go_sem]) rfl ⟨rfl,K⟩
 ·rw[Bool.eq_false_iff.2 hr]at hmk;rw[rV,QI,aB hr,aB hr];clear hr T V hcap hl;go_enter Tryz.func134,Tryz.ntmps134;go_wp2_with (go_at_call 180;refine hmk.mono ?_;rintro e w2 ⟨rfl,hw2⟩;subst w2);exact dW (v:= .tuple #[.string ⟨#[]⟩,errVal 1]) (by simp[results,Tryz.results134,go_sem,errVal]) rfl ⟨rfl,ah _ _⟩
end Go.Proofs.YtopbkdebihcmcaaGreatDoor
