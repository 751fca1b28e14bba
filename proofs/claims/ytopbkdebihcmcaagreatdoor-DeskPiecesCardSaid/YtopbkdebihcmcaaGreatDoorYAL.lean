import Derived.Test.YtopbkdebihcmcaaGreatDoorYAK
import Derived.Deep.MidRow
set_option linter.unusedSimpArgs false
set_option linter.unusedVariables false
namespace Go.Proofs.YtopbkdebihcmcaaGreatDoor
open Go.RowKit
set_option maxRecDepth 100000
set_option maxHeartbeats 16000000
theorem yx(n:Nat):(qB n).length=8:=ql n 8
def xw(key:List Nat)(id pg:Int)(text:List Nat):List Nat:=(mark 110 [key,qB (uf id),qB (uf pg),text]).take 12
def JJ(key:List Nat)(id:Int)(s:List Nat):List Nat:=mark 103 [key,qB (uf id),s]
def QV(id pg:Int)(text:List Nat):List Nat:=mark 112 [qB (uf id),qB (uf pg),text]
theorem AB(k:Nat)(l:List (List Nat)):(mark k l).length=16:=by rw[mark,bG,yB];rfl
theorem uB(k:Nat)(l:List (List Nat)):Bytes (mark k l):=zX (NF _) _
theorem sJ(n:Nat):Bytes (qB n):=Fh n 8
theorem BK(id pg:Int)(text:af)(ht:text.size<=1000)(w:World)(V:oG w):
  Calls Tryz.prog 93 #[.int .i64 id,.int .i64 pg,.string text] w λe w'=>e= .returned (.string (txt (QV id pg (bs text))))∧Keep nM w w':=by
 obtain⟨A,hA⟩:∃A,A=txt (qB (uf id)):=⟨_,rfl⟩
 obtain⟨B,hB⟩:∃A,A=txt (qB (uf pg)):=⟨_,rfl⟩
 have bA:bs A=qB (uf id):=by rw[hA,qw (sJ _)]
 have bB:bs B=qB (uf pg):=by rw[hB,qw (sJ _)]
 have hl:(pV 112 ([A,B,text].map bs)).length<=100000:=by simp only[bF,dB,bA,bB,pV,dO,jT,ay,aK,bI,yx,bs_len];omega
 have hr:mark 112 ([A,B,text].map bs)=QV id pg (bs text):=by simp only[bF,dB,bA,bB];rfl
 have HA:=Lib.hid hA;have HB:=Lib.hid hB;have Hr:=Lib.hid hr;have Hl:=Lib.hid hl;clear hA hB bA bB hr hl;go_enter Tryz.func93,Tryz.ntmps93;go_wp2_with fail;refine(num_int id _).mono ?_;rw[<-HA.out];rintro e w1 ⟨rfl,K1⟩;go_wp2_with fail;refine(num_int pg _).mono ?_;rw[<-HB.out];rintro e w2 ⟨rfl,K2⟩;have Fj:=K1.nK K2;go_wp2_with fail;refine(xC 112 (by decide) _ [A,B,text] _ (V.keep (Fj.alloc _) (λx=>x)) (Strs.lit (w:=w2) [A,B,text]) Hl.out (by simp)).mono ?_;rw[Hr.out];rintro e w3 ⟨rfl,K3⟩;go_wp2_with fail;go_ret;exact⟨rfl,(Fj.alloc _).nK K3⟩
theorem Xb(key:af)(id:Int)(s:af)(hk:key.size<=1000)(hs:s.size<=1000)(w:World)(V:oG w):
  Calls Tryz.prog 178 #[.string key,.int .i64 id,.string s] w λe w'=>e= .returned (.string (txt (JJ (bs key) id (bs s))))∧Keep nM w w':=by
 obtain⟨A,hA⟩:∃A,A=txt (qB (uf id)):=⟨_,rfl⟩
 have bA:bs A=qB (uf id):=by rw[hA,qw (sJ _)]
 have hl:(pV 103 ([key,A,s].map bs)).length<=100000:=by simp only[bF,dB,bA,pV,dO,jT,ay,aK,bI,yx,bs_len];omega
 have hr:mark 103 ([key,A,s].map bs)=JJ (bs key) id (bs s):=by simp only[bF,dB,bA];rfl
 have HA:=Lib.hid hA;have Hr:=Lib.hid hr;have Hl:=Lib.hid hl;clear hA bA hr hl;go_enter Tryz.func178,Tryz.ntmps178;go_wp2_with fail;refine(num_int id _).mono ?_;rw[<-HA.out];rintro e w1 ⟨rfl,K1⟩;go_wp2_with fail;refine(xC 103 (by decide) _ [key,A,s] _ (V.keep (K1.alloc _) (λx=>x)) (Strs.lit (w:=w1) [key,A,s]) Hl.out (by simp)).mono ?_;rw[Hr.out];rintro e w3 ⟨rfl,K3⟩;go_wp2_with fail;go_ret;exact⟨rfl,(K1.alloc _).nK K3⟩
theorem zed(key:af)(id pg:Int)(text:af)(hk:key.size<=1000)(ht:text.size<=1000)(w:World)(V:oG w):
  Calls Tryz.prog 238 #[.string key,.int .i64 id,.int .i64 pg,.string text] w λe w'=>e= .returned (.string (txt (xw (bs key) id pg (bs text))))∧Keep nM w w':=by
 obtain⟨A,hA⟩:∃A,A=txt (qB (uf id)):=⟨_,rfl⟩
 obtain⟨B,hB⟩:∃A,A=txt (qB (uf pg)):=⟨_,rfl⟩
 have bA:bs A=qB (uf id):=by rw[hA,qw (sJ _)]
 have bB:bs B=qB (uf pg):=by rw[hB,qw (sJ _)]
 have hl:(pV 110 ([key,A,B,text].map bs)).length<=100000:=by simp only[bF,dB,bA,bB,pV,dO,jT,ay,aK,bI,yx,bs_len];omega
 obtain⟨M,hM⟩:∃M,M=txt (mark 110 ([key,A,B,text].map bs)):=⟨_,rfl⟩
 have hMs:M.size=16:=by rw[hM,oU,AB]
 have hMe:M.extract 0 12=txt (xw (bs key) id pg (bs text)):=by apply xy;rw[pY,hM,qw (uB _ _),cO,xw,qw (zX (uB _ _) _)];simp only[bF,dB,bA,bB]
 have hMi:(12:Int)<=M.size:=by omega
 have HA:=Lib.hid hA;have HB:=Lib.hid hB;have HM:=Lib.hid hM;have HMe:=Lib.hid hMe;have Hl:=Lib.hid hl;clear hA hB bA bB hM hMs hMe hl;go_enter Tryz.func238,Tryz.ntmps238;go_wp2_with fail;refine(num_int id _).mono ?_;rw[<-HA.out];rintro e w1 ⟨rfl,K1⟩;go_wp2_with fail;refine(num_int pg _).mono ?_;rw[<-HB.out];rintro e w2 ⟨rfl,K2⟩;have Fj:=K1.nK K2;go_wp2_with fail;refine(xC 110 (by decide) _ [key,A,B,text] _ (V.keep (Fj.alloc _) (λx=>x)) (Strs.lit (w:=w2) [key,A,B,text]) Hl.out (by simp)).mono ?_;rw[<-HM.out];rintro e w3 ⟨rfl,K3⟩;go_wp2_with fail;go_ret;exact⟨dK (λt=>Ending.returned (.string t)) HMe.out,(Fj.alloc _).nK K3⟩
end Go.Proofs.YtopbkdebihcmcaaGreatDoor
