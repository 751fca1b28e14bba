import Derived.Test.YtopbkdebihcmcaaGreatDoorYAV
import Derived.Deep.CutBlock
import Derived.Deep.DeepCutAuto
set_option linter.unusedSimpArgs false
set_option linter.unusedVariables false
namespace Go.Proofs.YtopbkdebihcmcaaGreatDoor
open Go.RowKit
set_option maxRecDepth 100000
set_option maxHeartbeats 16000000
section
open Go.Sort Go.Shelf
open Go.Proofs (SWK RowK ltOf)
theorem Xw(blk cap a m b sz:Nat)(d0 d:Array uq)(w0 w:World)(R:RowK oW 2 w0 blk 0 d0)(hs:d0.size=d.size)(hds:sz=d.size)(S:SWK oW 2 w0 blk 0 d w)(ham:a+1<m)(hmb:m+1<b)(hb:b<=d.size)(hsz:d.size<=1000000)
  (hA:SortedIn (ltOf qf) a m d) (hB:SortedIn (ltOf qf) m b d)
  (IH:∀(a' m' b':Nat) (d':Array uq) (w':World) (az mz bz:Int),az=a'->mz=m'->bz=b'->b'-a'<b-a->a'<m'->m'<b'->b'<=sz->sz=d'.size->SortedIn (ltOf qf) a' m' d'->SortedIn (ltOf qf) m' b' d'->SWK oW 2 w0 blk 0 d' w'->
   Calls Tryz.prog 241 #[.slice (some ⟨blk,0,none⟩) sz cap,.int .i64 az,.int .i64 mz,.int .i64 bz,.func (.func 159) #[] #[]] w' λe w''=>e= .returned (.tuple #[])∧∃d'',(PermIn a' b' d' d''∧SortedIn (ltOf qf) a' b' d'')∧SWK oW 2 w0 blk 0 d'' w''):
  Calls Tryz.prog 241 #[.slice (some ⟨blk,0,none⟩) sz cap,.int .i64 a,.int .i64 m,.int .i64 b,.func (.func 159) #[] #[]] w λe w'=>e= .returned (.tuple #[])∧∃d',(PermIn a b d d'∧SortedIn (ltOf qf) a b d')∧SWK oW 2 w0 blk 0 d' w':=by
 have S0:=Lib.hid S;have HIH:=Lib.hid IH;clear S IH;rw[<-hds]at hs hb hsz;have Ee:=Lib.hid hds;have HA:=Lib.hid hA;have HB:=Lib.hid hB;clear hds hA hB;have r1:IntKind.i64.wrap ((m:Int)-(a:Int))=(m:Int)-(a:Int):=aW _ (by omega);have e1:((m:Int)-(a:Int)==1)=false:=by simp;omega
 have r2:IntKind.i64.wrap ((b:Int)-(m:Int))=(b:Int)-(m:Int):=aW _ (by omega);have e2:((b:Int)-(m:Int)==1)=false:=by simp;omega
 obtain⟨mid,hmid⟩:∃mid,mid=(a+b)/2:=⟨_,rfl⟩
 have zpk:((a:Int)+(b:Int))/2=(mid:Int):=by omega
 have rab:IntKind.i64.wrap ((a:Int)+(b:Int))=(a:Int)+(b:Int):=aW _ (by omega);have rmm:IntKind.i64.wrap ((mid:Int)+(m:Int))=(mid:Int)+(m:Int):=aW _ (by omega);have rmb:IntKind.i64.wrap ((mid:Int)+(m:Int)-(b:Int))=(mid:Int)+(m:Int)-(b:Int):=aW _ (by omega);have rm1:IntKind.i64.wrap ((mid:Int)+(m:Int)-1)=(mid:Int)+(m:Int)-1:=aW _ (by omega);have eg:∀args w,(callFunc 159 args).run Tryz.prog w= .ok (.enter 159 args) w:=enters_of Tryz.func159 (by kernel_rfl) rfl;have mixed:Tryz.prog.follows .mixedOrders=true:=by kernel_rfl
 have zpH:=Lib.hid hmid;have hma:a<mid:=by omega
 have hmb1:mid<b:=by omega
 have hcase:∃s0 r0:Nat,(((mid:Int)<m∧((s0:Int)=mid+m-b∧r0=mid))∨(¬(mid:Int)<m∧(s0=a∧r0=m)))∧a<=s0∧s0<=r0∧r0<=m∧r0<=mid∧mid+m-s0<=b∧m<=mid+m-r0∧(a<s0->mid+m-s0=b)∧(r0<m->mid+m-r0=m):=by
  by_cases hc:(mid:Int)<m
  ·exact⟨mid+m-b,mid,.inl ⟨hc,by omega,rfl⟩,by omega,by omega,by omega,by omega,by omega,by omega,by omega,by omega⟩
  ·exact⟨a,m,.inr ⟨hc,rfl,rfl⟩,by omega,by omega,by omega,by omega,by omega,by omega,by omega,by omega⟩
 obtain⟨s0,r0,hcs,g1,g2,g3,g4,g5,g6,g7,g8⟩:=hcase;clear hmid;go_enter Tryz.func241,Tryz.ntmps241;have Hcs:=Lib.hid hcs;clear hcs
 go_upto_if 140 with fail
 go_cut [20,21] (λsv rv wx=>sv= .int .i64 s0∧rv= .int .i64 r0∧wx=w)
 case first=>
  rcases Hcs.out with⟨hc,hs0,hr0⟩|⟨hc,hs0,hr0⟩
  all_goals
   have Hs0:=Lib.hid hs0;have Hr0:=Lib.hid hr0;clear hs0 hr0;go_wp2_with fail;go_meet
   case rel=>
    have h1:=Hs0.out;have h2:=Hr0.out;exact⟨by go_num,by go_num,rfl⟩
 case rest=>
  obtain⟨rfl,rfl,rfl⟩:=hcut;go_wp2_with fail;clear r1 e1 r2 e2 rab rmb rm1
  go_loopw [20,21] (λiv jv wr=>∃(i j:Nat),iv= .int .i64 i∧jv= .int .i64 j∧s0<=i∧i<=j∧j<=r0∧Hid (s0<i->ltOf qf d[mid+m-i]! d[i-1]! =false)∧Hid (j<r0->ltOf qf d[mid+m-j-1]! d[j]! =true)∧Hid (SWK oW 2 w0 blk 0 d wr)) (λiv jv _=>(intOf jv).toNat-(intOf iv).toNat)
  case atStart=>exact⟨s0,r0,rfl,rfl,by omega,by omega,by omega,Lib.hid (λh=>by omega),Lib.hid (λh=>by omega),S0⟩
  case round=>
   obtain⟨i,j,rfl,rfl,hai,hij,hjm,hI,hJ,S1⟩:=hrel;have rs:IntKind.i64.wrap ((i:Int)+(j:Int))=(i:Int)+(j:Int):=aW _ (by omega);by_cases hlt:i<j
   ·have l1:(i:Int)<(j:Int):=by omega
    obtain⟨h,hh⟩:∃h,h=(i+j)/2:=⟨_,rfl⟩
    have eh:((i:Int)+(j:Int))/2=(h:Int):=by omega
    obtain⟨q,hq⟩:∃q,q=mid+m-1-h:=⟨_,rfl⟩
    have eq1:(mid:Int)+(m:Int)-1-(h:Int)=(q:Int):=by omega
    have rq:IntKind.i64.wrap (q:Int)=(q:Int):=aW _ (by omega);have bq:(q:Int)<(sz:Int):=by omega
    have bh:(h:Int)<(sz:Int):=by omega
    have rh:IntKind.i64.wrap ((h:Int)+1)=(h:Int)+1:=aW _ (by omega);obtain⟨xn,yn,xb,yb,C,⟨x0,x1,y0,y1⟩,hcm,hlt2⟩:=Xc R (by rw[hs,Ee.out]) S1.out q h (by rw[<-Ee.out];omega) (by rw[<-Ee.out];omega);have Hh:=Lib.hid hh;have Hq:=Lib.hid hq;have Ug:=Lib.hid hcm;have JM:=Lib.hid hlt2;clear hcm hlt2 hh hq;go_wp2_with fail
    go_quiet_grown (first|(go_at_fn 159;refine Calls.grown_of (Ug.out _)))
    have S2:=Lib.hid (S1.out.grown nq osq);clear x0 x1 y0 y1 Ug S1;generalize grow (wr.drewN nq) osq=w2 at S2⊢;clear nq osq;have hh:=Hh.out;have hq:=Hq.out;by_cases hC:C<0
    ·have dC:decide (C<0)=true:=by simpa using hC
     rw[dC]at JM;simp only[dC,ni];clear hh hq;go_wp2_with fail;have hh:=Hh.out;have hq:=Hq.out;refine⟨⟨i,h,rfl,by go_num,by omega,by omega,by omega,hI,Lib.hid (λ_=>by rw[show mid+m-h-1=q by omega];exact JM.out),S2⟩,by simp[intOf];omega⟩
    ·have dC:decide (C<0)=false:=by simpa using hC
     rw[dC]at JM;simp only[dC,lS];clear hh hq;go_wp2_with fail;have hh:=Hh.out;have hq:=Hq.out;refine⟨⟨h+1,j,by go_num,rfl,by omega,by omega,by omega,Lib.hid (λ_=>by rw[mW,show mid+m-(h+1)=q by omega];exact JM.out),hJ,S2⟩,by simp[intOf];omega⟩
   ·obtain rfl:i=j:=by omega
    have l1:¬(i:Int)<(i:Int):=by omega
    obtain⟨e,he⟩:∃e,e=mid+m-i:=⟨_,rfl⟩
    have ee:(mid:Int)+(m:Int)-(i:Int)=(e:Int):=by omega
    have re:IntKind.i64.wrap (e:Int)=(e:Int):=aW _ (by omega);rw[<-he]at hI hJ;have k1:i<=m:=by omega
    have k2:m<=e:=by omega
    have k3:e<=b:=by omega
    have k4:a<=i:=by omega
    have k5:i<=mid:=by omega
    have k6:mid<=e:=by omega
    have k7:mid=i+(e-m):=by omega
    have lo:a<i->e<b->ltOf qf d[e]! d[i-1]! =false:=λh1 h2=>hI.out (by omega);have hi:i<m->m<e->ltOf qf d[e-1]! d[i]! =true:=λh1 h2=>hJ.out (by omega);have Hlo:=Lib.hid lo;have Hhi:=Lib.hid hi;have K7:=Lib.hid k7;clear lo hi k7 he g1 g2 g3 g4 g5 g6 g7 g8 hai hjm hI hJ Hcs zpH zpk rs hlt;have c1:((i:Int)<m∧(m:Int)<e)∨¬(i:Int)<m∨((i:Int)<m∧¬(m:Int)<e):=by omega
    have c2:Hid (((a:Int)<i∧(i:Int)<mid)∨¬(a:Int)<i∨((a:Int)<i∧¬(i:Int)<mid)):=Lib.hid (by omega);have c3:Hid (((mid:Int)<e∧(e:Int)<b)∨¬(mid:Int)<e∨((mid:Int)<e∧¬(e:Int)<b)):=Lib.hid (by omega);have fin:=λ(d1 d2 d3:Array uq) (hd1:Hid (d1.size=sz)) (HM:Hid (Sym (ltOf qf) a i mid e b d1)) (HP1:Hid (PermIn a b d d1)) (HP2:Hid (PermIn a mid d1 d2)) (zaY:Hid (SortedIn (ltOf qf) a mid d2)) (P3:PermIn mid b d2 d3) (S3:SortedIn (ltOf qf) mid b d3)=>(⟨permIn_trans _ _ _ a b HP1.out (Di (by omega) (by omega) (by rw[hd1.out];exact hb) HP2.out zaY.out P3 S3 HM.out.cross).1,(Di (by omega) (by omega) (by rw[hd1.out];exact hb) HP2.out zaY.out P3 S3 HM.out.cross).2⟩:PermIn a b d d3∧SortedIn (ltOf qf) a b d3)
    have Fin:=Lib.hid fin;clear fin;rcases c1 with⟨t1,t2⟩|t1|⟨t1,t2⟩
    case' inl=>
     go_wp2_with fail;refine(zbI blk cap i m e sz d0 d w0 wr _ R (by rw[hs,Ee.out]) Ee.out S1.out (by omega) (by omega) (by rw[<-Ee.out];omega) (by rw[<-Ee.out];exact hsz)).mono ?_;rintro e' wv ⟨rfl,d1,hR,S2⟩;have HM:=Lib.hid (JW Ih HA.out HB.out k4 k1 k2 k3 (by rw[<-Ee.out];exact hb) K7.out Hlo.out Hhi.out hR);have HP1:=Lib.hid (permIn_mono d d1 i e a b k4 k3 (by rw[<-Ee.out];exact hb) hR.perm);have Hd1:Hid (d1.size=sz):=Lib.hid (by rw[Ee.out];exact hR.perm.1);have HS1:=Lib.hid S2;clear S2 hR S1
    case' inr.inl=>
     have HM:=Lib.hid (JW Ih HA.out HB.out k4 k1 k2 k3 (by rw[<-Ee.out];exact hb) K7.out Hlo.out Hhi.out (Rot.none k1 k2 (by omega)));have HP1:=Lib.hid (permIn_refl d a b);have Hd1:=Lib.hid Ee.out.symm;obtain⟨wv,rfl⟩:∃wv,wv=wr:=⟨_,rfl⟩
     obtain⟨d1,hd1⟩:∃d1,d1=d:=⟨_,rfl⟩
     have HS1:=S1;rw[<-hd1]at HS1 HM Hd1;clear S1
     replace HP1:Hid (PermIn a b d d1):=Lib.hid (by rw[hd1];exact permIn_refl d a b)
     clear hd1
    case' inr.inr=>
     have HM:=Lib.hid (JW Ih HA.out HB.out k4 k1 k2 k3 (by rw[<-Ee.out];exact hb) K7.out Hlo.out Hhi.out (Rot.none k1 k2 (by omega)));have Hd1:=Lib.hid Ee.out.symm;obtain⟨wv,rfl⟩:∃wv,wv=wr:=⟨_,rfl⟩
     obtain⟨d1,hd1⟩:∃d1,d1=d:=⟨_,rfl⟩
     have HS1:=S1;rw[<-hd1]at HS1 HM Hd1;have HP1:Hid (PermIn a b d d1):=Lib.hid (by rw[hd1];exact permIn_refl d a b);clear S1 hd1
    all_goals
     rcases c2.out with⟨p1,p2⟩|p1|⟨p1,p2⟩
     all_goals
      first
       | (have q0:a<i∧i<mid:=by omega
          have hc:=HIH.out a i mid d1 wv _ _ _ rfl rfl rfl (by omega) q0.1 q0.2 (by omega) Hd1.out.symm HM.out.a1 HM.out.b1 HS1.out;have Hc:=Lib.hid hc;clear hc HS1 q0;go_wp2_with fail;refine Hc.out.mono ?_;rintro e' wu ⟨rfl,d2,⟨hP,hSo⟩,S2⟩;have Hd2:Hid (d2.size=sz):=Lib.hid (by rw[<-Hd1.out];exact hP.1);have HP2:=Lib.hid hP;have zaY:=Lib.hid hSo;have HS2:=Lib.hid S2;clear hP hSo S2 Hc)
       | (have q0:¬(a<i∧i<mid):=by omega
          have zaY:=Lib.hid (OD HM.out.a1 HM.out.b1 k4 k5 q0);have HP2:=Lib.hid (permIn_refl d1 a mid);have Hd2:=Hd1;have HS2:=HS1;obtain⟨wu,rfl⟩:∃wu,wu=wv:=⟨_,rfl⟩
          obtain⟨d2,hd2⟩:∃d2,d2=d1:=⟨_,rfl⟩
          rw[<-hd2]at Hd2 zaY HS2
          replace HP2:Hid (PermIn a mid d1 d2):=Lib.hid (by rw[hd2];exact permIn_refl d1 a mid)
          clear hd2 HS1 q0)
     all_goals
      have HA2:Hid (SortedIn (ltOf qf) mid e d2):=Lib.hid (HM.out.a2.congr (λp h1 h2=>HP2.out.2.1 p (Or.inr h1)));have HB2:Hid (SortedIn (ltOf qf) e b d2):=Lib.hid (HM.out.b2.congr (λp h1 h2=>HP2.out.2.1 p (Or.inr (by omega))));rcases c3.out with⟨q1,q2⟩|q1|⟨q1,q2⟩
      case inl=>
       have hc:=HIH.out mid e b d2 wu _ _ _ rfl rfl rfl (by omega) (by omega) (by omega) hb Hd2.out.symm HA2.out HB2.out HS2.out;have Hc:=Lib.hid hc;clear hc HS2;go_wp2_with fail
       all_goals
        refine Hc.out.mono ?_;rintro e' wt ⟨rfl,d3,⟨hP,hSo⟩,S3⟩;have Hf:=Lib.hid (Fin.out d1 d2 d3 Hd1 HM HP1 HP2 zaY hP hSo);have HS3:=Lib.hid S3;clear hP hSo S3 Hc;go_wp2_with fail;go_end0;exact⟨rfl,d3,Hf.out,HS3.out⟩
      all_goals
       have Hf:=Lib.hid (Fin.out d1 d2 d2 Hd1 HM HP1 HP2 zaY (permIn_refl d2 mid b) (OD HA2.out HB2.out k6 k3 (by omega)));go_wp2_with fail
       all_goals
        go_end0;exact⟨rfl,d2,Hf.out,HS2.out⟩
end
end Go.Proofs.YtopbkdebihcmcaaGreatDoor
