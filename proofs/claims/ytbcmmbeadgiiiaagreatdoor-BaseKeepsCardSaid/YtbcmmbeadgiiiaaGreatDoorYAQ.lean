import Derived.Test.YtbcmmbeadgiiiaaGreatDoorYAO
import Derived.Test.YtbcmmbeadgiiiaaGreatDoorYAP
set_option linter.all false
namespace Go.Proofs.YtbcmmbeadgiiiaaGreatDoor
open Go.RowKit Tryz
set_option maxRecDepth 100000
set_option maxHeartbeats 16000000
variable{d d':Array yl}{a n:Nat}
section
open Go.Sort Go.Shelf
open Go.Proofs (SWK RowK ltOf)
def zeQ(vH cap a m b sz:Nat)(d0 d:Array yl)(w0 w:ax)(R:RowK sD 2 w0 vH 0 d0)(hs:d0.size=d.size)(IQ:sz=d.size)(S:SWK sD 2 w0 vH 0 d w)(ham:a+1<m)(Qe:m+1<b)(hb:b<=d.size)(uF:d.size<=1000000)
  (hA:SortedIn (ltOf uq) a m d) (hB:SortedIn (ltOf uq) m b d)
  (IH:∀(a' m' b':Nat) (d':Array yl) (w':ax) (az mz bz:Int),az=a'->mz=m'->bz=b'->b'-a'<b-a->a'<m'->m'<b'->b'<=sz->sz=d'.size->SortedIn (ltOf uq) a' m' d'->SortedIn (ltOf uq) m' b' d'->SWK sD 2 w0 vH 0 d' w'->
   ae 256 #[.slice (some ⟨vH,0,none⟩) sz cap,.int .i64 az,.int .i64 mz,.int .i64 bz,.func (.func 129) #[] #[]] w' λe w''=>e= .returned (.tuple #[])∧∃d'',(PermIn a' b' d' d''∧SortedIn (ltOf uq) a' b' d'')∧SWK sD 2 w0 vH 0 d'' w''):
  ae 256 #[.slice (some ⟨vH,0,none⟩) sz cap,.int .i64 a,.int .i64 m,.int .i64 b,.func (.func 129) #[] #[]] w λe w'=>e= .returned (.tuple #[])∧∃d',(PermIn a b d d'∧SortedIn (ltOf uq) a b d')∧SWK sD 2 w0 vH 0 d' w':=by
 have S0:=ag S;have HIH:=ag IH;clear S IH;rw[<-IQ]at hs hb uF;have LU:=ag IQ;have HA:=ag hA;have HB:=ag hB;clear IQ hA hB;have r1:IntKind.i64.wrap ((m:Int)-(a:Int))=(m:Int)-(a:Int):=aY _ (by omega);have e1:((m:Int)-(a:Int)==1)=false:=by simp;omega
 have r2:IntKind.i64.wrap ((b:Int)-(m:Int))=(b:Int)-(m:Int):=aY _ (by omega);have e2:((b:Int)-(m:Int)==1)=false:=by simp;omega
 obtain⟨zW,QS⟩:=aj ((a+b)/2);have zAm:((a:Int)+(b:Int))/2=(zW:Int):=by omega
 have rab:IntKind.i64.wrap ((a:Int)+(b:Int))=(a:Int)+(b:Int):=aY _ (by omega);have rmm:IntKind.i64.wrap ((zW:Int)+(m:Int))=(zW:Int)+(m:Int):=aY _ (by omega);have rmb:IntKind.i64.wrap ((zW:Int)+(m:Int)-(b:Int))=(zW:Int)+(m:Int)-(b:Int):=aY _ (by omega);have rm1:IntKind.i64.wrap ((zW:Int)+(m:Int)-1)=(zW:Int)+(m:Int)-1:=aY _ (by omega);have eg:∀args w,(callFunc 129 args).run prog w= .ok (.enter 129 args) w:=enters_of oK (by kernel_rfl) rfl;have mixed:prog.follows .mixedOrders=true:=by kernel_rfl
 have zus:=ag QS;have hma:a<zW:=by omega
 have hmb1:zW<b:=by omega
 have zgb:∃s0 r0:Nat,(((zW:Int)<m∧((s0:Int)=zW+m-b∧r0=zW))∨(¬(zW:Int)<m∧(s0=a∧r0=m)))∧a<=s0∧s0<=r0∧r0<=m∧r0<=zW∧zW+m-s0<=b∧m<=zW+m-r0∧(a<s0->zW+m-s0=b)∧(r0<m->zW+m-r0=m):=by
  by_cases hc:(zW:Int)<m
  ·exact⟨zW+m-b,zW,.inl ⟨hc,by omega,rfl⟩,by omega,by omega,by omega,by omega,by omega,by omega,by omega,by omega⟩
  exact⟨a,m,.inr ⟨hc,rfl,rfl⟩,by omega,by omega,by omega,by omega,by omega,by omega,by omega,by omega⟩
 obtain⟨s0,r0,zu,g1,g2,g3,g4,g5,g6,g7,g8⟩:=zgb;clear QS;go_enter func256,ntmps256;have Hcs:=ag zu;clear zu
 go_upto_if 140 with fail
 go_cut [20,21] (λsv rv wx=>sv= .int .i64 s0∧rv= .int .i64 r0∧wx=w)
 case first=>
  rcases Hcs.o with⟨hc,Vg,hr0⟩|⟨hc,Vg,hr0⟩
  all_goals
   have Hs0:=ag Vg;have Hr0:=ag hr0;clear Vg hr0;go_wp2_with fail;go_meet
   have h1:=Hs0.o;have h2:=Hr0.o;exact⟨by go_num,by go_num,rfl⟩
 case rest=>
  obtain⟨rfl,rfl,rfl⟩:=hcut;go_wp2_with fail;clear r1 e1 r2 e2 rab rmb rm1
  go_loopw [20,21] (λiv jv wr=>∃(i j:Nat),iv= .int .i64 i∧jv= .int .i64 j∧s0<=i∧i<=j∧j<=r0∧Hid (s0<i->ltOf uq d[zW+m-i]! d[i-1]! =false)∧Hid (j<r0->ltOf uq d[zW+m-j-1]! d[j]! =true)∧Hid (SWK sD 2 w0 vH 0 d wr)) (λiv jv _=>(intOf jv).toNat-(intOf iv).toNat)
  ·exact⟨s0,r0,rfl,rfl,by omega,by omega,by omega,ag (λh=>by omega),ag (λh=>by omega),S0⟩
  obtain⟨i,j,rfl,rfl,hai,hij,hjm,hI,hJ,S1⟩:=hrel;have rs:IntKind.i64.wrap ((i:Int)+(j:Int))=(i:Int)+(j:Int):=aY _ (by omega);by_cases rE:i<j
  ·have l1:(i:Int)<(j:Int):=by omega
   obtain⟨h,hh⟩:=aj ((i+j)/2);have eh:((i:Int)+(j:Int))/2=(h:Int):=by omega
   obtain⟨q,hq⟩:=aj (zW+m-1-h);have eq1:(zW:Int)+(m:Int)-1-(h:Int)=(q:Int):=by omega
   have rq:IntKind.i64.wrap (q:Int)=(q:Int):=aY _ (by omega);have bq:(q:Int)<(sz:Int):=by omega
   have bh:(h:Int)<(sz:Int):=by omega
   have rh:IntKind.i64.wrap ((h:Int)+1)=(h:Int)+1:=aY _ (by omega);obtain⟨xn,yn,xb,yb,C,⟨x0,x1,y0,y1⟩,hcm,LY⟩:=zez R (by rw[hs,LU.o]) S1.o q h (by rw[<-LU.o];omega) (by rw[<-LU.o];omega);have Hh:=ag hh;have Hq:=ag hq;have Hcm:=ag hcm;have TK:=ag LY;clear hcm LY hh hq;go_wp2_with fail
   go_quiet_grown (first|(go_at_fn 129;refine Calls.grown_of (Hcm.o _)))
   have S2:=ag (S1.o.grown nq osq);clear x0 x1 y0 y1 Hcm S1;generalize grow (wr.drewN nq) osq=w2 at S2⊢;clear nq osq;have hh:=Hh.o;have hq:=Hq.o;by_cases hC:C<0
   ·have dC:decide (C<0)=true:=by simpa using hC
    rw[dC]at TK;simp only[dC,qi];clear hh hq;go_wp2_with fail;have hh:=Hh.o;have hq:=Hq.o;refine⟨⟨i,h,rfl,by go_num,by omega,by omega,by omega,hI,ag (λ_=>by rw[show zW+m-h-1=q by omega];exact TK.o),S2⟩,by simp[intOf];omega⟩
   have dC:decide (C<0)=false:=by simpa using hC
   rw[dC]at TK;simp only[dC,oL];clear hh hq;go_wp2_with fail;have hh:=Hh.o;have hq:=Hq.o;refine⟨⟨h+1,j,by go_num,rfl,by omega,by omega,by omega,ag (λ_=>by rw[pY,show zW+m-(h+1)=q by omega];exact TK.o),hJ,S2⟩,by simp[intOf];omega⟩
  obtain rfl:i=j:=by omega
  have l1:¬(i:Int)<(i:Int):=by omega
  obtain⟨e,he⟩:=aj (zW+m-i);have ee:(zW:Int)+(m:Int)-(i:Int)=(e:Int):=by omega
  have re:IntKind.i64.wrap (e:Int)=(e:Int):=aY _ (by omega);rw[<-he]at hI hJ;have k1:i<=m:=by omega
  have k2:m<=e:=by omega
  have k3:e<=b:=by omega
  have k4:a<=i:=by omega
  have k5:i<=zW:=by omega
  have k6:zW<=e:=by omega
  have k7:zW=i+(e-m):=by omega
  have lo:a<i->e<b->ltOf uq d[e]! d[i-1]! =false:=λh1 h2=>hI.o (by omega);have hi:i<m->m<e->ltOf uq d[e-1]! d[i]! =true:=λh1 h2=>hJ.o (by omega);have Hlo:=ag lo;have Hhi:=ag hi;have K7:=ag k7;clear lo hi k7 he g1 g2 g3 g4 g5 g6 g7 g8 hai hjm hI hJ Hcs zus zAm rs rE;have c1:((i:Int)<m∧(m:Int)<e)∨¬(i:Int)<m∨((i:Int)<m∧¬(m:Int)<e):=by omega
  have c2:Hid (((a:Int)<i∧(i:Int)<zW)∨¬(a:Int)<i∨((a:Int)<i∧¬(i:Int)<zW)):=ag (by omega);have c3:Hid (((zW:Int)<e∧(e:Int)<b)∨¬(zW:Int)<e∨((zW:Int)<e∧¬(e:Int)<b)):=ag (by omega);have fin:=λ(d1 d2 d3:Array yl) (hd1:Hid (d1.size=sz)) (HM:Hid (Sym (ltOf uq) a i zW e b d1)) (HP1:Hid (PermIn a b d d1)) (HP2:Hid (PermIn a zW d1 d2)) (ziW:Hid (SortedIn (ltOf uq) a zW d2)) (P3:PermIn zW b d2 d3) (S3:SortedIn (ltOf uq) zW b d3)=>(⟨permIn_trans _ _ _ a b HP1.o (Ja (by omega) (by omega) (by rw[hd1.o];exact hb) HP2.o ziW.o P3 S3 HM.o.zks).1,(Ja (by omega) (by omega) (by rw[hd1.o];exact hb) HP2.o ziW.o P3 S3 HM.o.zks).2⟩:PermIn a b d d3∧SortedIn (ltOf uq) a b d3)
  have Fin:=ag fin;clear fin;rcases c1 with⟨t1,t2⟩|t1|⟨t1,t2⟩
  case' inl=>
   go_wp2_with fail;refine(zju vH cap i m e sz d0 d w0 wr _ R (by rw[hs,LU.o]) LU.o S1.o (by omega) (by omega) (by rw[<-LU.o];omega) (by rw[<-LU.o];exact uF)).m ?_;rintro e' wv ⟨rfl,d1,hR,S2⟩;have HM:=ag (Ua Qp HA.o HB.o k4 k1 k2 k3 (by rw[<-LU.o];exact hb) K7.o Hlo.o Hhi.o hR);have HP1:=ag (permIn_mono d d1 i e a b k4 k3 (by rw[<-LU.o];exact hb) hR.perm);have Hd1:Hid (d1.size=sz):=ag (by rw[LU.o];exact hR.perm.1);have HS1:=ag S2;clear S2 hR S1
  case' inr.inl=>
   have HM:=ag (Ua Qp HA.o HB.o k4 k1 k2 k3 (by rw[<-LU.o];exact hb) K7.o Hlo.o Hhi.o (Rot.none k1 k2 (by omega)));have HP1:=ag (permIn_refl d a b);have Hd1:=ag LU.o.s;obtain⟨wv,rfl⟩:=aj wr;obtain⟨d1,hd1⟩:=aj d;have HS1:=S1;rw[<-hd1]at HS1 HM Hd1;clear S1
   replace HP1:Hid (PermIn a b d d1):=ag (by rw[hd1];exact permIn_refl d a b)
   clear hd1
  case' inr.inr=>
   have HM:=ag (Ua Qp HA.o HB.o k4 k1 k2 k3 (by rw[<-LU.o];exact hb) K7.o Hlo.o Hhi.o (Rot.none k1 k2 (by omega)));have Hd1:=ag LU.o.s;obtain⟨wv,rfl⟩:=aj wr;obtain⟨d1,hd1⟩:=aj d;have HS1:=S1;rw[<-hd1]at HS1 HM Hd1;have HP1:Hid (PermIn a b d d1):=ag (by rw[hd1];exact permIn_refl d a b);clear S1 hd1
  all_goals
   rcases c2.o with⟨p1,p2⟩|p1|⟨p1,p2⟩
   all_goals
    first
     | (have q0:a<i∧i<zW:=by omega
        have hc:=HIH.o a i zW d1 wv _ _ _ rfl rfl rfl (by omega) q0.1 q0.2 (by omega) Hd1.o.s HM.o.a1 HM.o.b1 HS1.o;have Hc:=ag hc;clear hc HS1 q0;go_wp2_with fail;refine Hc.o.m ?_;rintro e' wu ⟨rfl,d2,⟨hP,hSo⟩,S2⟩;have Hd2:Hid (d2.size=sz):=ag (by rw[<-Hd1.o];exact hP.1);have HP2:=ag hP;have ziW:=ag hSo;have HS2:=ag S2;clear hP hSo S2 Hc)
     | (have q0:¬(a<i∧i<zW):=by omega
        have ziW:=ag (XF HM.o.a1 HM.o.b1 k4 k5 q0);have HP2:=ag (permIn_refl d1 a zW);have Hd2:=Hd1;have HS2:=HS1;obtain⟨wu,rfl⟩:=aj wv;obtain⟨d2,FK⟩:=aj d1;rw[<-FK]at Hd2 ziW HS2
        replace HP2:Hid (PermIn a zW d1 d2):=ag (by rw[FK];exact permIn_refl d1 a zW)
        clear FK HS1 q0)
   all_goals
    have HA2:Hid (SortedIn (ltOf uq) zW e d2):=ag (HM.o.a2.congr (λp h1 h2=>HP2.o.2.1 p (Or.inr h1)));have HB2:Hid (SortedIn (ltOf uq) e b d2):=ag (HM.o.b2.congr (λp h1 h2=>HP2.o.2.1 p (Or.inr (by omega))));rcases c3.o with⟨q1,q2⟩|q1|⟨q1,q2⟩
    case inl=>
     have hc:=HIH.o zW e b d2 wu _ _ _ rfl rfl rfl (by omega) (by omega) (by omega) hb Hd2.o.s HA2.o HB2.o HS2.o;have Hc:=ag hc;clear hc HS2;go_wp2_with fail
     all_goals
      refine Hc.o.m ?_;rintro e' wt ⟨rfl,d3,⟨hP,hSo⟩,S3⟩;have Hf:=ag (Fin.o d1 d2 d3 Hd1 HM HP1 HP2 ziW hP hSo);have HS3:=ag S3;clear hP hSo S3 Hc;go_wp2_with fail;go_end0;exact⟨rfl,d3,Hf.o,HS3.o⟩
    all_goals
     have Hf:=ag (Fin.o d1 d2 d2 Hd1 HM HP1 HP2 ziW (permIn_refl d2 zW b) (XF HA2.o HB2.o k6 k3 (by omega)));go_wp2_with fail
     all_goals
      go_end0;exact⟨rfl,d2,Hf.o,HS2.o⟩
end
section
open Go.Sort Go.Shelf
open Go.Proofs (SWK RowK ltOf)
def UF(vH cap sz:Nat)(d0:Array yl)(w0:ax)(R:RowK sD 2 w0 vH 0 d0)(hs:d0.size=sz)(uF:sz<=1000000):
  ∀(n a m b:Nat) (d:Array yl) (w:ax) (az mz bz:Int),az=a->mz=m->bz=b->b-a<=n->a<m->m<b->b<=sz->sz=d.size->SortedIn (ltOf uq) a m d->SortedIn (ltOf uq) m b d->SWK sD 2 w0 vH 0 d w->
   ae 256 #[.slice (some ⟨vH,0,none⟩) sz cap,.int .i64 az,.int .i64 mz,.int .i64 bz,.func (.func 129) #[] #[]] w λe w'=>e= .returned (.tuple #[])∧∃d',(PermIn a b d d'∧SortedIn (ltOf uq) a b d')∧SWK sD 2 w0 vH 0 d' w':=by
 intro n
 induction n with
 | zero=>intro a m b d w az mz bz _ _ _ h1 h2 h3;omega
 | succ n ih=>
  intro a m b d w az mz bz h1 h2 h3 hn ham Qe hb IQ hA hB S;subst h1 h2 h3;by_cases c1:m=a+1
  ·exact zhq vH cap a m b sz d0 d w0 w R (by rw[hs,IQ]) IQ S c1 Qe (by omega) (by omega) hB
  by_cases c2:b=m+1
  ·exact zcq vH cap a m b sz d0 d w0 w R (by rw[hs,IQ]) IQ S (by omega) c2 (by omega) (by omega) hA
  exact zeQ vH cap a m b sz d0 d w0 w R (by rw[hs,IQ]) IQ S (by omega) (by omega) (by omega) (by omega) hA hB
   (λa' m' b' d' w' az mz bz e1 e2 e3 rE h1 h2 h3 hd hA' Ry S'=>ih a' m' b' d' w' az mz bz e1 e2 e3 (by omega) h1 h2 h3 hd hA' Ry S')
def zbm(vH cap sz:Nat)(d0:Array yl)(w0:ax)(R:RowK sD 2 w0 vH 0 d0)(hs:d0.size=sz)(uF:sz<=1000000)(a b:Nat)(az bz:Int)(haz:az=a)(Qh:bz=b)(d:Array yl)(w:ax)(hab:a<=b)(hb:b<=sz)(IQ:sz=d.size)(S:SWK sD 2 w0 vH 0 d w):
  ae 255 #[.slice (some ⟨vH,0,none⟩) sz cap,.int .i64 az,.int .i64 bz,.func (.func 129) #[] #[]] w λe w'=>e= .returned (.tuple #[])∧∃d',(PermIn a b d d'∧SortedIn (ltOf uq) a b d')∧SWK sD 2 w0 vH 0 d' w':=by
 subst haz Qh IQ;have eg:∀args w,(callFunc 129 args).run prog w= .ok (.enter 129 args) w:=enters_of oK (by kernel_rfl) rfl;have IJ:=AnyQ.insertionSortCmpFunc insFar 2 isAgg211 sizeOf211 sD Iw zbs uq 129 #[] vH 0 cap a b d w eg (λm os dk JP x y=>zbq x y _) (S.holds R.hblk R.hH hs.s) (S.lt R.hblk) hab hb (by omega)
 change ae 255 _ _ _ at IJ
 refine IJ.m ?_;rintro e w' ⟨rfl,n,os,rfl⟩;have h:=insertionSort_holds Qp d a b hab hb;exact⟨rfl,_,h,S.on R.hblk n _ os h.1.1⟩
def SB(bs n:Nat)(d:Array yl):Prop:=∀p,bs∣p->SortedIn (ltOf uq) p (min (p+bs) n) d
def Xu(bs a:Nat)(d:Array yl):Prop:=∀p,bs∣p->p+bs<=a->SortedIn (ltOf uq) p (p+bs) d
def ZZ(bs a n:Nat)(d:Array yl):Prop:=∀p,bs∣p->a<=p->SortedIn (ltOf uq) p (min (p+bs) n) d
def zeE{bs p:Nat}(h1:bs∣p)(h2:bs∣a)(h3:p<=a)(h4:a<p+bs):p=a:=by have h:=Nat.eq_zero_of_dvd_of_lt (Nat.dvd_sub h2 h1) (show a-p<bs by omega);omega
def Xu.step{bs:Nat}(h:Xu bs a d)(ha:bs∣a)(hbs:0<bs)(P:PermIn a (a+bs) d d')(S:SortedIn (ltOf uq) a (a+bs) d'):Xu bs (a+bs) d':=by
 intro p hp hle;by_cases e:p+bs<=a
 ·exact(h p hp e).congr λi h1 h2=>P.2.1 i (Or.inl (by omega))
 obtain rfl:=zeE hp ha (by omega) (by omega);exact S
def ZZ.step{bs b:Nat}(h:ZZ bs a n d)(hb:a<=b)(P:PermIn a b d d'):ZZ bs b n d':=by intro p hp hle;exact(h p hp (by omega)).congr λi h1 h2=>P.2.1 i (Or.inr (by omega))
def SB.done{bs:Nat}(h:Xu bs a d)(ha:bs∣a)(hbs:0<bs)(han:a<=n)(rE:n<a+bs)(P:PermIn a n d d')(S:SortedIn (ltOf uq) a n d'):SB bs n d':=by
 intro p hp;by_cases e:p+bs<=a
 ·rw[kM (by omega)];exact(h p hp e).congr λi h1 h2=>P.2.1 i (Or.inl (by omega))
 by_cases e2:p<=a
 ·obtain rfl:=zeE hp ha e2 (by omega);rw[nK (by omega)];exact S
 have:a+bs<=p:=by
  by_cases e3:p<a+bs
  ·have:=zeE ha hp (by omega) e3;omega
  ·omega
 intro i j h1 h2 h3;omega
def zjn(vH cap sz:Nat)(d0 d:Array yl)(w0 w:ax)(R:RowK sD 2 w0 vH 0 d0)(hs:d0.size=sz)(IQ:sz=d.size)(uF:sz<=1000000)(S:SWK sD 2 w0 vH 0 d w):
  ae 198 #[.slice (some ⟨vH,0,none⟩) sz cap,.int .i64 sz,.func (.func 129) #[] #[]] w λe w'=>e= .returned (.tuple #[])∧∃d',(PermIn 0 sz d d'∧SortedIn (ltOf uq) 0 sz d')∧SWK sD 2 w0 vH 0 d' w':=by
 have S0:=ag S;have LU:=ag IQ;clear S IQ;have eg:∀args w,(callFunc 129 args).run prog w= .ok (.enter 129 args) w:=enters_of oK (by kernel_rfl) rfl;go_enter func198,ntmps198;go_wp2_with fail
 go_loopw [7,8] (λav bv wr=>∃(a:Nat) (dk:Array yl),av= .int .i64 a∧bv= .int .i64 ((a+20:Nat):Int)∧a<=sz∧Hid (20∣a)∧Hid (sz=dk.size)∧Hid (PermIn 0 sz d dk)∧Hid (Xu 20 a dk)∧Hid (SWK sD 2 w0 vH 0 dk wr)) (λav _ _=>sz-(intOf av).toNat)
 case atStart=>exact⟨0,d,rfl,rfl,by omega,ag (Nat.dvd_zero _),LU,ag (permIn_refl d _ _),ag (λp _ h=>by omega),S0⟩
 case round=>
  obtain⟨a,dk,rfl,rfl,ha,hdv,JP,hP,hL,S1⟩:=hrel;by_cases rE:a+20<=sz
  ·have l1:((a+20:Nat):Int)<=(sz:Int):=by omega
   have hc:=zbm vH cap sz d0 w0 R hs uF a (a+20) _ _ rfl rfl dk wr (by omega) rE JP.o S1.o;obtain⟨b,hb⟩:=aj (a+20);rw[<-hb]at hc l1 rE;rw[<-hb];have rb:IntKind.i64.wrap ((b:Int)+20)=(b:Int)+20:=aY _ (by omega);have Hc:=ag hc;have Hb:=ag hb;clear hc hb S1;go_wp2_with fail;refine Hc.o.m ?_;rintro e w2 ⟨rfl,d2,⟨Lt,QO⟩,S2⟩;have HS2:=ag S2;have hb:=Hb.o;have FK:Hid (sz=d2.size):=ag (by rw[JP.o];exact Lt.1.s);have hPP:Hid (PermIn 0 sz d d2):=ag (permIn_trans _ _ _ 0 sz hP.o (permIn_mono dk d2 a b 0 sz (by omega) rE (by rw[<-JP.o];exact aS _) Lt));have hLL:Hid (Xu 20 b d2):=ag (by rw[hb]at Lt QO⊢;exact hL.o.step hdv.o (by omega) Lt QO);have ztU:Hid (20∣b):=ag (by rw[hb];exact Nat.dvd_add hdv.o (Nat.dvd_refl _));clear S2 Lt QO hb Hc;go_wp2_with fail;have hb:=Hb.o;exact⟨⟨b,d2,rfl,by go_num,rE,ztU,FK,hPP,hLL,HS2⟩,by simp[intOf];omega⟩
  have l1:¬((a+20:Nat):Int)<=(sz:Int):=by omega
  have hc:=zbm vH cap sz d0 w0 R hs uF a sz _ _ rfl rfl dk wr ha (aS _) JP.o S1.o;have Hc:=ag hc;clear hc S1;go_wp2_with fail;refine Hc.o.m ?_;rintro e w2 ⟨rfl,d2,⟨Lt,QO⟩,S2⟩;have HS2:=ag S2;have FK:Hid (sz=d2.size):=ag (by rw[JP.o];exact Lt.1.s);have hPP:Hid (PermIn 0 sz d d2):=ag (permIn_trans _ _ _ 0 sz hP.o (permIn_mono dk d2 a sz 0 sz (by omega) (aS _) (by rw[<-JP.o];exact aS _) Lt));have hSB:Hid (SB 20 sz d2):=ag (SB.done hL.o hdv.o (by omega) ha (by omega) Lt QO);clear S2 Lt QO Hc hL hP JP hdv;go_wp2_with fail;clear ha rE l1
  go_loopw [6] (λbv wr=>∃(bs:Nat) (dk:Array yl),bv= .int .i64 bs∧0<bs∧bs<=4000000∧Hid (sz=dk.size)∧Hid (PermIn 0 sz d dk)∧Hid (SB bs sz dk)∧Hid (SWK sD 2 w0 vH 0 dk wr)) (λbv _=>sz-(intOf bv).toNat)
  ·exact⟨20,d2,rfl,by omega,by omega,FK,hPP,hSB,HS2⟩
  clear FK hPP hSB HS2;obtain⟨bs,dk,rfl,Vd,hb4,JP,hP,hSB,S1⟩:=hrel;by_cases rE:bs<sz
  ·have l1:(bs:Int)<(sz:Int):=by omega
   obtain⟨c,hc⟩:=aj (2*bs);have e2:(2:Int)*(bs:Int)=(c:Int):=by omega
   have e3:(bs:Int)*2=(c:Int):=by omega
   have rc:IntKind.i64.wrap (c:Int)=(c:Int):=aY _ (by omega);have c1:bs<c:=by omega
   have c4:c<=2000000:=by omega
   have Hc:=ag hc;clear hc;go_wp2_with fail
   go_loopw [7,8] (λav bv wr=>∃(a:Nat) (dk:Array yl),av= .int .i64 a∧bv= .int .i64 ((a+c:Nat):Int)∧a<=sz∧Hid (c∣a)∧Hid (sz=dk.size)∧Hid (PermIn 0 sz d dk)∧Hid (Xu c a dk)∧Hid (ZZ bs a sz dk)∧Hid (SWK sD 2 w0 vH 0 dk wr)) (λav _ _=>sz-(intOf av).toNat)
   ·exact⟨0,dk,rfl,by go_num,by omega,ag (Nat.dvd_zero _),JP,hP,ag (λp _ h=>by omega),ag (λp h _=>hSB.o p h),S1⟩
   clear JP hP hSB S1;obtain⟨a,dk,rfl,rfl,ha,hdv,JP,hP,hL,hH,S1⟩:=hrel;have znl:bs∣a:=Nat.dvd_trans (by rw[Hc.o];exact Nat.dvd_mul_left _ _) hdv.o;have hA1:=hH.o a znl (aS _);have OB:=hH.o (a+bs) (Nat.dvd_add znl (Nat.dvd_refl _)) (by omega);obtain⟨b,hb⟩:=aj (a+c);have hbb:a+bs+bs=b:=by have:=Hc.o;omega
   rw[hbb]at OB;rw[<-hb];have rb:IntKind.i64.wrap ((b:Int)+(c:Int))=(b:Int)+(c:Int):=aY _ (by omega);have ra:IntKind.i64.wrap ((a:Int)+(bs:Int))=(a:Int)+(bs:Int):=aY _ (by omega);by_cases rE:b<=sz
   ·have l1:(b:Int)<=(sz:Int):=by omega
    rw[kM (by omega)]at hA1;rw[kM (by omega)]at OB;have IZ:=UF vH cap sz d0 w0 R hs uF (b-a) a (a+bs) b dk wr _ ((a:Int)+(bs:Int)) _ rfl (by omega) rfl (aS _) (by omega) (by omega) rE JP.o hA1 OB S1.o;have ZP:=ag IZ;have Hb:=ag hb;clear IZ hb hA1 OB S1 znl;go_wp2_with fail;refine ZP.o.m ?_;rintro e w2 ⟨rfl,d2,⟨Lt,QO⟩,S2⟩;have HS2:=ag S2;have hb:=Hb.o;have FK:Hid (sz=d2.size):=ag (by rw[JP.o];exact Lt.1.s);have hPP:Hid (PermIn 0 sz d d2):=ag (permIn_trans _ _ _ 0 sz hP.o (permIn_mono dk d2 a b 0 sz (by omega) rE (by rw[<-JP.o];exact aS _) Lt));have hHH:Hid (ZZ bs b sz d2):=ag (hH.o.step (by omega) Lt);have hLL:Hid (Xu c b d2):=ag (by rw[hb]at Lt QO⊢;exact hL.o.step hdv.o (by omega) Lt QO);have ztU:Hid (c∣b):=ag (by rw[hb];exact Nat.dvd_add hdv.o (Nat.dvd_refl _));clear S2 Lt QO hb ZP hbb;go_wp2_with fail;have hb:=Hb.o;exact⟨⟨b,d2,rfl,by go_num,rE,ztU,FK,hPP,hLL,hHH,HS2⟩,by simp[intOf];omega⟩
   have l1:¬(b:Int)<=(sz:Int):=by omega
   by_cases hm:a+bs<sz
   ·have l2:(a:Int)+(bs:Int)<(sz:Int):=by omega
    rw[kM (by omega)]at hA1;rw[nK (by omega)]at OB;have IZ:=UF vH cap sz d0 w0 R hs uF (sz-a) a (a+bs) sz dk wr _ ((a:Int)+(bs:Int)) _ rfl (by omega) rfl (aS _) (by omega) hm (aS _) JP.o hA1 OB S1.o;have ZP:=ag IZ;have Hb:=ag hb;clear IZ hb hA1 OB S1 znl;go_wp2_with fail;refine ZP.o.m ?_;rintro e w2 ⟨rfl,d2,⟨Lt,QO⟩,S2⟩;have HS2:=ag S2;have hb:=Hb.o;have FK:Hid (sz=d2.size):=ag (by rw[JP.o];exact Lt.1.s);have hPP:Hid (PermIn 0 sz d d2):=ag (permIn_trans _ _ _ 0 sz hP.o (permIn_mono dk d2 a sz 0 sz (by omega) (aS _) (by rw[<-JP.o];exact aS _) Lt));have zt3:Hid (SB c sz d2):=ag (SB.done hL.o hdv.o (by omega) ha (by omega) Lt QO);clear S2 Lt QO hb ZP hbb;go_wp2_with fail;exact⟨⟨c,d2,by go_num,by omega,by omega,FK,hPP,zt3,HS2⟩,by simp[intOf];omega⟩
   have l2:¬(a:Int)+(bs:Int)<(sz:Int):=by omega
   rw[nK (by omega)]at hA1;have zt3:Hid (SB c sz dk):=ag (SB.done hL.o hdv.o (by omega) ha (by omega) (permIn_refl dk a sz) hA1);have Hb:=ag hb;clear hb hA1 OB znl hbb;go_wp2_with fail;exact⟨⟨c,dk,by go_num,by omega,by omega,JP,hP,zt3,S1⟩,by simp[intOf];omega⟩
  have l1:¬(bs:Int)<(sz:Int):=by omega
  have hA:=hSB.o 0 (Nat.dvd_zero _);rw[nK (by omega)]at hA;have HA:=ag hA;clear hA;go_wp2_with fail;go_end0;exact⟨rfl,dk,⟨hP.o,HA.o⟩,S1.o⟩
def zbE(vH cap:Nat)(d:Array yl)(w:ax)(uF:d.size<=1000000)(hH:HoldsK sD 2 w vH 0 d)(hblk:vH<w.heap.size):
  ae 128 #[.slice (some ⟨vH,0,none⟩) d.size cap,.func (.func 129) #[] #[]] w λe w'=>e= .returned (.tuple #[])∧∃d',(PermIn 0 d.size d d'∧SortedIn (ltOf uq) 0 d.size d')∧SWK sD 2 w vH 0 d' w':=by
 have h:=zjn vH cap d.size d d w w ⟨Iw,zbs,hH,hblk⟩ rfl rfl uF (SWK.start hH);obtain⟨sz,hs⟩:=aj d.size;rw[<-hs]at h⊢;clear hH hs uF;go_enter func128,ntmps128;go_wp2_with fail;refine h.m ?_;rintro e w' ⟨rfl,d',hd,S⟩;go_wp2_with fail;go_end0;exact⟨rfl,d',hd,S⟩
end
