import Derived.Test.YtopbkdebihcmcaaGreatDoorYAX
import Derived.Test.YtopbkdebihcmcaaGreatDoorYAZ
set_option linter.unusedSimpArgs false
set_option linter.unusedVariables false
namespace Go.Proofs.YtopbkdebihcmcaaGreatDoor
open Go.RowKit
set_option maxRecDepth 100000
set_option maxHeartbeats 16000000
section
open Go.Sort Go.Shelf
open Go.Proofs (SWK RowK ltOf)
theorem Ll(blk cap sz:Nat)(d0:Array uq)(w0:World)(R:RowK oW 2 w0 blk 0 d0)(hs:d0.size=sz)(hsz:sz<=1000000):
  ∀(n a m b:Nat) (d:Array uq) (w:World) (az mz bz:Int),az=a->mz=m->bz=b->b-a<=n->a<m->m<b->b<=sz->sz=d.size->SortedIn (ltOf qf) a m d->SortedIn (ltOf qf) m b d->SWK oW 2 w0 blk 0 d w->
   Calls Tryz.prog 241 #[.slice (some ⟨blk,0,none⟩) sz cap,.int .i64 az,.int .i64 mz,.int .i64 bz,.func (.func 159) #[] #[]] w λe w'=>e= .returned (.tuple #[])∧∃d',(PermIn a b d d'∧SortedIn (ltOf qf) a b d')∧SWK oW 2 w0 blk 0 d' w':=by
 intro n
 induction n with
 | zero=>intro a m b d w az mz bz _ _ _ h1 h2 h3;omega
 | succ n ih=>
  intro a m b d w az mz bz h1 h2 h3 hn ham hmb hb hds hA hB S;subst h1 h2 h3;by_cases c1:m=a+1
  ·exact ZK blk cap a m b sz d0 d w0 w R (by rw[hs,hds]) hds S c1 hmb (by omega) (by omega) hB
  ·by_cases c2:b=m+1
   ·exact UE blk cap a m b sz d0 d w0 w R (by rw[hs,hds]) hds S (by omega) c2 (by omega) (by omega) hA
   ·exact Xw blk cap a m b sz d0 d w0 w R (by rw[hs,hds]) hds S (by omega) (by omega) (by omega) (by omega) hA hB
     (λa' m' b' d' w' az mz bz e1 e2 e3 hlt h1 h2 h3 hd hA' hB' S'=>ih a' m' b' d' w' az mz bz e1 e2 e3 (by omega) h1 h2 h3 hd hA' hB' S')
theorem Ti(blk cap sz:Nat)(d0:Array uq)(w0:World)(R:RowK oW 2 w0 blk 0 d0)(hs:d0.size=sz)(hsz:sz<=1000000)(a b:Nat)(az bz:Int)(haz:az=a)(hbz:bz=b)(d:Array uq)(w:World)(hab:a<=b)(hb:b<=sz)(hds:sz=d.size)(S:SWK oW 2 w0 blk 0 d w):
  Calls Tryz.prog 240 #[.slice (some ⟨blk,0,none⟩) sz cap,.int .i64 az,.int .i64 bz,.func (.func 159) #[] #[]] w λe w'=>e= .returned (.tuple #[])∧∃d',(PermIn a b d d'∧SortedIn (ltOf qf) a b d')∧SWK oW 2 w0 blk 0 d' w':=by
 subst haz hbz hds;have eg:∀args w,(callFunc 159 args).run Tryz.prog w= .ok (.enter 159 args) w:=enters_of Tryz.func159 (by kernel_rfl) rfl;have hcon:=AnyQ.insertionSortCmpFunc Tryz.insFar 2 Tryz.isAgg220 Tryz.sizeOf220 oW CQ Tz qf 159 #[] blk 0 cap a b d w eg (λm os dk hdk x y=>Tv x y _) (S.holds R.hblk R.hH hs.symm) (S.lt R.hblk) hab hb (by omega)
 change Calls Tryz.prog 240 _ _ _ at hcon
 refine hcon.mono ?_;rintro e w' ⟨rfl,n,os,rfl⟩;have h:=insertionSort_holds Ih d a b hab hb;exact⟨rfl,_,h,S.on R.hblk n _ os h.1.1⟩
def SB(bs n:Nat)(d:Array uq):Prop:=∀p,bs∣p->SortedIn (ltOf qf) p (min (p+bs) n) d
def Ou(bs a:Nat)(d:Array uq):Prop:=∀p,bs∣p->p+bs<=a->SortedIn (ltOf qf) p (p+bs) d
def QZ(bs a n:Nat)(d:Array uq):Prop:=∀p,bs∣p->a<=p->SortedIn (ltOf qf) p (min (p+bs) n) d
theorem Xl{bs a p:Nat}(h1:bs∣p)(h2:bs∣a)(h3:p<=a)(h4:a<p+bs):p=a:=by have h:=Nat.eq_zero_of_dvd_of_lt (Nat.dvd_sub h2 h1) (show a-p<bs by omega);omega
theorem Ou.step{bs a:Nat}{d d':Array uq}(h:Ou bs a d)(ha:bs∣a)(hbs:0<bs)(P:PermIn a (a+bs) d d')(S:SortedIn (ltOf qf) a (a+bs) d'):Ou bs (a+bs) d':=by
 intro p hp hle;by_cases e:p+bs<=a
 ·exact(h p hp e).congr λi h1 h2=>P.2.1 i (Or.inl (by omega))
 ·obtain rfl:=Xl hp ha (by omega) (by omega);exact S
theorem QZ.step{bs a b n:Nat}{d d':Array uq}(h:QZ bs a n d)(hb:a<=b)(P:PermIn a b d d'):QZ bs b n d':=by intro p hp hle;exact(h p hp (by omega)).congr λi h1 h2=>P.2.1 i (Or.inr (by omega))
theorem SB.done{bs a n:Nat}{d d':Array uq}(h:Ou bs a d)(ha:bs∣a)(hbs:0<bs)(han:a<=n)(hlt:n<a+bs)(P:PermIn a n d d')(S:SortedIn (ltOf qf) a n d'):SB bs n d':=by
 intro p hp;by_cases e:p+bs<=a
 ·rw[ji (by omega)];exact(h p hp e).congr λi h1 h2=>P.2.1 i (Or.inl (by omega))
 ·by_cases e2:p<=a
  ·obtain rfl:=Xl hp ha e2 (by omega);rw[kP (by omega)];exact S
  ·have:a+bs<=p:=by
    by_cases e3:p<a+bs
    ·have:=Xl ha hp (by omega) e3;omega
    ·omega
   intro i j h1 h2 h3;omega
theorem zbt(blk cap sz:Nat)(d0 d:Array uq)(w0 w:World)(R:RowK oW 2 w0 blk 0 d0)(hs:d0.size=sz)(hds:sz=d.size)(hsz:sz<=1000000)(S:SWK oW 2 w0 blk 0 d w):
  Calls Tryz.prog 201 #[.slice (some ⟨blk,0,none⟩) sz cap,.int .i64 sz,.func (.func 159) #[] #[]] w λe w'=>e= .returned (.tuple #[])∧∃d',(PermIn 0 sz d d'∧SortedIn (ltOf qf) 0 sz d')∧SWK oW 2 w0 blk 0 d' w':=by
 have S0:=Lib.hid S;have Ee:=Lib.hid hds;clear S hds;have eg:∀args w,(callFunc 159 args).run Tryz.prog w= .ok (.enter 159 args) w:=enters_of Tryz.func159 (by kernel_rfl) rfl;go_enter Tryz.func201,Tryz.ntmps201;go_wp2_with fail
 go_loopw [7,8] (λav bv wr=>∃(a:Nat) (dk:Array uq),av= .int .i64 a∧bv= .int .i64 ((a+20:Nat):Int)∧a<=sz∧Hid (20∣a)∧Hid (sz=dk.size)∧Hid (PermIn 0 sz d dk)∧Hid (Ou 20 a dk)∧Hid (SWK oW 2 w0 blk 0 dk wr)) (λav _ _=>sz-(intOf av).toNat)
 case atStart=>exact⟨0,d,rfl,rfl,by omega,Lib.hid (Nat.dvd_zero _),Ee,Lib.hid (permIn_refl d _ _),Lib.hid (λp _ h=>by omega),S0⟩
 case round=>
  obtain⟨a,dk,rfl,rfl,ha,hdv,hdk,hP,hL,S1⟩:=hrel;by_cases hlt:a+20<=sz
  ·have l1:((a+20:Nat):Int)<=(sz:Int):=by omega
   have hc:=Ti blk cap sz d0 w0 R hs hsz a (a+20) _ _ rfl rfl dk wr (by omega) hlt hdk.out S1.out;obtain⟨b,hb⟩:∃b,b=a+20:=⟨_,rfl⟩
   rw[<-hb]at hc l1 hlt;rw[<-hb];have rb:IntKind.i64.wrap ((b:Int)+20)=(b:Int)+20:=aW _ (by omega);have Hc:=Lib.hid hc;have Hb:=Lib.hid hb;clear hc hb S1;go_wp2_with fail;refine Hc.out.mono ?_;rintro e w2 ⟨rfl,d2,⟨hP2,hS2⟩,S2⟩;have HS2:=Lib.hid S2;have hb:=Hb.out;have hd2:Hid (sz=d2.size):=Lib.hid (by rw[hdk.out];exact hP2.1.symm);have hPP:Hid (PermIn 0 sz d d2):=Lib.hid (permIn_trans _ _ _ 0 sz hP.out (permIn_mono dk d2 a b 0 sz (by omega) hlt (by rw[<-hdk.out];exact aF _) hP2));have hLL:Hid (Ou 20 b d2):=Lib.hid (by rw[hb]at hP2 hS2⊢;exact hL.out.step hdv.out (by omega) hP2 hS2);have zkP:Hid (20∣b):=Lib.hid (by rw[hb];exact Nat.dvd_add hdv.out (Nat.dvd_refl _));clear S2 hP2 hS2 hb Hc;go_wp2_with fail;have hb:=Hb.out;exact⟨⟨b,d2,rfl,by go_num,hlt,zkP,hd2,hPP,hLL,HS2⟩,by simp[intOf];omega⟩
  ·have l1:¬((a+20:Nat):Int)<=(sz:Int):=by omega
   have hc:=Ti blk cap sz d0 w0 R hs hsz a sz _ _ rfl rfl dk wr ha (aF _) hdk.out S1.out;have Hc:=Lib.hid hc;clear hc S1;go_wp2_with fail;refine Hc.out.mono ?_;rintro e w2 ⟨rfl,d2,⟨hP2,hS2⟩,S2⟩;have HS2:=Lib.hid S2;have hd2:Hid (sz=d2.size):=Lib.hid (by rw[hdk.out];exact hP2.1.symm);have hPP:Hid (PermIn 0 sz d d2):=Lib.hid (permIn_trans _ _ _ 0 sz hP.out (permIn_mono dk d2 a sz 0 sz (by omega) (aF _) (by rw[<-hdk.out];exact aF _) hP2));have hSB:Hid (SB 20 sz d2):=Lib.hid (SB.done hL.out hdv.out (by omega) ha (by omega) hP2 hS2);clear S2 hP2 hS2 Hc hL hP hdk hdv;go_wp2_with fail;clear ha hlt l1
   go_loopw [6] (λbv wr=>∃(bs:Nat) (dk:Array uq),bv= .int .i64 bs∧0<bs∧bs<=4000000∧Hid (sz=dk.size)∧Hid (PermIn 0 sz d dk)∧Hid (SB bs sz dk)∧Hid (SWK oW 2 w0 blk 0 dk wr)) (λbv _=>sz-(intOf bv).toNat)
   case atStart=>exact⟨20,d2,rfl,by omega,by omega,hd2,hPP,hSB,HS2⟩
   case round=>
    clear hd2 hPP hSB HS2;obtain⟨bs,dk,rfl,hb0,hb4,hdk,hP,hSB,S1⟩:=hrel;by_cases hlt:bs<sz
    ·have l1:(bs:Int)<(sz:Int):=by omega
     obtain⟨c,hc⟩:∃c,c=2*bs:=⟨_,rfl⟩
     have e2:(2:Int)*(bs:Int)=(c:Int):=by omega
     have e3:(bs:Int)*2=(c:Int):=by omega
     have rc:IntKind.i64.wrap (c:Int)=(c:Int):=aW _ (by omega);have c1:bs<c:=by omega
     have c4:c<=2000000:=by omega
     have Hc:=Lib.hid hc;clear hc;go_wp2_with fail
     go_loopw [7,8] (λav bv wr=>∃(a:Nat) (dk:Array uq),av= .int .i64 a∧bv= .int .i64 ((a+c:Nat):Int)∧a<=sz∧Hid (c∣a)∧Hid (sz=dk.size)∧Hid (PermIn 0 sz d dk)∧Hid (Ou c a dk)∧Hid (QZ bs a sz dk)∧Hid (SWK oW 2 w0 blk 0 dk wr)) (λav _ _=>sz-(intOf av).toNat)
     case atStart=>exact⟨0,dk,rfl,by go_num,by omega,Lib.hid (Nat.dvd_zero _),hdk,hP,Lib.hid (λp _ h=>by omega),Lib.hid (λp h _=>hSB.out p h),S1⟩
     case round=>
      clear hdk hP hSB S1;obtain⟨a,dk,rfl,rfl,ha,hdv,hdk,hP,hL,hH,S1⟩:=hrel;have zft:bs∣a:=Nat.dvd_trans (by rw[Hc.out];exact Nat.dvd_mul_left _ _) hdv.out;have hA1:=hH.out a zft (aF _);have hA2:=hH.out (a+bs) (Nat.dvd_add zft (Nat.dvd_refl _)) (by omega);obtain⟨b,hb⟩:∃b,b=a+c:=⟨_,rfl⟩
      have hbb:a+bs+bs=b:=by have:=Hc.out;omega
      rw[hbb]at hA2;rw[<-hb];have rb:IntKind.i64.wrap ((b:Int)+(c:Int))=(b:Int)+(c:Int):=aW _ (by omega);have ra:IntKind.i64.wrap ((a:Int)+(bs:Int))=(a:Int)+(bs:Int):=aW _ (by omega);by_cases hlt:b<=sz
      ·have l1:(b:Int)<=(sz:Int):=by omega
       rw[ji (by omega)]at hA1;rw[ji (by omega)]at hA2;have hcall:=Ll blk cap sz d0 w0 R hs hsz (b-a) a (a+bs) b dk wr _ ((a:Int)+(bs:Int)) _ rfl (by omega) rfl (aF _) (by omega) (by omega) hlt hdk.out hA1 hA2 S1.out;have QR:=Lib.hid hcall;have Hb:=Lib.hid hb;clear hcall hb hA1 hA2 S1 zft;go_wp2_with fail;refine QR.out.mono ?_;rintro e w2 ⟨rfl,d2,⟨hP2,hS2⟩,S2⟩;have HS2:=Lib.hid S2;have hb:=Hb.out;have hd2:Hid (sz=d2.size):=Lib.hid (by rw[hdk.out];exact hP2.1.symm);have hPP:Hid (PermIn 0 sz d d2):=Lib.hid (permIn_trans _ _ _ 0 sz hP.out (permIn_mono dk d2 a b 0 sz (by omega) hlt (by rw[<-hdk.out];exact aF _) hP2));have hHH:Hid (QZ bs b sz d2):=Lib.hid (hH.out.step (by omega) hP2);have hLL:Hid (Ou c b d2):=Lib.hid (by rw[hb]at hP2 hS2⊢;exact hL.out.step hdv.out (by omega) hP2 hS2);have zkP:Hid (c∣b):=Lib.hid (by rw[hb];exact Nat.dvd_add hdv.out (Nat.dvd_refl _));clear S2 hP2 hS2 hb QR hbb;go_wp2_with fail;have hb:=Hb.out;exact⟨⟨b,d2,rfl,by go_num,hlt,zkP,hd2,hPP,hLL,hHH,HS2⟩,by simp[intOf];omega⟩
      ·have l1:¬(b:Int)<=(sz:Int):=by omega
       by_cases hm:a+bs<sz
       ·have l2:(a:Int)+(bs:Int)<(sz:Int):=by omega
        rw[ji (by omega)]at hA1;rw[kP (by omega)]at hA2;have hcall:=Ll blk cap sz d0 w0 R hs hsz (sz-a) a (a+bs) sz dk wr _ ((a:Int)+(bs:Int)) _ rfl (by omega) rfl (aF _) (by omega) hm (aF _) hdk.out hA1 hA2 S1.out;have QR:=Lib.hid hcall;have Hb:=Lib.hid hb;clear hcall hb hA1 hA2 S1 zft;go_wp2_with fail;refine QR.out.mono ?_;rintro e w2 ⟨rfl,d2,⟨hP2,hS2⟩,S2⟩;have HS2:=Lib.hid S2;have hb:=Hb.out;have hd2:Hid (sz=d2.size):=Lib.hid (by rw[hdk.out];exact hP2.1.symm);have hPP:Hid (PermIn 0 sz d d2):=Lib.hid (permIn_trans _ _ _ 0 sz hP.out (permIn_mono dk d2 a sz 0 sz (by omega) (aF _) (by rw[<-hdk.out];exact aF _) hP2));have zkX:Hid (SB c sz d2):=Lib.hid (SB.done hL.out hdv.out (by omega) ha (by omega) hP2 hS2);clear S2 hP2 hS2 hb QR hbb;go_wp2_with fail;exact⟨⟨c,d2,by go_num,by omega,by omega,hd2,hPP,zkX,HS2⟩,by simp[intOf];omega⟩
       ·have l2:¬(a:Int)+(bs:Int)<(sz:Int):=by omega
        rw[kP (by omega)]at hA1;have zkX:Hid (SB c sz dk):=Lib.hid (SB.done hL.out hdv.out (by omega) ha (by omega) (permIn_refl dk a sz) hA1);have Hb:=Lib.hid hb;clear hb hA1 hA2 zft hbb;go_wp2_with fail;exact⟨⟨c,dk,by go_num,by omega,by omega,hdk,hP,zkX,S1⟩,by simp[intOf];omega⟩
    ·have l1:¬(bs:Int)<(sz:Int):=by omega
     have hA:=hSB.out 0 (Nat.dvd_zero _);rw[kP (by omega)]at hA;have HA:=Lib.hid hA;clear hA;go_wp2_with fail;go_end0;exact⟨rfl,dk,⟨hP.out,HA.out⟩,S1.out⟩
theorem TQ(blk cap:Nat)(d:Array uq)(w:World)(hsz:d.size<=1000000)(hH:HoldsK oW 2 w blk 0 d)(hblk:blk<w.heap.size):
  Calls Tryz.prog 158 #[.slice (some ⟨blk,0,none⟩) d.size cap,.func (.func 159) #[] #[]] w λe w'=>e= .returned (.tuple #[])∧∃d',(PermIn 0 d.size d d'∧SortedIn (ltOf qf) 0 d.size d')∧SWK oW 2 w blk 0 d' w':=by
 have h:=zbt blk cap d.size d d w w ⟨CQ,Tz,hH,hblk⟩ rfl rfl hsz (SWK.start hH);obtain⟨sz,hs⟩:∃sz,sz=d.size:=⟨_,rfl⟩
 rw[<-hs]at h⊢;clear hH hs hsz;go_enter Tryz.func158,Tryz.ntmps158;go_wp2_with fail;refine h.mono ?_;rintro e w' ⟨rfl,d',hd,S⟩;go_wp2_with fail;go_end0;exact⟨rfl,d',hd,S⟩
end
end Go.Proofs.YtopbkdebihcmcaaGreatDoor
