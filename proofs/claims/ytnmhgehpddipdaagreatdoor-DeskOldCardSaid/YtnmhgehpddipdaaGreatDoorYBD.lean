import Derived.Test.YtnmhgehpddipdaaGreatDoorYAB
import Derived.Test.YtnmhgehpddipdaaGreatDoorYAD
import Derived.Test.YtnmhgehpddipdaaGreatDoorYAV
import Derived.Test.YtnmhgehpddipdaaGreatDoorYAY
import Derived.Test.YtnmhgehpddipdaaGreatDoorYBA
import Derived.Test.YtnmhgehpddipdaaGreatDoorProg
import Derived.BigQuiet
import Derived.Deep.QuietTactic
import Derived.Lib.Hide
import Derived.Shelf.Abstract
import Derived.Shelf.SlSortCmp.KitK
import Derived.Deep.CutBlock
import Derived.Deep.DeepCutAuto
import Derived.RegionTactic
set_option linter.unusedSimpArgs false
set_option linter.unusedVariables false
namespace Go.Proofs.YtnmhgehpddipdaaGreatDoor
open Go.RowKit Go.Cof Go.Sort Go.Shelf
open Go.Proofs (SWK RowK ltOf)
theorem symMerge_any(blk cap sz:Nat)(d0:Array FarV)(w0:World)(R:RowK encFar 2 w0 blk 0 d0)(hs:d0.size=sz)(hsz:sz<=1000000):
  ∀(n a m b:Nat) (d:Array FarV) (w:World) (az mz bz:Int),az=a->mz=m->bz=b->b-a<=n->a<m->m<b->b<=sz->sz=d.size->SortedIn (ltOf cmpFar) a m d->SortedIn (ltOf cmpFar) m b d->SWK encFar 2 w0 blk 0 d w->
   Calls Tryz.prog 222 #[.slice (some ⟨blk,0,none⟩) sz cap,.int .i64 az,.int .i64 mz,.int .i64 bz,.func (.func 94) #[] #[]] w λe w'=>e= .returned (.tuple #[])∧∃d',(PermIn a b d d'∧SortedIn (ltOf cmpFar) a b d')∧SWK encFar 2 w0 blk 0 d' w':=by
 intro n
 induction n with
 | zero=>intro a m b d w az mz bz _ _ _ h1 h2 h3;omega
 | succ n ih=>
  intro a m b d w az mz bz h1 h2 h3 hn ham hmb hb hds hA hB S
  subst h1 h2 h3
  by_cases c1:m=a+1
  ·exact symMerge_up blk cap a m b sz d0 d w0 w R (by rw[hs,hds]) hds S c1 hmb (by omega) (by omega) hB
  ·by_cases c2:b=m+1
   ·exact symMerge_down blk cap a m b sz d0 d w0 w R (by rw[hs,hds]) hds S (by omega) c2 (by omega) (by omega) hA
   ·exact symMerge_mid blk cap a m b sz d0 d w0 w R (by rw[hs,hds]) hds S (by omega) (by omega) (by omega) (by omega) hA hB
     (λa' m' b' d' w' az mz bz e1 e2 e3 hlt h1 h2 h3 hd hA' hB' S'=>ih a' m' b' d' w' az mz bz e1 e2 e3 (by omega) h1 h2 h3 hd hA' hB' S')
theorem insFar_any(blk cap sz:Nat)(d0:Array FarV)(w0:World)(R:RowK encFar 2 w0 blk 0 d0)(hs:d0.size=sz)(hsz:sz<=1000000)(a b:Nat)(az bz:Int)(haz:az=a)(hbz:bz=b)(d:Array FarV)(w:World)(hab:a<=b)(hb:b<=sz)(hds:sz=d.size)(S:SWK encFar 2 w0 blk 0 d w):
  Calls Tryz.prog 221 #[.slice (some ⟨blk,0,none⟩) sz cap,.int .i64 az,.int .i64 bz,.func (.func 94) #[] #[]] w λe w'=>e= .returned (.tuple #[])∧∃d',(PermIn a b d d'∧SortedIn (ltOf cmpFar) a b d')∧SWK encFar 2 w0 blk 0 d' w':=by
 subst haz hbz hds
 have eg:∀args w,(callFunc 94 args).run Tryz.prog w= .ok (.enter 94 args) w:=enters_of Tryz.func94 (by kernel_rfl) rfl
 have hcon:=AnyQ.insertionSortCmpFunc Tryz.insFar 2 Tryz.isAgg168 Tryz.sizeOf168 encFar encFar_len encFar_one cmpFar 94 #[] blk 0 cap a b d w eg (λm os dk hdk x y=>farCmp_any x y _) (S.holds R.hblk R.hH hs.symm) (S.lt R.hblk) hab hb (by omega)
 change Calls Tryz.prog 221 _ _ _ at hcon
 refine hcon.mono ?_
 rintro e w' ⟨rfl,n,os,rfl⟩
 have h:=insertionSort_holds swo_far d a b hab hb
 exact⟨rfl,_,h,S.on R.hblk n _ os h.1.1⟩
def SB(bs n:Nat)(d:Array FarV):Prop:=∀p,bs∣p->SortedIn (ltOf cmpFar) p (min (p+bs) n) d
def SBlow(bs a:Nat)(d:Array FarV):Prop:=∀p,bs∣p->p+bs<=a->SortedIn (ltOf cmpFar) p (p+bs) d
def SBhigh(bs a n:Nat)(d:Array FarV):Prop:=∀p,bs∣p->a<=p->SortedIn (ltOf cmpFar) p (min (p+bs) n) d
theorem dvd_mid{bs a p:Nat}(h1:bs∣p)(h2:bs∣a)(h3:p<=a)(h4:a<p+bs):p=a:=by
 have h:=Nat.eq_zero_of_dvd_of_lt (Nat.dvd_sub h2 h1) (show a-p<bs by omega)
 omega
theorem SBlow.step{bs a:Nat}{d d':Array FarV}(h:SBlow bs a d)(ha:bs∣a)(hbs:0<bs)(P:PermIn a (a+bs) d d')(S:SortedIn (ltOf cmpFar) a (a+bs) d'):SBlow bs (a+bs) d':=by
 intro p hp hle
 by_cases e:p+bs<=a
 ·exact(h p hp e).congr λi h1 h2=>P.2.1 i (Or.inl (by omega))
 ·obtain rfl:=dvd_mid hp ha (by omega) (by omega)
  exact S
theorem SBhigh.step{bs a b n:Nat}{d d':Array FarV}(h:SBhigh bs a n d)(hb:a<=b)(P:PermIn a b d d'):SBhigh bs b n d':=by
 intro p hp hle
 exact(h p hp (by omega)).congr λi h1 h2=>P.2.1 i (Or.inr (by omega))
theorem SB.done{bs a n:Nat}{d d':Array FarV}(h:SBlow bs a d)(ha:bs∣a)(hbs:0<bs)(han:a<=n)(hlt:n<a+bs)(P:PermIn a n d d')(S:SortedIn (ltOf cmpFar) a n d'):SB bs n d':=by
 intro p hp
 by_cases e:p+bs<=a
 ·rw[Nat.min_eq_left (by omega)]
  exact(h p hp e).congr λi h1 h2=>P.2.1 i (Or.inl (by omega))
 ·by_cases e2:p<=a
  ·obtain rfl:=dvd_mid hp ha e2 (by omega)
   rw[Nat.min_eq_right (by omega)]
   exact S
  ·have:a+bs<=p:=by
    by_cases e3:p<a+bs
    ·have:=dvd_mid ha hp (by omega) e3
     omega
    ·omega
   intro i j h1 h2 h3
   omega
set_option maxRecDepth 100000 in
set_option maxHeartbeats 8000000 in
theorem stable_any(blk cap sz:Nat)(d0 d:Array FarV)(w0 w:World)(R:RowK encFar 2 w0 blk 0 d0)(hs:d0.size=sz)(hds:sz=d.size)(hsz:sz<=1000000)(S:SWK encFar 2 w0 blk 0 d w):
  Calls Tryz.prog 164 #[.slice (some ⟨blk,0,none⟩) sz cap,.int .i64 sz,.func (.func 94) #[] #[]] w λe w'=>e= .returned (.tuple #[])∧∃d',(PermIn 0 sz d d'∧SortedIn (ltOf cmpFar) 0 sz d')∧SWK encFar 2 w0 blk 0 d' w':=by
 have S0:=Lib.hid S
 have Hds:=Lib.hid hds
 clear S hds
 have eg:∀args w,(callFunc 94 args).run Tryz.prog w= .ok (.enter 94 args) w:=enters_of Tryz.func94 (by kernel_rfl) rfl
 go_enter Tryz.func164,Tryz.ntmps164
 go_wp2_with fail
 go_loopw [7,8] (λav bv wr=>∃(a:Nat) (dk:Array FarV),av= .int .i64 a∧bv= .int .i64 ((a+20:Nat):Int)∧a<=sz∧Hid (20∣a)∧Hid (sz=dk.size)∧Hid (PermIn 0 sz d dk)∧Hid (SBlow 20 a dk)∧Hid (SWK encFar 2 w0 blk 0 dk wr)) (λav _ _=>sz-(intOf av).toNat)
 case atStart=>exact⟨0,d,rfl,rfl,by omega,Lib.hid (Nat.dvd_zero _),Hds,Lib.hid (permIn_refl d _ _),Lib.hid (λp _ h=>by omega),S0⟩
 case round=>
  obtain⟨a,dk,rfl,rfl,ha,hdv,hdk,hP,hL,S1⟩:=hrel
  by_cases hlt:a+20<=sz
  ·have l1:((a+20:Nat):Int)<=(sz:Int):=by omega
   have hc:=insFar_any blk cap sz d0 w0 R hs hsz a (a+20) _ _ rfl rfl dk wr (by omega) hlt hdk.out S1.out
   obtain⟨b,hb⟩:∃b,b=a+20:=⟨_,rfl⟩
   rw[<-hb]at hc l1 hlt
   rw[<-hb]
   have rb:IntKind.i64.wrap ((b:Int)+20)=(b:Int)+20:=IntWalk.i64_in _ (by omega)
   have Hc:=Lib.hid hc
   have Hb:=Lib.hid hb
   clear hc hb S1
   go_wp2_with fail
   refine Hc.out.mono ?_
   rintro e w2 ⟨rfl,d2,⟨hP2,hS2⟩,S2⟩
   have HS2:=Lib.hid S2
   have hb:=Hb.out
   have hd2:Hid (sz=d2.size):=Lib.hid (by rw[hdk.out];exact hP2.1.symm)
   have hPP:Hid (PermIn 0 sz d d2):=Lib.hid (permIn_trans _ _ _ 0 sz hP.out (permIn_mono dk d2 a b 0 sz (by omega) hlt (by rw[<-hdk.out];exact Nat.le_refl _) hP2))
   have hLL:Hid (SBlow 20 b d2):=Lib.hid (by rw[hb]at hP2 hS2⊢;exact hL.out.step hdv.out (by omega) hP2 hS2)
   have hdv2:Hid (20∣b):=Lib.hid (by rw[hb];exact Nat.dvd_add hdv.out (Nat.dvd_refl _))
   clear S2 hP2 hS2 hb Hc
   go_wp2_with fail
   have hb:=Hb.out
   exact⟨⟨b,d2,rfl,by go_num,hlt,hdv2,hd2,hPP,hLL,HS2⟩,by simp[intOf];omega⟩
  ·have l1:¬((a+20:Nat):Int)<=(sz:Int):=by omega
   have hc:=insFar_any blk cap sz d0 w0 R hs hsz a sz _ _ rfl rfl dk wr ha (Nat.le_refl _) hdk.out S1.out
   have Hc:=Lib.hid hc
   clear hc S1
   go_wp2_with fail
   refine Hc.out.mono ?_
   rintro e w2 ⟨rfl,d2,⟨hP2,hS2⟩,S2⟩
   have HS2:=Lib.hid S2
   have hd2:Hid (sz=d2.size):=Lib.hid (by rw[hdk.out];exact hP2.1.symm)
   have hPP:Hid (PermIn 0 sz d d2):=Lib.hid (permIn_trans _ _ _ 0 sz hP.out (permIn_mono dk d2 a sz 0 sz (by omega) (Nat.le_refl _) (by rw[<-hdk.out];exact Nat.le_refl _) hP2))
   have hSB:Hid (SB 20 sz d2):=Lib.hid (SB.done hL.out hdv.out (by omega) ha (by omega) hP2 hS2)
   clear S2 hP2 hS2 Hc hL hP hdk hdv
   go_wp2_with fail
   clear ha hlt l1
   go_loopw [6] (λbv wr=>∃(bs:Nat) (dk:Array FarV),bv= .int .i64 bs∧0<bs∧bs<=4000000∧Hid (sz=dk.size)∧Hid (PermIn 0 sz d dk)∧Hid (SB bs sz dk)∧Hid (SWK encFar 2 w0 blk 0 dk wr)) (λbv _=>sz-(intOf bv).toNat)
   case atStart=>exact⟨20,d2,rfl,by omega,by omega,hd2,hPP,hSB,HS2⟩
   case round=>
    clear hd2 hPP hSB HS2
    obtain⟨bs,dk,rfl,hb0,hb4,hdk,hP,hSB,S1⟩:=hrel
    by_cases hlt:bs<sz
    ·have l1:(bs:Int)<(sz:Int):=by omega
     obtain⟨c,hc⟩:∃c,c=2*bs:=⟨_,rfl⟩
     have e2:(2:Int)*(bs:Int)=(c:Int):=by omega
     have e3:(bs:Int)*2=(c:Int):=by omega
     have rc:IntKind.i64.wrap (c:Int)=(c:Int):=IntWalk.i64_in _ (by omega)
     have c1:bs<c:=by omega
     have c4:c<=2000000:=by omega
     have Hc:=Lib.hid hc
     clear hc
     go_wp2_with fail
     go_loopw [7,8] (λav bv wr=>∃(a:Nat) (dk:Array FarV),av= .int .i64 a∧bv= .int .i64 ((a+c:Nat):Int)∧a<=sz∧Hid (c∣a)∧Hid (sz=dk.size)∧Hid (PermIn 0 sz d dk)∧Hid (SBlow c a dk)∧Hid (SBhigh bs a sz dk)∧Hid (SWK encFar 2 w0 blk 0 dk wr)) (λav _ _=>sz-(intOf av).toNat)
     case atStart=>exact⟨0,dk,rfl,by go_num,by omega,Lib.hid (Nat.dvd_zero _),hdk,hP,Lib.hid (λp _ h=>by omega),Lib.hid (λp h _=>hSB.out p h),S1⟩
     case round=>
      clear hdk hP hSB S1
      obtain⟨a,dk,rfl,rfl,ha,hdv,hdk,hP,hL,hH,S1⟩:=hrel
      have hdvb:bs∣a:=Nat.dvd_trans (by rw[Hc.out];exact Nat.dvd_mul_left _ _) hdv.out
      have hA1:=hH.out a hdvb (Nat.le_refl _)
      have hA2:=hH.out (a+bs) (Nat.dvd_add hdvb (Nat.dvd_refl _)) (by omega)
      obtain⟨b,hb⟩:∃b,b=a+c:=⟨_,rfl⟩
      have hbb:a+bs+bs=b:=by have:=Hc.out;omega
      rw[hbb]at hA2
      rw[<-hb]
      have rb:IntKind.i64.wrap ((b:Int)+(c:Int))=(b:Int)+(c:Int):=IntWalk.i64_in _ (by omega)
      have ra:IntKind.i64.wrap ((a:Int)+(bs:Int))=(a:Int)+(bs:Int):=IntWalk.i64_in _ (by omega)
      by_cases hlt:b<=sz
      ·have l1:(b:Int)<=(sz:Int):=by omega
       rw[Nat.min_eq_left (by omega)]at hA1
       rw[Nat.min_eq_left (by omega)]at hA2
       have hcall:=symMerge_any blk cap sz d0 w0 R hs hsz (b-a) a (a+bs) b dk wr _ ((a:Int)+(bs:Int)) _ rfl (by omega) rfl (Nat.le_refl _) (by omega) (by omega) hlt hdk.out hA1 hA2 S1.out
       have Hcall:=Lib.hid hcall
       have Hb:=Lib.hid hb
       clear hcall hb hA1 hA2 S1 hdvb
       go_wp2_with fail
       refine Hcall.out.mono ?_
       rintro e w2 ⟨rfl,d2,⟨hP2,hS2⟩,S2⟩
       have HS2:=Lib.hid S2
       have hb:=Hb.out
       have hd2:Hid (sz=d2.size):=Lib.hid (by rw[hdk.out];exact hP2.1.symm)
       have hPP:Hid (PermIn 0 sz d d2):=Lib.hid (permIn_trans _ _ _ 0 sz hP.out (permIn_mono dk d2 a b 0 sz (by omega) hlt (by rw[<-hdk.out];exact Nat.le_refl _) hP2))
       have hHH:Hid (SBhigh bs b sz d2):=Lib.hid (hH.out.step (by omega) hP2)
       have hLL:Hid (SBlow c b d2):=Lib.hid (by rw[hb]at hP2 hS2⊢;exact hL.out.step hdv.out (by omega) hP2 hS2)
       have hdv2:Hid (c∣b):=Lib.hid (by rw[hb];exact Nat.dvd_add hdv.out (Nat.dvd_refl _))
       clear S2 hP2 hS2 hb Hcall hbb
       go_wp2_with fail
       have hb:=Hb.out
       exact⟨⟨b,d2,rfl,by go_num,hlt,hdv2,hd2,hPP,hLL,hHH,HS2⟩,by simp[intOf];omega⟩
      ·have l1:¬(b:Int)<=(sz:Int):=by omega
       by_cases hm:a+bs<sz
       ·have l2:(a:Int)+(bs:Int)<(sz:Int):=by omega
        rw[Nat.min_eq_left (by omega)]at hA1
        rw[Nat.min_eq_right (by omega)]at hA2
        have hcall:=symMerge_any blk cap sz d0 w0 R hs hsz (sz-a) a (a+bs) sz dk wr _ ((a:Int)+(bs:Int)) _ rfl (by omega) rfl (Nat.le_refl _) (by omega) hm (Nat.le_refl _) hdk.out hA1 hA2 S1.out
        have Hcall:=Lib.hid hcall
        have Hb:=Lib.hid hb
        clear hcall hb hA1 hA2 S1 hdvb
        go_wp2_with fail
        refine Hcall.out.mono ?_
        rintro e w2 ⟨rfl,d2,⟨hP2,hS2⟩,S2⟩
        have HS2:=Lib.hid S2
        have hb:=Hb.out
        have hd2:Hid (sz=d2.size):=Lib.hid (by rw[hdk.out];exact hP2.1.symm)
        have hPP:Hid (PermIn 0 sz d d2):=Lib.hid (permIn_trans _ _ _ 0 sz hP.out (permIn_mono dk d2 a sz 0 sz (by omega) (Nat.le_refl _) (by rw[<-hdk.out];exact Nat.le_refl _) hP2))
        have hSB2:Hid (SB c sz d2):=Lib.hid (SB.done hL.out hdv.out (by omega) ha (by omega) hP2 hS2)
        clear S2 hP2 hS2 hb Hcall hbb
        go_wp2_with fail
        exact⟨⟨c,d2,by go_num,by omega,by omega,hd2,hPP,hSB2,HS2⟩,by simp[intOf];omega⟩
       ·have l2:¬(a:Int)+(bs:Int)<(sz:Int):=by omega
        rw[Nat.min_eq_right (by omega)]at hA1
        have hSB2:Hid (SB c sz dk):=Lib.hid (SB.done hL.out hdv.out (by omega) ha (by omega) (permIn_refl dk a sz) hA1)
        have Hb:=Lib.hid hb
        clear hb hA1 hA2 hdvb hbb
        go_wp2_with fail
        exact⟨⟨c,dk,by go_num,by omega,by omega,hdk,hP,hSB2,S1⟩,by simp[intOf];omega⟩
    ·have l1:¬(bs:Int)<(sz:Int):=by omega
     have hA:=hSB.out 0 (Nat.dvd_zero _)
     rw[Nat.min_eq_right (by omega)]at hA
     have HA:=Lib.hid hA
     clear hA
     go_wp2_with fail
     go_end0
     exact⟨rfl,dk,⟨hP.out,HA.out⟩,S1.out⟩
theorem sortStable_any(blk cap:Nat)(d:Array FarV)(w:World)(hsz:d.size<=1000000)(hH:HoldsK encFar 2 w blk 0 d)(hblk:blk<w.heap.size):
  Calls Tryz.prog 93 #[.slice (some ⟨blk,0,none⟩) d.size cap,.func (.func 94) #[] #[]] w λe w'=>e= .returned (.tuple #[])∧∃d',(PermIn 0 d.size d d'∧SortedIn (ltOf cmpFar) 0 d.size d')∧SWK encFar 2 w blk 0 d' w':=by
 have h:=stable_any blk cap d.size d d w w ⟨encFar_len,encFar_one,hH,hblk⟩ rfl rfl hsz (SWK.start hH)
 obtain⟨sz,hs⟩:∃sz,sz=d.size:=⟨_,rfl⟩
 rw[<-hs]at h⊢
 clear hH hs hsz
 go_enter Tryz.func93,Tryz.ntmps93
 go_wp2_with fail
 refine h.mono ?_
 rintro e w' ⟨rfl,d',hd,S⟩
 go_wp2_with fail
 go_end0
 exact⟨rfl,d',hd,S⟩
end Go.Proofs.YtnmhgehpddipdaaGreatDoor
