import Derived.Test.YtopbkdebihcmcaaGreatDoorYAB
import Derived.Test.YtopbkdebihcmcaaGreatDoorYAD
import Derived.Test.YtopbkdebihcmcaaGreatDoorProg
import Derived.Lib.Hide
import Derived.WalkLawsBesides
import Derived.Shelf.SlSortCmp.NoneTotal
set_option linter.unusedSimpArgs false
set_option linter.unusedVariables false
namespace Go.Proofs.YtopbkdebihcmcaaGreatDoor
open Go.RowKit
set_option maxRecDepth 100000
set_option maxHeartbeats 16000000
section
open Go.Sort Go.Shelf
open Go.Proofs (ltOf)
def Gr(w w':World):Prop:=∃q os,w'=Sort.grow (w.drewN q) os
theorem Gr.refl(w:World):Gr w w:=⟨0,#[],by simp[World.drewN]⟩
theorem Gr.alloc{w w':World}(h:Gr w w')(o:Obj):Gr w (w'.alloc o):=by obtain⟨q,os,rfl⟩:=h;exact⟨q,os++ #[o],by rw[Sort.alloc_eq_grow,Sort.grow_grow]⟩
theorem Gr.drewN{w w':World}(h:Gr w w')(n:Nat):Gr w (w'.drewN n):=by obtain⟨q,os,rfl⟩:=h;refine⟨q+n,os,?_⟩;rw[<-World.drewN_drewN];rfl
theorem Gr.keep{w w':World}(h:Gr w w'):Keep nM w w':=by obtain⟨q,os,rfl⟩:=h;refine⟨rfl,rfl,rfl,by simp[Sort.grow,World.drewN],λk hk _=> ?_⟩;show(w.heap++os)[k]? =w.heap[k]?;rw[Array.getElem?_append_left hk]
def Jg(x y:Int):Int:=if x<y then-1 else if y<x then 1 else 0
def Yp(x y:af):Int:=if Op.bytesLess x.toList y.toList=true then-1 else if x=y then 0 else 1
abbrev rU:=af×Int
def yh(x y:rU):Int:=if Jg x.2 y.2≠0 then Jg x.2 y.2 else Yp x.1 y.1
def yG(x:rU):List Value:= [.string x.1,.int .i64 x.2]
theorem Zz(x y:Int):Jg x y<0↔x<y:=by
 unfold Jg;split
 ·simp;omega
 ·split<;>simp<;>omega
theorem Wi(x y:Int):Jg x y=0↔x=y:=by
 unfold Jg;split
 ·simp;omega
 ·split<;>simp<;>omega
theorem Qn:∀(x y:List UInt8),Op.bytesLess x y=decide (x<y)
 | [],[]=>by simp[Op.bytesLess]
 | _::_,[]=>by simp[Op.bytesLess]
 | [],_::_=>by simp[Op.bytesLess]
 | a::x,b::y=>by
  rw[Op.bytesLess,Qn x y,jE];simp only[List.cons_lt_cons_iff];by_cases h:a<b
  ·simp[h]
  ·by_cases h2:a=b
   ·subst h2;simp
   ·simp[h,h2]
theorem zhK(x y:af):Yp x y<0↔x.toList<y.toList:=by
 unfold Yp;rw[Qn];split
 ·rename_i h
  simpa using h
 ·rename_i h;have h':¬x.toList<y.toList:=by simpa using h
  split<;>simp[h']
theorem toList_inj{a b:af}(h:a.toList=b.toList):a=b:=xy (by rw[bs,bs,<-bQ,<-bQ,h])
def ltF(x y:rU):Prop:=x.2<y.2∨x.2=y.2∧x.1.toList<y.1.toList
theorem zhL(x y:rU):yh x y<0↔ltF x y:=by
 unfold yh ltF;by_cases h:Jg x.2 y.2=0
 ·rw[aB (λe=>e h),zhK];have:=(Wi _ _).1 h;constructor
  ·exact λh=> .inr ⟨this,h⟩
  ·rintro(h|h)
   ·omega
   ·exact h.2
 ·rw[aP h,Zz];constructor
  ·exact .inl
  ·rintro(h'|h')
   ·exact h'
   ·exact absurd ((Wi _ _).2 h'.1) h
theorem VQ(x y:rU):ltOf yh x y=true↔ltF x y:=by unfold ltOf;rw[aS];exact zhL x y
theorem wL(x y:rU):ltOf yh x y=false↔¬ltF x y:=by rw[<-VQ];simp
theorem zbp(x:List UInt8):¬x<x:=by simp
theorem Vu{x y z:List UInt8}(h1:x<y)(h2:y<z):x<z:=by simpa [Sort.ltStr]using Sort.swo_ltStr.trans x y z (by simpa [Sort.ltStr]using h1) (by simpa [Sort.ltStr]using h2)
theorem Vw{x y:List UInt8}(h1:¬x<y)(h2:¬y<x):x=y:=List.le_antisymm h2 h1
theorem Gq:SWO (ltOf yh) where
 irrefl:=λx=>(wL x x).2 (by rintro(h|h);omega;exact zbp _ h.2)
 trans:=λx y z h1 h2=>by
  rw[VQ]at h1 h2⊢;rcases h1 with h1|⟨h1,h1'⟩<;>rcases h2 with h2|⟨h2,h2'⟩
  ·exact .inl (by omega)
  ·exact .inl (by omega)
  ·exact .inl (by omega)
  ·exact .inr ⟨by omega,Vu h1' h2'⟩
 ntrans:=λx y z h1 h2=>by
  rw[wL]at h1 h2⊢;rintro(h|⟨h,h'⟩)
  ·by_cases e:x.2<y.2
   ·exact h1 (.inl e)
   ·exact h2 (.inl (by omega))
  ·by_cases e:x.2<y.2
   ·exact h1 (.inl e)
   ·by_cases e2:y.2<z.2
    ·exact h2 (.inl e2)
    ·have e3:x.2=y.2:=by omega
     have e4:y.2=z.2:=by omega
     by_cases f:x.1.toList<y.1.toList
     ·exact h1 (.inr ⟨e3,f⟩)
     ·by_cases g:y.1.toList<x.1.toList
      ·exact h2 (.inr ⟨e4,Vu g h'⟩)
      ·have:=Vw f g;exact h2 (.inr ⟨e4,this▸h'⟩)
theorem EO(x y:rU)(h1:ltOf yh x y=false)(h2:ltOf yh y x=false):x=y:=by
 rw[wL]at h1 h2;have e1:x.2=y.2:=by have a:¬x.2<y.2:=λh=>h1 (.inl h);have b:¬y.2<x.2:=λh=>h2 (.inl h);omega
 have e2:x.1.toList=y.1.toList:=Vw (λh=>h1 (.inr ⟨e1,h⟩)) (λh=>h2 (.inr ⟨e1.symm,h⟩));exact Prod.ext (toList_inj e2) e1
end
theorem TC(x y:Int)(w:World):Calls Tryz.prog 160 #[.int .i64 x,.int .i64 y] w λe w'=>e= .returned (.int .i64 (Jg x y))∧w'=w:=by
 have nan:∀(n:Int) (w:World),Calls Tryz.prog 202 #[.int .i64 n] w λe w'=>e= .returned (.bool false)∧w'=w:=by intro n w;go_enter Tryz.func202,Tryz.ntmps202;go_wp2_with fail;go_ret;exact⟨by simp,rfl⟩
 unfold Jg;by_cases h1:x<y
 ·rw[aP h1];go_enter Tryz.func160,Tryz.ntmps160;go_wp2_with (go_at_call 202;refine(nan _ _).mono ?_;rintro e w' ⟨rfl,rfl⟩);go_ret;exact⟨rfl,rfl⟩
 ·rw[aB h1];by_cases h2:y<x
  ·rw[aP h2];go_enter Tryz.func160,Tryz.ntmps160;go_wp2_with (go_at_call 202;refine(nan _ _).mono ?_;rintro e w' ⟨rfl,rfl⟩);go_ret;exact⟨rfl,rfl⟩
  ·rw[aB h2];go_enter Tryz.func160,Tryz.ntmps160;go_wp2_with (go_at_call 202;refine(nan _ _).mono ?_;rintro e w' ⟨rfl,rfl⟩);go_ret;exact⟨rfl,rfl⟩
theorem zcp(x y:af)(w:World):Calls Tryz.prog 206 #[.string x,.string y] w λe w'=>e= .returned (.int .i64 (Yp x y))∧w'=w:=by
 have nan:∀(n:af) (w:World),Calls Tryz.prog 250 #[.string n] w λe w'=>e= .returned (.bool false)∧w'=w:=by intro n w;go_enter Tryz.func250,Tryz.ntmps250;go_wp2_with fail;go_ret;exact⟨by simp,rfl⟩
 unfold Yp;by_cases h1:Op.bytesLess x.toList y.toList=true
 ·rw[aP h1];go_enter Tryz.func206,Tryz.ntmps206;go_wp2_with (go_at_call 250;refine(nan _ _).mono ?_;rintro e w' ⟨rfl,rfl⟩);go_ret;exact⟨rfl,rfl⟩
 ·rw[aB h1];have h1':Op.bytesLess x.toList y.toList=false:=by simpa using h1
  clear h1;by_cases h2:x=y
  ·rw[aP h2];subst h2;go_enter Tryz.func206,Tryz.ntmps206;go_wp2_with (go_at_call 250;refine(nan _ _).mono ?_;rintro e w' ⟨rfl,rfl⟩);go_ret;exact⟨rfl,rfl⟩
  ·rw[aB h2];have h3:(@BEq.beq (List UInt8) (@List.instBEq UInt8 instBEqOfDecidableEq) x.toList y.toList)=false:=by
    rw[dS,bQ,bQ];exact λe=>h2 (xy (by rw[bs,bs,e]))
   clear h2;go_enter Tryz.func206,Tryz.ntmps206;go_wp2_with (go_at_call 250;refine(nan _ _).mono ?_;rintro e w' ⟨rfl,rfl⟩);go_ret;exact⟨rfl,rfl⟩
theorem zlu(x y:Int)(w:World)(v:Value)(S:Nums w v [x,y]):Calls Tryz.prog 205 #[v] w λe w'=>e= .returned (.int .i64 (if x≠0 then x else y))∧w'=w:=by
 obtain⟨a,c,rfl⟩:=S.len;obtain⟨b,off,rfl,_,hb,hc⟩:=S.at (by simp);have c0:w.cell? ⟨b,off,none⟩=some (.int .i64 x):=hc 0 (by simp);have c1:w.cell? ⟨b,off+1,none⟩=some (.int .i64 y):=hc 1 (by simp);clear hc S;obtain⟨r,hr⟩:∃r,r=if x≠0 then x else y:=⟨_,rfl⟩
 rw[<-hr];have Hr:=Lib.hid hr;clear hr;go_enter Tryz.func205,Tryz.ntmps205;go_wp2_with fail
 go_loop [8] (λi=>∃k:Nat,k<=2∧i= .int .i64 k∧(0<k->x=0)∧(1<k->y=0)) (λi=>2-(intOf i).toNat)
 case atStart=>exact⟨0,by omega,rfl,by omega,by omega⟩
 case round=>
  obtain⟨k,hk,rfl,h0,h1⟩:=hrel;have hk3:k=0∨k=1∨k=2:=by omega
  rcases hk3 with rfl|rfl|rfl
  ·by_cases hx:x=0
   ·subst hx;go_wp2_with fail;exact⟨⟨1,by omega,by go_num,λ_=>by first|trivial|rfl,by omega⟩,by simp[intOf]⟩
   ·have hx2:(x !=0)=true:=by simpa using hx
    have hr:=Hr.out;rw[aP hx]at hr;subst hr;clear hx h0 h1;go_wp2_with fail;go_ret;exact⟨rfl,rfl⟩
  ·obtain rfl:x=0:=h0 (by omega);have hr:=Hr.out;rw[aB (by omega)]at hr;subst hr;by_cases hx:r=0
   ·subst hx;clear h0 h1;go_wp2_with fail;exact⟨⟨2,by omega,by go_num,λ_=>by first|trivial|rfl,λ_=>by first|trivial|rfl⟩,by simp[intOf]⟩
   ·have hx2:(r !=0)=true:=by simpa using hx
    clear hx h0 h1;go_wp2_with fail;go_ret;exact⟨rfl,rfl⟩
  ·obtain rfl:x=0:=h0 (by omega);obtain rfl:y=0:=h1 (by omega);obtain rfl:r=0:=Hr.out;clear h0 h1;go_wp2_with fail;go_ret;exact⟨rfl,rfl⟩
theorem PI(x y:rU)(w:World):Calls Tryz.prog 163 #[.agg (yG x).toArray,.agg (yG y).toArray] w λe w'=>e= .returned (.int .i64 (yh x y))∧Gr w w':=by
 obtain⟨nx,dx⟩:=x;obtain⟨ny,dy⟩:=y;have hf:yh (nx,dx) (ny,dy)=if Jg dx dy≠0 then Jg dx dy else Yp nx ny:=rfl
 have h1:=TC dx dy;have h2:=zcp nx ny;have h3:=λw v S=>zlu (Jg dx dy) (Yp nx ny) w v S;rw[<-hf]at h3;obtain⟨r,hr⟩:∃r,r=yh (nx,dx) (ny,dy):=⟨_,rfl⟩
 obtain⟨a,ha⟩:∃r,r=Jg dx dy:=⟨_,rfl⟩
 obtain⟨b,hb⟩:∃r,r=Yp nx ny:=⟨_,rfl⟩
 rw[<-hr]at h3⊢;rw[<-ha]at h1 h3;rw[<-hb]at h2 h3;have H3:=Lib.hid h3;clear hr ha hb hf h3;simp only[yG];go_enter Tryz.func163,Tryz.ntmps163;go_wp2_with fail;refine o6 10 (by kernel_rfl) (by kernel_rfl) ?_;simp only[bY,bZ,dh,cO]
 iterate 10 ((with_reducible refine kM (λK hK=> ?_));go_simp;first|(refine hK _ ?_;clear hK K)|(apply Exists.intro;refine⟨λ_=> ?_,hK _ ?_⟩;(first|(go_at_call 160;exact Calls.quiet_of_same (h1 _))|(go_at_call 206;exact Calls.quiet_of_same (h2 _)));clear hK K))
 refine dF ?_;intro m;go_wp2_with fail;have hG:Gr w (((w.alloc (.cells #[.string nx,.int .i64 dx] 116)).alloc (.cells #[.string ny,.int .i64 dy] 116)).drewN m):=(((Gr.refl w).alloc _).alloc _).drewN m;obtain⟨W,hW⟩:∃W,W=((w.alloc (.cells #[.string nx,.int .i64 dx] 116)).alloc (.cells #[.string ny,.int .i64 dy] 116)).drewN m:=⟨_,rfl⟩
 have hs:w.heap.size+1+1=W.heap.size:=by rw[hW];simp[World.drewN]
 rw[<-hW]at hG⊢;rw[hs];clear hW hs h1 h2;refine(H3.out _ _ (Nums.lit (w:=W) [a,b])).mono ?_;rintro e w' ⟨rfl,hw⟩;subst w';go_wp2_with fail;go_ret;exact⟨rfl,hG.alloc _⟩
section
open Go.Sort Go.Shelf
abbrev uq:=Int×Nat
def oW(x:uq):List Value:= [.int .i64 x.1,.pointer (some ⟨x.2,0,none⟩)]
def qf(x y:uq):Int:=Jg x.1 y.1
theorem CQ(x:uq):(oW x).length=2:=rfl
theorem Tz(x:uq):∀v∈oW x,v.oneCell'=true:=by intro v hv;simp only[oW,bK,iJ,jY]at hv;rcases hv with rfl|rfl<;>rfl
theorem zcy(x y:uq):Go.Proofs.ltOf qf x y=decide (x.1<y.1):=by unfold Go.Proofs.ltOf;rw[decide_eq_decide];exact Zz _ _
theorem Ih:SWO (Go.Proofs.ltOf qf) where
 irrefl:=λx=>by rw[zcy];simp
 trans:=λx y z h1 h2=>by rw[zcy]at*;simp at*;omega
 ntrans:=λx y z h1 h2=>by rw[zcy]at*;simp at*;omega
end
section
open Go.Sort Go.Shelf
open Go.Proofs (SWK RowK ltOf)
theorem UF(blk cap a b n:Nat)(d0 d:Array uq)(w0 w:World)(cv:Value)(R:RowK oW 2 w0 blk 0 d0)(hs:d0.size=d.size)(S:SWK oW 2 w0 blk 0 d w)(h1:a+n<=b)(h2:b+n<=d.size)(hsz:d.size<=1000000):
  Calls Tryz.prog 284 #[.slice (some ⟨blk,0,none⟩) d.size cap,.int .i64 a,.int .i64 b,.int .i64 n,cv] w λe w'=>e= .returned (.tuple #[])∧SWK oW 2 w0 blk 0 (swr d a b n) w':=by
 have S0:=Lib.hid S;clear S;obtain⟨sz,hsz2⟩:∃sz,sz=d.size:=⟨_,rfl⟩
 rw[<-hsz2]at hs h2 hsz;rw[<-hsz2];have Hsz:=Lib.hid hsz2;clear hsz2;go_enter Tryz.func284,Tryz.ntmps284;go_wp2_with fail
 go_loopw [10] (λiv wr=>∃i:Nat,i<=n∧iv= .int .i64 i∧Hid (SWK oW 2 w0 blk 0 (swr d a b i) wr)) (λiv _=>n-(intOf iv).toNat)
 case atStart=>exact⟨0,by omega,rfl,S0⟩
 case round=>
  obtain⟨i,hi,rfl,S1⟩:=hrel;by_cases hlt:i<n
  ·have j1:(i:Int)<n:=by omega
   obtain⟨dk,hdk⟩:∃dk,dk=swr d a b i:=⟨_,rfl⟩
   have hds:dk.size=sz:=by rw[hdk,Cm,Hsz.out]
   have hnx:swr d a b (i+1)=swp dk (a+i) (b+i):=by rw[hdk];rfl
   rw[<-hdk]at S1;have hold:=S1.out.holds R.hblk R.hH (by omega);have ca:=λc (hc:c<2)=>HoldsK.cell hold (show a+i<dk.size by omega) hc;have cb:=λc (hc:c<2)=>HoldsK.cell hold (show b+i<dk.size by omega) hc;obtain⟨x,hx⟩:∃x,x=dk[a+i]! :=⟨_,rfl⟩
   obtain⟨y,hy⟩:∃y,y=dk[b+i]! :=⟨_,rfl⟩
   have hsw:=λm=>(S1.out.drewN m).swap R.hk R.hblk (a+i) (b+i) (by omega) (by omega);rw[<-hx,<-hy]at hsw;rw[<-hx]at ca;rw[<-hy]at cb;obtain⟨xn,xb⟩:=x;obtain⟨yn,yb⟩:=y;have a0:=ca 0 (by omega);have a1:=ca 1 (by omega);have b0:=cb 0 (by omega);have b1:=cb 1 (by omega);simp only[dM,jL]at a0 a1 b0 b1 hsw;obtain⟨a0,za0⟩:=a0;obtain⟨a1,za1⟩:=a1;obtain⟨b0,zb0⟩:=b0;obtain⟨b1,zb1⟩:=b1;have a0:wr.cell? ⟨blk,(a+i)*2,none⟩=some (.int .i64 xn):=a0;have a1:wr.cell? ⟨blk,(a+i)*2+1,none⟩=some (.pointer (some ⟨xb,0,none⟩)):=a1;have b0:wr.cell? ⟨blk,(b+i)*2,none⟩=some (.int .i64 yn):=b0;have b1:wr.cell? ⟨blk,(b+i)*2+1,none⟩=some (.pointer (some ⟨yb,0,none⟩)):=b1;have ra:IntKind.i64.wrap ((a:Int)+(i:Int))=(a:Int)+(i:Int):=aW _ (by omega);have rb:IntKind.i64.wrap ((b:Int)+(i:Int))=(b:Int)+(i:Int):=aW _ (by omega);have la:(a:Int)+(i:Int)<(sz:Int):=by omega
   have lb:(b:Int)+(i:Int)<(sz:Int):=by omega
   have pa:(0:Int)<=(a:Int)+(i:Int):=by omega
   have pb:(0:Int)<=(b:Int)+(i:Int):=by omega
   have Hsw:=Lib.hid hsw;clear ca cb hold hx hy hsw hdk S1;obtain⟨ai,hai⟩:∃ai,ai=a+i:=⟨_,rfl⟩
   obtain⟨bi,hbi⟩:∃bi,bi=b+i:=⟨_,rfl⟩
   rw[<-hai,<-hbi]at Hsw hnx;rw[<-hai]at a0 a1 za0 za1;rw[<-hbi]at b0 b1 zb0 zb1;have ea:((a:Int)+(i:Int)).toNat=ai:=by omega
   have eb:((b:Int)+(i:Int)).toNat=bi:=by omega
   have hne:ai≠bi:=by omega
   clear hai hbi;have n1:¬bi*2=ai*2:=by omega
   have n2:¬bi*2=ai*2+1:=by omega
   have n3:¬bi*2+1=ai*2:=by omega
   have n4:¬bi*2+1=ai*2+1:=by omega
   have mixed:Tryz.prog.follows .mixedOrders=true:=by kernel_rfl
   go_wp2_with fail
   go_big_region_o
   go_wp2_with fail;refine⟨⟨i+1,by omega,by go_num,Lib.hid ?_⟩,by simp[intOf];omega⟩;rw[hnx];exact Hsw.out 1
  ·obtain rfl:i=n:=by omega
   go_wp2_with fail;go_end0;exact⟨rfl,S1.out⟩
theorem GK(blk cap a b n:Nat)(az bz nz:Int)(haz:az=a)(hbz:bz=b)(hnz:nz=n)(sz:Nat)(d0 d:Array uq)(w0 w:World)(cv:Value)(R:RowK oW 2 w0 blk 0 d0)(hs:d0.size=d.size)(hds:sz=d.size)(S:SWK oW 2 w0 blk 0 d w)(h1:a+n<=b)(h2:b+n<=d.size)(hsz:d.size<=1000000):
  Calls Tryz.prog 284 #[.slice (some ⟨blk,0,none⟩) sz cap,.int .i64 az,.int .i64 bz,.int .i64 nz,cv] w λe w'=>e= .returned (.tuple #[])∧SWK oW 2 w0 blk 0 (swr d a b n) w':=by
 subst haz hbz hnz hds;exact UF blk cap a b n d0 d w0 w cv R hs S h1 h2 hsz
theorem zbI(blk cap a m b sz:Nat)(d0 d:Array uq)(w0 w:World)(cv:Value)(R:RowK oW 2 w0 blk 0 d0)(hs:d0.size=d.size)(hds:sz=d.size)(S:SWK oW 2 w0 blk 0 d w)(ham:a<m)(hmb:m<b)(hb:b<=d.size)(hsz:d.size<=1000000):
  Calls Tryz.prog 274 #[.slice (some ⟨blk,0,none⟩) sz cap,.int .i64 a,.int .i64 m,.int .i64 b,cv] w λe w'=>e= .returned (.tuple #[])∧∃d',Rot d a m b d'∧SWK oW 2 w0 blk 0 d' w':=by
 have S0:=Lib.hid S;clear S;rw[<-hds]at hs hb hsz;have Ee:=Lib.hid hds;clear hds;have r1:IntKind.i64.wrap ((m:Int)-(a:Int))=(m:Int)-(a:Int):=aW _ (by omega);have r2:IntKind.i64.wrap ((b:Int)-(m:Int))=(b:Int)-(m:Int):=aW _ (by omega);go_enter Tryz.func274,Tryz.ntmps274;go_wp2_with fail;clear r1 r2
 go_loopw [10,11] (λiv jv wr=>∃(i j:Nat) (dk:Array uq),iv= .int .i64 i∧jv= .int .i64 j∧0<i∧0<j∧i<=m-a∧j<=b-m∧Hid (dk.size=sz)∧Hid (Bg d a m b i j dk)∧Hid (SWK oW 2 w0 blk 0 dk wr)) (λiv jv _=>(intOf iv).toNat+(intOf jv).toNat)
 case atStart=>exact⟨m-a,b-m,d,by go_num,by go_num,by omega,by omega,by omega,by omega,Lib.hid Ee.out.symm,Lib.hid (Bg.start (by omega) (by omega)),S0⟩
 case round=>
  obtain⟨i,j,dk,rfl,rfl,hi,hj,him,hjb,hdk,hI,S1⟩:=hrel;have rmi:IntKind.i64.wrap ((m:Int)-(i:Int))=(m:Int)-(i:Int):=aW _ (by omega);have rij:IntKind.i64.wrap ((i:Int)-(j:Int))=(i:Int)-(j:Int):=aW _ (by omega);have rji:IntKind.i64.wrap ((j:Int)-(i:Int))=(j:Int)-(i:Int):=aW _ (by omega);have rmj:IntKind.i64.wrap ((m:Int)+(j:Int))=(m:Int)+(j:Int):=aW _ (by omega);have rmji:IntKind.i64.wrap ((m:Int)+(j:Int)-(i:Int))=(m:Int)+(j:Int)-(i:Int):=aW _ (by omega);by_cases hij:i=j
  ·subst hij;go_wp2_with fail;refine(GK blk cap (m-i) m i _ _ _ (by omega) rfl rfl sz d0 dk w0 wr cv R (by rw[hs,hdk.out]) hdk.out.symm S1.out (by omega) (by rw[hdk.out];omega) (by rw[hdk.out];exact hsz)).mono ?_;rintro e w' ⟨rfl,S2⟩;go_wp2_with fail;go_end0;exact⟨rfl,_,hI.out.stop (by omega) (by omega) (by rw[<-Ee.out];exact hb),S2⟩
  ·have hne:((i:Int) !=(j:Int))=true:=by simp;omega
   by_cases hlt:j<i
   ·have l1:(j:Int)<(i:Int):=by omega
    clear hij;go_wp2_with fail;refine(GK blk cap (m-i) m j _ _ _ (by omega) rfl rfl sz d0 dk w0 wr cv R (by rw[hs,hdk.out]) hdk.out.symm S1.out (by omega) (by rw[hdk.out];omega) (by rw[hdk.out];exact hsz)).mono ?_;rintro e w' ⟨rfl,S2⟩;go_wp2_with fail;refine⟨⟨i-j,j,_,by go_num,rfl,by omega,by omega,by omega,by omega,Lib.hid (by rw[Cm];exact hdk.out),Lib.hid (hI.out.more (by omega) (by omega) (by rw[<-Ee.out];exact hb) hlt),Lib.hid S2⟩,by simp[intOf];omega⟩
   ·have l1:¬(j:Int)<(i:Int):=by omega
    go_wp2_with fail;refine(GK blk cap (m-i) (m+j-i) i _ _ _ (by omega) (by omega) rfl sz d0 dk w0 wr cv R (by rw[hs,hdk.out]) hdk.out.symm S1.out (by omega) (by rw[hdk.out];omega) (by rw[hdk.out];exact hsz)).mono ?_;rintro e w' ⟨rfl,S2⟩;go_wp2_with fail;refine⟨⟨i,j-i,_,rfl,by go_num,by omega,by omega,by omega,by omega,Lib.hid (by rw[Cm];exact hdk.out),Lib.hid (hI.out.less (by omega) (by omega) (by rw[<-Ee.out];exact hb) (by omega)),Lib.hid S2⟩,by simp[intOf];omega⟩
theorem Tv(x y:uq)(w:World):Calls Tryz.prog 159 #[.agg (oW x).toArray,.agg (oW y).toArray] w λe w'=>e= .returned (.int .i64 (qf x y))∧∃q os',w'=grow (w.drewN q) os':=by
 obtain⟨xn,xb⟩:=x;obtain⟨yn,yb⟩:=y;have h1:=TC xn yn;have hG:Gr w ((w.alloc (.cells #[.int .i64 xn,.pointer (some ⟨xb,0,none⟩)] 220)).alloc (.cells #[.int .i64 yn,.pointer (some ⟨yb,0,none⟩)] 220)):=((Gr.refl w).alloc _).alloc _;obtain⟨c,hc⟩:∃c,c=Jg xn yn:=⟨_,rfl⟩
 rw[<-hc]at h1;simp only[oW,qf];rw[<-hc];clear hc;go_enter Tryz.func159,Tryz.ntmps159;go_wp2_with fail;refine(h1 _).mono ?_;rintro e w' ⟨rfl,hw⟩;subst w';go_wp2_with fail;go_ret;exact⟨rfl,hG⟩
theorem YY{blk:Nat}{d0 dk:Array uq}{w0 wr:World}(R:RowK oW 2 w0 blk 0 d0)(hs:d0.size=dk.size)(S:SWK oW 2 w0 blk 0 dk wr)(i j:Nat)(hi:i<dk.size)(hj:j<dk.size):
  ∃(xn yn:Int) (xb yb:Nat),(wr.cell? ⟨blk,i*2,none⟩=some (.int .i64 xn)∧wr.cell? ⟨blk,i*2+1,none⟩=some (.pointer (some ⟨xb,0,none⟩))∧wr.cell? ⟨blk,j*2,none⟩=some (.int .i64 yn)∧wr.cell? ⟨blk,j*2+1,none⟩=some (.pointer (some ⟨yb,0,none⟩)))∧
   (wr.frozen? ⟨blk,i*2,none⟩=false∧wr.frozen? ⟨blk,i*2+1,none⟩=false∧wr.frozen? ⟨blk,j*2,none⟩=false∧wr.frozen? ⟨blk,j*2+1,none⟩=false)∧
   ∀m,SWK oW 2 w0 blk 0 (swp dk i j) (((((wr.drewN m).setCell ⟨blk,i*2,none⟩ (.int .i64 yn)).setCell ⟨blk,i*2+1,none⟩ (.pointer (some ⟨yb,0,none⟩))).setCell ⟨blk,j*2,none⟩ (.int .i64 xn)).setCell ⟨blk,j*2+1,none⟩ (.pointer (some ⟨xb,0,none⟩))):=by
 have hold:=S.holds R.hblk R.hH hs.symm;have ci:=λc (hc:c<2)=>HoldsK.cell hold hi hc;have cj:=λc (hc:c<2)=>HoldsK.cell hold hj hc;have hsw:=λm=>(S.drewN m).swap R.hk R.hblk i j hi hj;obtain⟨x,hx⟩:∃x,x=dk[i]! :=⟨_,rfl⟩
 obtain⟨y,hy⟩:∃y,y=dk[j]! :=⟨_,rfl⟩
 rw[<-hx,<-hy]at hsw;rw[<-hx]at ci;rw[<-hy]at cj;obtain⟨xn,xb⟩:=x;obtain⟨yn,yb⟩:=y;have a0:=ci 0 (by omega);have a1:=ci 1 (by omega);have b0:=cj 0 (by omega);have b1:=cj 1 (by omega);simp only[dM,jL]at a0 a1 b0 b1 hsw;exact⟨xn,yn,xb,yb,⟨a0.1,a1.1,b0.1,b1.1⟩,⟨a0.2,a1.2,b0.2,b1.2⟩,hsw⟩
theorem Xc{blk:Nat}{d0 dk:Array uq}{w0 wr:World}(R:RowK oW 2 w0 blk 0 d0)(hs:d0.size=dk.size)(S:SWK oW 2 w0 blk 0 dk wr)(i j:Nat)(hi:i<dk.size)(hj:j<dk.size):
  ∃(xn yn:Int) (xb yb:Nat) (C:Int),((∀n os,(grow (wr.drewN n) os).cell? ⟨blk,i*2,none⟩=some (.int .i64 xn))∧(∀n os,(grow (wr.drewN n) os).cell? ⟨blk,i*2+1,none⟩=some (.pointer (some ⟨xb,0,none⟩)))∧(∀n os,(grow (wr.drewN n) os).cell? ⟨blk,j*2,none⟩=some (.int .i64 yn))∧∀n os,(grow (wr.drewN n) os).cell? ⟨blk,j*2+1,none⟩=some (.pointer (some ⟨yb,0,none⟩)))∧
   (∀w,Calls Tryz.prog 159 #[.agg #[.int .i64 xn,.pointer (some ⟨xb,0,none⟩)],.agg #[.int .i64 yn,.pointer (some ⟨yb,0,none⟩)]] w λe w'=>e= .returned (.int .i64 C)∧∃q os',w'=grow (w.drewN q) os')∧
   ltOf qf dk[i]! dk[j]! =decide (C<0):=by
 have hold:=λn os=>(S.grown n os).holds R.hblk R.hH hs.symm;have cx:=λn os c (hc:c<2)=>HoldsK.cell (hold n os) hi hc;have cy:=λn os c (hc:c<2)=>HoldsK.cell (hold n os) hj hc;obtain⟨x,hx⟩:∃x,x=dk[i]! :=⟨_,rfl⟩
 obtain⟨y,hy⟩:∃y,y=dk[j]! :=⟨_,rfl⟩
 rw[<-hx]at cx;rw[<-hy]at cy;rw[<-hx,<-hy];have hcm:=λw=>Tv x y w;obtain⟨xn,xb⟩:=x;obtain⟨yn,yb⟩:=y;refine⟨xn,yn,xb,yb,qf (xn,xb) (yn,yb),⟨λn os=> ?_,λn os=> ?_,λn os=> ?_,λn os=> ?_⟩,hcm,rfl⟩
 ·have:=(cx n os 0 (by omega)).1
  rwa [dM,jL]at this
 ·have:=(cx n os 1 (by omega)).1
  rwa [dM]at this
 ·have:=(cy n os 0 (by omega)).1
  rwa [dM,jL]at this
 ·have:=(cy n os 1 (by omega)).1
  rwa [dM]at this
theorem ZK(blk cap a m b sz:Nat)(d0 d:Array uq)(w0 w:World)(R:RowK oW 2 w0 blk 0 d0)(hs:d0.size=d.size)(hds:sz=d.size)(S:SWK oW 2 w0 blk 0 d w)(ham:m=a+1)(hmb:m<b)(hb:b<=d.size)(hsz:d.size<=1000000)
  (hB:SortedIn (ltOf qf) m b d):
  Calls Tryz.prog 241 #[.slice (some ⟨blk,0,none⟩) sz cap,.int .i64 a,.int .i64 m,.int .i64 b,.func (.func 159) #[] #[]] w λe w'=>e= .returned (.tuple #[])∧∃d',(PermIn a b d d'∧SortedIn (ltOf qf) a b d')∧SWK oW 2 w0 blk 0 d' w':=by
 have S0:=Lib.hid S;clear S;rw[<-hds]at hs hb hsz;have Ee:=Lib.hid hds;have HB:=Lib.hid hB;clear hds hB;have r1:IntKind.i64.wrap ((m:Int)-(a:Int))=(m:Int)-(a:Int):=aW _ (by omega);have e1:((m:Int)-(a:Int)==1)=true:=by simp;omega
 have ham2:a<m:=by omega
 have Ham:=Lib.hid ham;clear ham;have eg:∀args w,(callFunc 159 args).run Tryz.prog w= .ok (.enter 159 args) w:=enters_of Tryz.func159 (by kernel_rfl) rfl;have mixed:Tryz.prog.follows .mixedOrders=true:=by kernel_rfl
 go_enter Tryz.func241,Tryz.ntmps241;go_wp2_with fail;clear r1 e1
 go_loopw [10,11] (λiv jv wr=>∃(i j:Nat),iv= .int .i64 i∧jv= .int .i64 j∧m<=i∧i<=j∧j<=b∧Hid (m<i->ltOf qf d[i-1]! d[a]! =true)∧Hid (j<b->ltOf qf d[j]! d[a]! =false)∧Hid (SWK oW 2 w0 blk 0 d wr)) (λiv jv _=>(intOf jv).toNat-(intOf iv).toNat)
 case atStart=>exact⟨m,b,rfl,rfl,by omega,by omega,by omega,Lib.hid (λh=>by omega),Lib.hid (λh=>by omega),S0⟩
 case round=>
  obtain⟨i,j,rfl,rfl,hmi,hij,hjb,hI,hJ,S1⟩:=hrel;have rs:IntKind.i64.wrap ((i:Int)+(j:Int))=(i:Int)+(j:Int):=aW _ (by omega);by_cases hlt:i<j
  ·have l1:(i:Int)<(j:Int):=by omega
   obtain⟨h,hh⟩:∃h,h=(i+j)/2:=⟨_,rfl⟩
   have eh:(((i:Int)+(j:Int))/2).toNat=h:=by omega
   have ph:(0:Int)<=((i:Int)+(j:Int))/2:=by omega
   have bh:((i:Int)+(j:Int))/2<(sz:Int):=by omega
   have ba:(a:Int)<(sz:Int):=by omega
   obtain⟨xn,yn,xb,yb,C,⟨x0,x1,y0,y1⟩,hcm,hlt2⟩:=Xc R (by rw[hs,Ee.out]) S1.out h a (by rw[<-Ee.out];omega) (by rw[<-Ee.out];omega);have Hh:=Lib.hid hh;have Ug:=Lib.hid hcm;have JM:=Lib.hid hlt2;clear hcm hlt2 hh;go_wp2_with fail
   go_quiet_grown (first|(go_at_fn 159;refine Calls.grown_of (Ug.out _)))
   have S2:=Lib.hid (S1.out.grown nq osq);clear x0 x1 y0 y1 Ug S1;generalize grow (wr.drewN nq) osq=w2 at S2⊢;clear nq osq;by_cases hC:C<0
   ·have dC:decide (C<0)=true:=by simpa using hC
    rw[dC]at JM;go_wp2_with fail;have hh:=Hh.out;refine⟨⟨h+1,j,by go_num,rfl,by omega,by omega,by omega,Lib.hid (λ_=>by rw[mW];exact JM.out),hJ,S2⟩,by simp[intOf];omega⟩
   ·have dC:decide (C<0)=false:=by simpa using hC
    rw[dC]at JM;go_wp2_with fail;have hh:=Hh.out;refine⟨⟨i,h,rfl,by go_num,by omega,by omega,by omega,hI,Lib.hid (λ_=>JM.out),S2⟩,by simp[intOf];omega⟩
  ·obtain rfl:i=j:=by omega
   have l1:¬(i:Int)<(i:Int):=by omega
   go_wp2_with fail
   go_loopw [13] (λkv wr=>∃k:Nat,k<=i-1-a∧kv= .int .i64 ((a+k:Nat):Int)∧Hid (SWK oW 2 w0 blk 0 (upN d a k) wr)) (λkv _=>i-(intOf kv).toNat)
   case atStart=>exact⟨0,by omega,rfl,S1⟩
   case round=>
    obtain⟨k,hk,rfl,S2⟩:=hrel;have ri:IntKind.i64.wrap ((i:Int)-1)=(i:Int)-1:=aW _ (by omega);obtain⟨p,hp⟩:∃p,p=a+k:=⟨_,rfl⟩
    rw[<-hp];by_cases hlt:p<i-1
    ·have l2:(p:Int)<(i:Int)-1:=by omega
     have hup:upN d a (k+1)=swp (upN d a k) p (p+1):=by rw[hp];rfl
     obtain⟨xn,yn,xb,yb,⟨a0,a1,b0,b1⟩,⟨z0,z1,z2,z3⟩,hsw⟩:=YY R (by rw[hs,Ee.out,Cj]) S2.out p (p+1) (by rw[Cj,<-Ee.out];omega) (by rw[Cj,<-Ee.out];omega);have rp:IntKind.i64.wrap ((p:Int)+1)=(p:Int)+1:=aW _ (by omega);have bp:(p:Int)<(sz:Int):=by omega
     have bp1:(p:Int)+1<(sz:Int):=by omega
     have pp1:(0:Int)<=(p:Int)+1:=by omega
     have ep1:((p:Int)+1).toNat=p+1:=by omega
     obtain⟨q,hq⟩:∃q,q=p+1:=⟨_,rfl⟩
     rw[<-hq]at b0 b1 z2 z3 hsw hup ep1;have n1:¬q*2=p*2:=by omega
     have n2:¬q*2=p*2+1:=by omega
     have n3:¬q*2+1=p*2:=by omega
     have n4:¬q*2+1=p*2+1:=by omega
     have Hsw:=Lib.hid hsw;have Hq:=Lib.hid hq;have Hp:=Lib.hid hp;have Hup:=Lib.hid hup;clear hsw hq hp hup S2;go_wp2_with fail
     go_big_region_o
     go_wp2_with fail;have hp:=Hp.out;refine⟨⟨k+1,by omega,by go_num,Lib.hid ?_⟩,by simp[intOf];omega⟩;rw[Hup.out];exact Hsw.out 1
    ·have l2:¬(p:Int)<(i:Int)-1:=by omega
     have Hp:=Lib.hid hp;clear hp;go_wp2_with fail;(try simp only[Exit.inBlock,Exit.then]);refine dW (jm rfl _ _ _) rfl ?_;have hp:=Hp.out;have ham:=Ham.out;refine⟨rfl,_,?_,S2.out⟩;have hR:=ziA d a k (by rw[<-Ee.out];omega);rw[show a+1=m by omega,show a+k+1=i by omega]at hR;exact zll Ih ham HB.out hmi (by omega) (by rw[<-Ee.out];exact hb) hJ.out hI.out hR
theorem UE(blk cap a m b sz:Nat)(d0 d:Array uq)(w0 w:World)(R:RowK oW 2 w0 blk 0 d0)(hs:d0.size=d.size)(hds:sz=d.size)(S:SWK oW 2 w0 blk 0 d w)(ham:a+1<m)(hmb:b=m+1)(hb:b<=d.size)(hsz:d.size<=1000000)
  (hA:SortedIn (ltOf qf) a m d):
  Calls Tryz.prog 241 #[.slice (some ⟨blk,0,none⟩) sz cap,.int .i64 a,.int .i64 m,.int .i64 b,.func (.func 159) #[] #[]] w λe w'=>e= .returned (.tuple #[])∧∃d',(PermIn a b d d'∧SortedIn (ltOf qf) a b d')∧SWK oW 2 w0 blk 0 d' w':=by
 have S0:=Lib.hid S;clear S;rw[<-hds]at hs hb hsz;have Ee:=Lib.hid hds;have HA:=Lib.hid hA;clear hds hA;have r1:IntKind.i64.wrap ((m:Int)-(a:Int))=(m:Int)-(a:Int):=aW _ (by omega);have e1:((m:Int)-(a:Int)==1)=false:=by simp;omega
 have r2:IntKind.i64.wrap ((b:Int)-(m:Int))=(b:Int)-(m:Int):=aW _ (by omega);have e2:((b:Int)-(m:Int)==1)=true:=by simp;omega
 have hmb2:m<b:=by omega
 have Hmb:=Lib.hid hmb;clear hmb;have eg:∀args w,(callFunc 159 args).run Tryz.prog w= .ok (.enter 159 args) w:=enters_of Tryz.func159 (by kernel_rfl) rfl;have mixed:Tryz.prog.follows .mixedOrders=true:=by kernel_rfl
 go_enter Tryz.func241,Tryz.ntmps241;go_wp2_with fail;clear r1 e1 r2 e2
 go_loopw [14,15] (λiv jv wr=>∃(i j:Nat),iv= .int .i64 i∧jv= .int .i64 j∧a<=i∧i<=j∧j<=m∧Hid (a<i->ltOf qf d[m]! d[i-1]! =false)∧Hid (j<m->ltOf qf d[m]! d[j]! =true)∧Hid (SWK oW 2 w0 blk 0 d wr)) (λiv jv _=>(intOf jv).toNat-(intOf iv).toNat)
 case atStart=>exact⟨a,m,rfl,rfl,by omega,by omega,by omega,Lib.hid (λh=>by omega),Lib.hid (λh=>by omega),S0⟩
 case round=>
  obtain⟨i,j,rfl,rfl,hai,hij,hjm,hI,hJ,S1⟩:=hrel;have rs:IntKind.i64.wrap ((i:Int)+(j:Int))=(i:Int)+(j:Int):=aW _ (by omega);by_cases hlt:i<j
  ·have l1:(i:Int)<(j:Int):=by omega
   obtain⟨h,hh⟩:∃h,h=(i+j)/2:=⟨_,rfl⟩
   have eh:(((i:Int)+(j:Int))/2).toNat=h:=by omega
   have ph:(0:Int)<=((i:Int)+(j:Int))/2:=by omega
   have bh:((i:Int)+(j:Int))/2<(sz:Int):=by omega
   have ba:(m:Int)<(sz:Int):=by omega
   obtain⟨xn,yn,xb,yb,C,⟨x0,x1,y0,y1⟩,hcm,hlt2⟩:=Xc R (by rw[hs,Ee.out]) S1.out m h (by rw[<-Ee.out];omega) (by rw[<-Ee.out];omega);have Hh:=Lib.hid hh;have Ug:=Lib.hid hcm;have JM:=Lib.hid hlt2;clear hcm hlt2 hh;go_wp2_with fail
   go_quiet_grown (first|(go_at_fn 159;refine Calls.grown_of (Ug.out _)))
   have S2:=Lib.hid (S1.out.grown nq osq);clear x0 x1 y0 y1 Ug S1;generalize grow (wr.drewN nq) osq=w2 at S2⊢;clear nq osq;by_cases hC:C<0
   ·have dC:decide (C<0)=true:=by simpa using hC
    rw[dC]at JM;simp only[dC,ni];go_wp2_with fail;have hh:=Hh.out;refine⟨⟨i,h,rfl,by go_num,by omega,by omega,by omega,hI,Lib.hid (λ_=>JM.out),S2⟩,by simp[intOf];omega⟩
   ·have dC:decide (C<0)=false:=by simpa using hC
    rw[dC]at JM;simp only[dC,lS];go_wp2_with fail;have hh:=Hh.out;refine⟨⟨h+1,j,by go_num,rfl,by omega,by omega,by omega,Lib.hid (λ_=>by rw[mW];exact JM.out),hJ,S2⟩,by simp[intOf];omega⟩
  ·obtain rfl:i=j:=by omega
   have l1:¬(i:Int)<(i:Int):=by omega
   go_wp2_with fail
   go_loopw [17] (λkv wr=>∃k:Nat,k<=m-i∧kv= .int .i64 ((m-k:Nat):Int)∧Hid (SWK oW 2 w0 blk 0 (FW d m k) wr)) (λkv _=>(intOf kv).toNat)
   case atStart=>exact⟨0,by omega,rfl,S1⟩
   case round=>
    obtain⟨k,hk,rfl,S2⟩:=hrel;obtain⟨p,hp⟩:∃p,p=m-k:=⟨_,rfl⟩
    rw[<-hp];by_cases hlt:i<p
    ·have l2:(i:Int)<(p:Int):=by omega
     obtain⟨q,hq⟩:∃q,q=p-1:=⟨_,rfl⟩
     have hup:FW d m (k+1)=swp (FW d m k) p q:=by rw[hq,hp];rfl
     obtain⟨xn,yn,xb,yb,⟨a0,a1,b0,b1⟩,⟨z0,z1,z2,z3⟩,hsw⟩:=YY R (by rw[hs,Ee.out,yO]) S2.out p q (by rw[yO,<-Ee.out];omega) (by rw[yO,<-Ee.out];omega);have rp:IntKind.i64.wrap ((p:Int)-1)=(p:Int)-1:=aW _ (by omega);have bp:(p:Int)<(sz:Int):=by omega
     have bp1:(p:Int)-1<(sz:Int):=by omega
     have pp1:(0:Int)<=(p:Int)-1:=by omega
     have ep1:((p:Int)-1).toNat=q:=by omega
     have n1:¬q*2=p*2:=by omega
     have n2:¬q*2=p*2+1:=by omega
     have n3:¬q*2+1=p*2:=by omega
     have n4:¬q*2+1=p*2+1:=by omega
     have Hsw:=Lib.hid hsw;have Hq:=Lib.hid hq;have Hp:=Lib.hid hp;have Hup:=Lib.hid hup;clear hsw hq hp hup S2;go_wp2_with fail
     go_big_region_o
     go_wp2_with fail;have hp:=Hp.out;have hq:=Hq.out;refine⟨⟨k+1,by omega,by go_num,Lib.hid ?_⟩,by simp[intOf];omega⟩;rw[Hup.out];exact Hsw.out 1
    ·have l2:¬(i:Int)<(p:Int):=by omega
     have Hp:=Lib.hid hp;clear hp;go_wp2_with fail;(try simp only[Exit.inBlock,Exit.then]);refine dW (jm rfl _ _ _) rfl ?_;have hp:=Hp.out;have hmb:=Hmb.out;refine⟨rfl,_,?_,S2.out⟩;have hR:=zeH d m k (by rw[<-Ee.out];omega) (by omega);rw[show m-k=i by omega,<-hmb]at hR;exact zgA Ih hmb HA.out hai (by omega) (by rw[<-Ee.out];exact hb) hI.out hJ.out hR
end
end Go.Proofs.YtopbkdebihcmcaaGreatDoor
