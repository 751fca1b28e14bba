import Derived.Test.YtbcmmbeadgiiiaaGreatDoorYAB
import Derived.Test.YtbcmmbeadgiiiaaGreatDoorYAD
import Derived.WalkLawsBesides
import Derived.Shelf.SlSortCmp.NoneTotal
set_option linter.all false
namespace Go.Proofs.YtbcmmbeadgiiiaaGreatDoor
open Go.RowKit Tryz
set_option maxRecDepth 100000
set_option maxHeartbeats 16000000
variable{x y:List UInt8}{vH:Nat}{w w' w0 wr:ax}
section
open Go.Sort Go.Shelf
open Go.Proofs (ltOf)
def Gr(w w':ax):Prop:=∃q os,w'=Sort.grow (w.drewN q) os
def Gr.refl(w:ax):Gr w w:=⟨0,#[],by simp[World.drewN]⟩
def Gr.alloc(h:Gr w w')(o:Obj):Gr w (w'.alloc o):=by obtain⟨q,os,rfl⟩:=h;exact⟨q,os++ #[o],by rw[Sort.alloc_eq_grow,Sort.grow_grow]⟩
def Gr.drewN(h:Gr w w')(n:Nat):Gr w (w'.drewN n):=by obtain⟨q,os,rfl⟩:=h;refine⟨q+n,os,?_⟩;rw[<-World.drewN_drewN];rfl
def Gr.qm(h:Gr w w'):ak w w':=by obtain⟨q,os,rfl⟩:=h;refine⟨rfl,rfl,rfl,by simp[Sort.grow,World.drewN],λk hk _=> ?_⟩;show(w.heap++os)[k]? =w.heap[k]?;rw[Array.getElem?_append_left hk]
def RX(x y:Int):Int:=if x<y then-1 else if y<x then 1 else 0
def zec(x y:af):Int:=if Op.bytesLess x.toList y.toList=true then-1 else if x=y then 0 else 1
abbrev sJ:=af×Int
def Bz(x y:sJ):Int:=if RX x.2 y.2≠0 then RX x.2 y.2 else zec x.1 y.1
def xw(x:sJ):List ay:= [.string x.1,.int .i64 x.2]
def zhe(x y:Int):RX x y<0↔x<y:=by
 unfold RX;split
 ·simp;omega
 split<;>simp<;>omega
def zdN(x y:Int):RX x y=0↔x=y:=by
 unfold RX;split
 ·simp;omega
 split<;>simp<;>omega
def Qq:∀(x y:List UInt8),Op.bytesLess x y=decide (x<y)
 | [],[]=>by simp[Op.bytesLess]
 | _::_,[]=>by simp[Op.bytesLess]
 | [],_::_=>by simp[Op.bytesLess]
 | a::x,b::y=>by
  rw[Op.bytesLess,Qq x y,iQ];simp only[List.cons_lt_cons_iff];by_cases h:a<b
  ·simp[h]
  by_cases h2:a=b
  ·subst h2;simp
  simp[h,h2]
def zhd(x y:af):zec x y<0↔x.toList<y.toList:=by
 unfold zec;rw[Qq];split
 ·rename_i h
  simpa using h
 rename_i h;have h':¬x.toList<y.toList:=by simpa using h
 split<;>simp[h']
def toList_inj{a b:af}(h:a.toList=b.toList):a=b:=xJ (by rw[bs,bs,<-dI,<-dI,h])
def ltF(x y:sJ):Prop:=x.2<y.2∨x.2=y.2∧x.1.toList<y.1.toList
def zqc(x y:sJ):Bz x y<0↔ltF x y:=by
 unfold Bz ltF;by_cases h:RX x.2 y.2=0
 ·rw[aV (λe=>e h),zhd];have:=(zdN _ _).1 h;constructor
  ·exact λh=> .inr ⟨this,h⟩
  rintro(h|h)
  ·omega
  exact h.2
 rw[bu h,zhe];constructor
 ·exact .inl
 rintro(h'|h')
 ·exact h'
 exact absurd ((zdN _ _).2 h'.1) h
def zdv(x y:sJ):ltOf Bz x y=true↔ltF x y:=by unfold ltOf;rw[aW];exact zqc x y
def uQ(x y:sJ):ltOf Bz x y=false↔¬ltF x y:=by rw[<-zdv];simp
def zaI(x:List UInt8):¬x<x:=by simp
def QB{z:List UInt8}(h1:x<y)(h2:y<z):x<z:=by simpa [Sort.ltStr]using Sort.swo_ltStr.trans x y z (by simpa [Sort.ltStr]using h1) (by simpa [Sort.ltStr]using h2)
def VQ(h1:¬x<y)(h2:¬y<x):x=y:=List.le_antisymm h2 h1
def Ph:SWO (ltOf Bz) where
 irrefl:=λx=>(uQ x x).2 (by rintro(h|h);omega;exact zaI _ h.2)
 trans:=λx y z h1 h2=>by
  rw[zdv]at h1 h2⊢;rcases h1 with h1|⟨h1,h1'⟩<;>rcases h2 with h2|⟨h2,h2'⟩
  ·exact .inl (by omega)
  ·exact .inl (by omega)
  ·exact .inl (by omega)
  exact .inr ⟨by omega,QB h1' h2'⟩
 ntrans:=λx y z h1 h2=>by
  rw[uQ]at h1 h2⊢;rintro(h|⟨h,h'⟩)
  ·by_cases e:x.2<y.2
   ·exact h1 (.inl e)
   exact h2 (.inl (by omega))
  by_cases e:x.2<y.2
  ·exact h1 (.inl e)
  by_cases e2:y.2<z.2
  ·exact h2 (.inl e2)
  have e3:x.2=y.2:=by omega
  have e4:y.2=z.2:=by omega
  by_cases f:x.1.toList<y.1.toList
  ·exact h1 (.inr ⟨e3,f⟩)
  by_cases g:y.1.toList<x.1.toList
  ·exact h2 (.inr ⟨e4,QB g h'⟩)
  have:=VQ f g;exact h2 (.inr ⟨e4,this▸h'⟩)
def Nh(x y:sJ)(h1:ltOf Bz x y=false)(h2:ltOf Bz y x=false):x=y:=by
 rw[uQ]at h1 h2;have e1:x.2=y.2:=by have a:¬x.2<y.2:=λh=>h1 (.inl h);have b:¬y.2<x.2:=λh=>h2 (.inl h);omega
 have e2:x.1.toList=y.1.toList:=VQ (λh=>h1 (.inr ⟨e1,h⟩)) (λh=>h2 (.inr ⟨e1.s,h⟩));exact Prod.ext (toList_inj e2) e1
end
def zbw(x y:Int)(w:ax):ae 130 #[.int .i64 x,.int .i64 y] w λe w'=>e= .returned (.int .i64 (RX x y))∧w'=w:=by
 have nan:∀(n:Int) (w:ax),ae 199 #[.int .i64 n] w λe w'=>e= .returned (.bool false)∧w'=w:=by intro n w;go_enter func199,ntmps199;go_wp2_with fail;go_ret;exact⟨by simp,rfl⟩
 unfold RX;by_cases h1:x<y
 ·rw[bu h1];go_enter func130,ntmps130;go_wp2_with (go_at_call 199;refine(nan _ _).m ?_;rintro e w' ⟨rfl,rfl⟩);go_ret;exact⟨rfl,rfl⟩
 rw[aV h1];by_cases h2:y<x
 ·rw[bu h2];go_enter func130,ntmps130;go_wp2_with (go_at_call 199;refine(nan _ _).m ?_;rintro e w' ⟨rfl,rfl⟩);go_ret;exact⟨rfl,rfl⟩
 rw[aV h2];go_enter func130,ntmps130;go_wp2_with (go_at_call 199;refine(nan _ _).m ?_;rintro e w' ⟨rfl,rfl⟩);go_ret;exact⟨rfl,rfl⟩
def zj8(x y:af)(w:ax):ae 203 #[.string x,.string y] w λe w'=>e= .returned (.int .i64 (zec x y))∧w'=w:=by
 have nan:∀(n:af) (w:ax),ae 265 #[.string n] w λe w'=>e= .returned (.bool false)∧w'=w:=by intro n w;go_enter func265,ntmps265;go_wp2_with fail;go_ret;exact⟨by simp,rfl⟩
 unfold zec;by_cases h1:Op.bytesLess x.toList y.toList=true
 ·rw[bu h1];go_enter func203,ntmps203;go_wp2_with (go_at_call 265;refine(nan _ _).m ?_;rintro e w' ⟨rfl,rfl⟩);go_ret;exact⟨rfl,rfl⟩
 rw[aV h1];have h1':Op.bytesLess x.toList y.toList=false:=by simpa using h1
 clear h1;by_cases h2:x=y
 ·rw[bu h2];subst h2;go_enter func203,ntmps203;go_wp2_with (go_at_call 265;refine(nan _ _).m ?_;rintro e w' ⟨rfl,rfl⟩);go_ret;exact⟨rfl,rfl⟩
 rw[aV h2];have h3:(@BEq.beq (List UInt8) (@List.instBEq UInt8 instBEqOfDecidableEq) x.toList y.toList)=false:=by
  rw[eu,dI,dI];exact λe=>h2 (xJ (by rw[bs,bs,e]))
 clear h2;go_enter func203,ntmps203;go_wp2_with (go_at_call 265;refine(nan _ _).m ?_;rintro e w' ⟨rfl,rfl⟩);go_ret;exact⟨rfl,rfl⟩
def zuZ(x y:Int)(w:ax)(v:ay)(S:vM w v [x,y]):ae 202 #[v] w λe w'=>e= .returned (.int .i64 (if x≠0 then x else y))∧w'=w:=by
 obtain⟨a,c,rfl⟩:=S.len;obtain⟨b,off,rfl,_,hb,hc⟩:=S.at (by simp);have c0:w.cell? ⟨b,off,none⟩=some (.int .i64 x):=hc 0 (by simp);have c1:w.cell? ⟨b,off+1,none⟩=some (.int .i64 y):=hc 1 (by simp);clear hc S;obtain⟨r,hr⟩:=aj (if x≠0 then x else y);rw[<-hr];have Hr:=ag hr;clear hr;go_enter func202,ntmps202;go_wp2_with fail
 go_loop [8] (λi=>∃k:Nat,k<=2∧i= .int .i64 k∧(0<k->x=0)∧(1<k->y=0)) (λi=>2-(intOf i).toNat)
 ·exact⟨0,by omega,rfl,by omega,by omega⟩
 obtain⟨k,hk,rfl,h0,h1⟩:=hrel;have hk3:k=0∨k=1∨k=2:=by omega
 rcases hk3 with rfl|rfl|rfl
 ·by_cases hx:x=0
  ·subst hx;go_wp2_with fail;exact⟨⟨1,by omega,by go_num,λ_=>by first|trivial|rfl,by omega⟩,by simp[intOf]⟩
  have Vf:(x !=0)=true:=by simpa using hx
  have hr:=Hr.o;rw[bu hx]at hr;subst hr;clear hx h0 h1;go_wp2_with fail;go_ret;exact⟨rfl,rfl⟩
 ·obtain rfl:x=0:=h0 (by omega);have hr:=Hr.o;rw[aV (by omega)]at hr;subst hr;by_cases hx:r=0
  ·subst hx;clear h0 h1;go_wp2_with fail;exact⟨⟨2,by omega,by go_num,λ_=>by first|trivial|rfl,λ_=>by first|trivial|rfl⟩,by simp[intOf]⟩
  have Vf:(r !=0)=true:=by simpa using hx
  clear hx h0 h1;go_wp2_with fail;go_ret;exact⟨rfl,rfl⟩
 obtain rfl:x=0:=h0 (by omega);obtain rfl:y=0:=h1 (by omega);obtain rfl:r=0:=Hr.o;clear h0 h1;go_wp2_with fail;go_ret;exact⟨rfl,rfl⟩
def Ym(x y:sJ)(w:ax):ae 133 #[.agg (xw x).toArray,.agg (xw y).toArray] w λe w'=>e= .returned (.int .i64 (Bz x y))∧Gr w w':=by
 obtain⟨nx,dx⟩:=x;obtain⟨ny,dy⟩:=y;have hf:Bz (nx,dx) (ny,dy)=if RX dx dy≠0 then RX dx dy else zec nx ny:=rfl
 have h1:=zbw dx dy;have h2:=zj8 nx ny;have h3:=λw v S=>zuZ (RX dx dy) (zec nx ny) w v S;rw[<-hf]at h3;obtain⟨r,hr⟩:=aj (Bz (nx,dx) (ny,dy));obtain⟨a,ha⟩:=aj (RX dx dy);obtain⟨b,hb⟩:=aj (zec nx ny);rw[<-hr]at h3⊢;rw[<-ha]at h1 h3;rw[<-hb]at h2 h3;have H3:=ag h3;clear hr ha hb hf h3;simp only[xw];go_enter func133,ntmps133;go_wp2_with fail;refine qV 10 (by kernel_rfl) (by kernel_rfl) ?_;simp only[dE,dD,dA,dF]
 iterate 10 ((with_reducible refine jK (λK hK=> ?_));go_simp;first|(refine hK _ ?_;clear hK K)|(apply Exists.intro;refine⟨λ_=> ?_,hK _ ?_⟩;(first|(go_at_call 130;exact kN (h1 _))|(go_at_call 203;exact kN (h2 _)));clear hK K))
 refine dP ?_;intro m;go_wp2_with fail;have hG:Gr w (((w.alloc (.cells #[.string nx,.int .i64 dx] 146)).alloc (.cells #[.string ny,.int .i64 dy] 146)).drewN m):=(((Gr.refl w).alloc _).alloc _).drewN m;obtain⟨W,hW⟩:=aj (((w.alloc (.cells #[.string nx,.int .i64 dx] 146)).alloc (.cells #[.string ny,.int .i64 dy] 146)).drewN m);have hs:w.heap.size+1+1=W.heap.size:=by rw[hW];simp[World.drewN]
 rw[<-hW]at hG⊢;rw[hs];clear hW hs h1 h2;refine(H3.o _ _ (vM.lit (w:=W) [a,b])).m ?_;rintro e w' ⟨rfl,hw⟩;subst w';go_wp2_with fail;go_ret;exact⟨rfl,hG.alloc _⟩
section
open Go.Sort Go.Shelf
abbrev yl:=Int×Nat
def sD(x:yl):List ay:= [.int .i64 x.1,.pointer (some ⟨x.2,0,none⟩)]
def uq(x y:yl):Int:=RX x.1 y.1
def Iw(x:yl):(sD x).length=2:=rfl
def zbs(x:yl):∀v∈sD x,v.oneCell'=true:=by intro v hv;simp only[sD,dO,iT,lN]at hv;rcases hv with rfl|rfl<;>rfl
def zki(x y:yl):Go.Proofs.ltOf uq x y=decide (x.1<y.1):=by unfold Go.Proofs.ltOf;rw[decide_eq_decide];exact zhe _ _
def Qp:SWO (Go.Proofs.ltOf uq) where
 irrefl:=λx=>by rw[zki];simp
 trans:=λx y z h1 h2=>by rw[zki]at*;simp at*;omega
 ntrans:=λx y z h1 h2=>by rw[zki]at*;simp at*;omega
end
section
open Go.Sort Go.Shelf
open Go.Proofs (SWK RowK ltOf)
def zcr(vH cap a b n:Nat)(d0 d:Array yl)(w0 w:ax)(cv:ay)(R:RowK sD 2 w0 vH 0 d0)(hs:d0.size=d.size)(S:SWK sD 2 w0 vH 0 d w)(h1:a+n<=b)(h2:b+n<=d.size)(uF:d.size<=1000000):
  ae 329 #[.slice (some ⟨vH,0,none⟩) d.size cap,.int .i64 a,.int .i64 b,.int .i64 n,cv] w λe w'=>e= .returned (.tuple #[])∧SWK sD 2 w0 vH 0 (swr d a b n) w':=by
 have S0:=ag S;clear S;obtain⟨sz,TE⟩:=aj d.size;rw[<-TE]at hs h2 uF;rw[<-TE];have Hsz:=ag TE;clear TE;go_enter func329,ntmps329;go_wp2_with fail
 go_loopw [10] (λiv wr=>∃i:Nat,i<=n∧iv= .int .i64 i∧Hid (SWK sD 2 w0 vH 0 (swr d a b i) wr)) (λiv _=>n-(intOf iv).toNat)
 case atStart=>exact⟨0,by omega,rfl,S0⟩
 case round=>
  obtain⟨i,hi,rfl,S1⟩:=hrel;by_cases rE:i<n
  ·have j1:(i:Int)<n:=by omega
   obtain⟨dk,JP⟩:=aj (swr d a b i);have IQ:dk.size=sz:=by rw[JP,Ig,Hsz.o]
   have Bl:swr d a b (i+1)=swp dk (a+i) (b+i):=by rw[JP];rfl
   rw[<-JP]at S1;have hold:=S1.o.holds R.hblk R.hH (by omega);have ca:=λc (hc:c<2)=>HoldsK.cell hold (show a+i<dk.size by omega) hc;have cb:=λc (hc:c<2)=>HoldsK.cell hold (show b+i<dk.size by omega) hc;obtain⟨x,hx⟩:=aj (dk[a+i]!);obtain⟨y,hy⟩:=aj (dk[b+i]!);have Yx:=λm=>(S1.o.drewN m).swap R.hk R.hblk (a+i) (b+i) (by omega) (by omega);rw[<-hx,<-hy]at Yx;rw[<-hx]at ca;rw[<-hy]at cb;obtain⟨xn,xb⟩:=x;obtain⟨yn,yb⟩:=y;have a0:=ca 0 (by omega);have a1:=ca 1 (by omega);have b0:=cb 0 (by omega);have b1:=cb 1 (by omega);simp only[eH,iY]at a0 a1 b0 b1 Yx;obtain⟨a0,za0⟩:=a0;obtain⟨a1,za1⟩:=a1;obtain⟨b0,zb0⟩:=b0;obtain⟨b1,zb1⟩:=b1;have a0:wr.cell? ⟨vH,(a+i)*2,none⟩=some (.int .i64 xn):=a0;have a1:wr.cell? ⟨vH,(a+i)*2+1,none⟩=some (.pointer (some ⟨xb,0,none⟩)):=a1;have b0:wr.cell? ⟨vH,(b+i)*2,none⟩=some (.int .i64 yn):=b0;have b1:wr.cell? ⟨vH,(b+i)*2+1,none⟩=some (.pointer (some ⟨yb,0,none⟩)):=b1;have ra:IntKind.i64.wrap ((a:Int)+(i:Int))=(a:Int)+(i:Int):=aY _ (by omega);have rb:IntKind.i64.wrap ((b:Int)+(i:Int))=(b:Int)+(i:Int):=aY _ (by omega);have la:(a:Int)+(i:Int)<(sz:Int):=by omega
   have lb:(b:Int)+(i:Int)<(sz:Int):=by omega
   have pa:(0:Int)<=(a:Int)+(i:Int):=by omega
   have pb:(0:Int)<=(b:Int)+(i:Int):=by omega
   have Hsw:=ag Yx;clear ca cb hold hx hy Yx JP S1;obtain⟨ai,hai⟩:=aj (a+i);obtain⟨bi,Rw⟩:=aj (b+i);rw[<-hai,<-Rw]at Hsw Bl;rw[<-hai]at a0 a1 za0 za1;rw[<-Rw]at b0 b1 zb0 zb1;have ea:((a:Int)+(i:Int)).toNat=ai:=by omega
   have eb:((b:Int)+(i:Int)).toNat=bi:=by omega
   have Bc:ai≠bi:=by omega
   clear hai Rw;have n1:¬bi*2=ai*2:=by omega
   have n2:¬bi*2=ai*2+1:=by omega
   have n3:¬bi*2+1=ai*2:=by omega
   have n4:¬bi*2+1=ai*2+1:=by omega
   have mixed:prog.follows .mixedOrders=true:=by kernel_rfl
   go_wp2_with fail
   go_big_region_o
   go_wp2_with fail;refine⟨⟨i+1,by omega,by go_num,ag ?_⟩,by simp[intOf];omega⟩;rw[Bl];exact Hsw.o 1
  obtain rfl:i=n:=by omega
  go_wp2_with fail;go_end0;exact⟨rfl,S1.o⟩
def PG(vH cap a b n:Nat)(az bz nz:Int)(haz:az=a)(Qh:bz=b)(hnz:nz=n)(sz:Nat)(d0 d:Array yl)(w0 w:ax)(cv:ay)(R:RowK sD 2 w0 vH 0 d0)(hs:d0.size=d.size)(IQ:sz=d.size)(S:SWK sD 2 w0 vH 0 d w)(h1:a+n<=b)(h2:b+n<=d.size)(uF:d.size<=1000000):
  ae 329 #[.slice (some ⟨vH,0,none⟩) sz cap,.int .i64 az,.int .i64 bz,.int .i64 nz,cv] w λe w'=>e= .returned (.tuple #[])∧SWK sD 2 w0 vH 0 (swr d a b n) w':=by
 subst haz Qh hnz IQ;exact zcr vH cap a b n d0 d w0 w cv R hs S h1 h2 uF
def zju(vH cap a m b sz:Nat)(d0 d:Array yl)(w0 w:ax)(cv:ay)(R:RowK sD 2 w0 vH 0 d0)(hs:d0.size=d.size)(IQ:sz=d.size)(S:SWK sD 2 w0 vH 0 d w)(ham:a<m)(Qe:m<b)(hb:b<=d.size)(uF:d.size<=1000000):
  ae 305 #[.slice (some ⟨vH,0,none⟩) sz cap,.int .i64 a,.int .i64 m,.int .i64 b,cv] w λe w'=>e= .returned (.tuple #[])∧∃d',Rot d a m b d'∧SWK sD 2 w0 vH 0 d' w':=by
 have S0:=ag S;clear S;rw[<-IQ]at hs hb uF;have LU:=ag IQ;clear IQ;have r1:IntKind.i64.wrap ((m:Int)-(a:Int))=(m:Int)-(a:Int):=aY _ (by omega);have r2:IntKind.i64.wrap ((b:Int)-(m:Int))=(b:Int)-(m:Int):=aY _ (by omega);go_enter func305,ntmps305;go_wp2_with fail;clear r1 r2
 go_loopw [10,11] (λiv jv wr=>∃(i j:Nat) (dk:Array yl),iv= .int .i64 i∧jv= .int .i64 j∧0<i∧0<j∧i<=m-a∧j<=b-m∧Hid (dk.size=sz)∧Hid (Gj d a m b i j dk)∧Hid (SWK sD 2 w0 vH 0 dk wr)) (λiv jv _=>(intOf iv).toNat+(intOf jv).toNat)
 case atStart=>exact⟨m-a,b-m,d,by go_num,by go_num,by omega,by omega,by omega,by omega,ag LU.o.s,ag (Gj.start (by omega) (by omega)),S0⟩
 case round=>
  obtain⟨i,j,dk,rfl,rfl,hi,hj,him,hjb,JP,hI,S1⟩:=hrel;have rmi:IntKind.i64.wrap ((m:Int)-(i:Int))=(m:Int)-(i:Int):=aY _ (by omega);have rij:IntKind.i64.wrap ((i:Int)-(j:Int))=(i:Int)-(j:Int):=aY _ (by omega);have rji:IntKind.i64.wrap ((j:Int)-(i:Int))=(j:Int)-(i:Int):=aY _ (by omega);have rmj:IntKind.i64.wrap ((m:Int)+(j:Int))=(m:Int)+(j:Int):=aY _ (by omega);have rmji:IntKind.i64.wrap ((m:Int)+(j:Int)-(i:Int))=(m:Int)+(j:Int)-(i:Int):=aY _ (by omega);by_cases hij:i=j
  ·subst hij;go_wp2_with fail;refine(PG vH cap (m-i) m i _ _ _ (by omega) rfl rfl sz d0 dk w0 wr cv R (by rw[hs,JP.o]) JP.o.s S1.o (by omega) (by rw[JP.o];omega) (by rw[JP.o];exact uF)).m ?_;rintro e w' ⟨rfl,S2⟩;go_wp2_with fail;go_end0;exact⟨rfl,_,hI.o.stop (by omega) (by omega) (by rw[<-LU.o];exact hb),S2⟩
  have Bc:((i:Int) !=(j:Int))=true:=by simp;omega
  by_cases rE:j<i
  ·have l1:(j:Int)<(i:Int):=by omega
   clear hij;go_wp2_with fail;refine(PG vH cap (m-i) m j _ _ _ (by omega) rfl rfl sz d0 dk w0 wr cv R (by rw[hs,JP.o]) JP.o.s S1.o (by omega) (by rw[JP.o];omega) (by rw[JP.o];exact uF)).m ?_;rintro e w' ⟨rfl,S2⟩;go_wp2_with fail;refine⟨⟨i-j,j,_,by go_num,rfl,by omega,by omega,by omega,by omega,ag (by rw[Ig];exact JP.o),ag (hI.o.more (by omega) (by omega) (by rw[<-LU.o];exact hb) rE),ag S2⟩,by simp[intOf];omega⟩
  have l1:¬(j:Int)<(i:Int):=by omega
  go_wp2_with fail;refine(PG vH cap (m-i) (m+j-i) i _ _ _ (by omega) (by omega) rfl sz d0 dk w0 wr cv R (by rw[hs,JP.o]) JP.o.s S1.o (by omega) (by rw[JP.o];omega) (by rw[JP.o];exact uF)).m ?_;rintro e w' ⟨rfl,S2⟩;go_wp2_with fail;refine⟨⟨i,j-i,_,rfl,by go_num,by omega,by omega,by omega,by omega,ag (by rw[Ig];exact JP.o),ag (hI.o.less (by omega) (by omega) (by rw[<-LU.o];exact hb) (by omega)),ag S2⟩,by simp[intOf];omega⟩
def zbq(x y:yl)(w:ax):ae 129 #[.agg (sD x).toArray,.agg (sD y).toArray] w λe w'=>e= .returned (.int .i64 (uq x y))∧∃q os',w'=grow (w.drewN q) os':=by obtain⟨xn,xb⟩:=x;obtain⟨yn,yb⟩:=y;have h1:=zbw xn yn;have hG:Gr w ((w.alloc (.cells #[.int .i64 xn,.pointer (some ⟨xb,0,none⟩)] 211)).alloc (.cells #[.int .i64 yn,.pointer (some ⟨yb,0,none⟩)] 211)):=((Gr.refl w).alloc _).alloc _;obtain⟨c,hc⟩:=aj (RX xn yn);rw[<-hc]at h1;simp only[sD,uq];rw[<-hc];clear hc;go_enter oK,ntmps129;go_wp2_with fail;refine(h1 _).m ?_;rintro e w' ⟨rfl,hw⟩;subst w';go_wp2_with fail;go_ret;exact⟨rfl,hG⟩
def zgC{d0 dk:Array yl}(R:RowK sD 2 w0 vH 0 d0)(hs:d0.size=dk.size)(S:SWK sD 2 w0 vH 0 dk wr)(i j:Nat)(hi:i<dk.size)(hj:j<dk.size):
  ∃(xn yn:Int) (xb yb:Nat),(wr.cell? ⟨vH,i*2,none⟩=some (.int .i64 xn)∧wr.cell? ⟨vH,i*2+1,none⟩=some (.pointer (some ⟨xb,0,none⟩))∧wr.cell? ⟨vH,j*2,none⟩=some (.int .i64 yn)∧wr.cell? ⟨vH,j*2+1,none⟩=some (.pointer (some ⟨yb,0,none⟩)))∧
   (wr.frozen? ⟨vH,i*2,none⟩=false∧wr.frozen? ⟨vH,i*2+1,none⟩=false∧wr.frozen? ⟨vH,j*2,none⟩=false∧wr.frozen? ⟨vH,j*2+1,none⟩=false)∧
   ∀m,SWK sD 2 w0 vH 0 (swp dk i j) (((((wr.drewN m).setCell ⟨vH,i*2,none⟩ (.int .i64 yn)).setCell ⟨vH,i*2+1,none⟩ (.pointer (some ⟨yb,0,none⟩))).setCell ⟨vH,j*2,none⟩ (.int .i64 xn)).setCell ⟨vH,j*2+1,none⟩ (.pointer (some ⟨xb,0,none⟩))):=by
 have hold:=S.holds R.hblk R.hH hs.s;have ci:=λc (hc:c<2)=>HoldsK.cell hold hi hc;have cj:=λc (hc:c<2)=>HoldsK.cell hold hj hc;have Yx:=λm=>(S.drewN m).swap R.hk R.hblk i j hi hj;obtain⟨x,hx⟩:=aj (dk[i]!);obtain⟨y,hy⟩:=aj (dk[j]!);rw[<-hx,<-hy]at Yx;rw[<-hx]at ci;rw[<-hy]at cj;obtain⟨xn,xb⟩:=x;obtain⟨yn,yb⟩:=y;have a0:=ci 0 (by omega);have a1:=ci 1 (by omega);have b0:=cj 0 (by omega);have b1:=cj 1 (by omega);simp only[eH,iY]at a0 a1 b0 b1 Yx;exact⟨xn,yn,xb,yb,⟨a0.1,a1.1,b0.1,b1.1⟩,⟨a0.2,a1.2,b0.2,b1.2⟩,Yx⟩
def zez{d0 dk:Array yl}(R:RowK sD 2 w0 vH 0 d0)(hs:d0.size=dk.size)(S:SWK sD 2 w0 vH 0 dk wr)(i j:Nat)(hi:i<dk.size)(hj:j<dk.size):
  ∃(xn yn:Int) (xb yb:Nat) (C:Int),((∀n os,(grow (wr.drewN n) os).cell? ⟨vH,i*2,none⟩=some (.int .i64 xn))∧(∀n os,(grow (wr.drewN n) os).cell? ⟨vH,i*2+1,none⟩=some (.pointer (some ⟨xb,0,none⟩)))∧(∀n os,(grow (wr.drewN n) os).cell? ⟨vH,j*2,none⟩=some (.int .i64 yn))∧∀n os,(grow (wr.drewN n) os).cell? ⟨vH,j*2+1,none⟩=some (.pointer (some ⟨yb,0,none⟩)))∧
   (∀w,ae 129 #[.agg #[.int .i64 xn,.pointer (some ⟨xb,0,none⟩)],.agg #[.int .i64 yn,.pointer (some ⟨yb,0,none⟩)]] w λe w'=>e= .returned (.int .i64 C)∧∃q os',w'=grow (w.drewN q) os')∧
   ltOf uq dk[i]! dk[j]! =decide (C<0):=by
 have hold:=λn os=>(S.grown n os).holds R.hblk R.hH hs.s;have cx:=λn os c (hc:c<2)=>HoldsK.cell (hold n os) hi hc;have cy:=λn os c (hc:c<2)=>HoldsK.cell (hold n os) hj hc;obtain⟨x,hx⟩:=aj (dk[i]!);obtain⟨y,hy⟩:=aj (dk[j]!);rw[<-hx]at cx;rw[<-hy]at cy;rw[<-hx,<-hy];have hcm:=λw=>zbq x y w;obtain⟨xn,xb⟩:=x;obtain⟨yn,yb⟩:=y;refine⟨xn,yn,xb,yb,uq (xn,xb) (yn,yb),⟨λn os=> ?_,λn os=> ?_,λn os=> ?_,λn os=> ?_⟩,hcm,rfl⟩
 ·have:=(cx n os 0 (by omega)).1
  rwa [eH,iY]at this
 ·have:=(cx n os 1 (by omega)).1
  rwa [eH]at this
 ·have:=(cy n os 0 (by omega)).1
  rwa [eH,iY]at this
 ·have:=(cy n os 1 (by omega)).1
  rwa [eH]at this
def zhq(vH cap a m b sz:Nat)(d0 d:Array yl)(w0 w:ax)(R:RowK sD 2 w0 vH 0 d0)(hs:d0.size=d.size)(IQ:sz=d.size)(S:SWK sD 2 w0 vH 0 d w)(ham:m=a+1)(Qe:m<b)(hb:b<=d.size)(uF:d.size<=1000000)
  (hB:SortedIn (ltOf uq) m b d):
  ae 256 #[.slice (some ⟨vH,0,none⟩) sz cap,.int .i64 a,.int .i64 m,.int .i64 b,.func (.func 129) #[] #[]] w λe w'=>e= .returned (.tuple #[])∧∃d',(PermIn a b d d'∧SortedIn (ltOf uq) a b d')∧SWK sD 2 w0 vH 0 d' w':=by
 have S0:=ag S;clear S;rw[<-IQ]at hs hb uF;have LU:=ag IQ;have HB:=ag hB;clear IQ hB;have r1:IntKind.i64.wrap ((m:Int)-(a:Int))=(m:Int)-(a:Int):=aY _ (by omega);have e1:((m:Int)-(a:Int)==1)=true:=by simp;omega
 have ham2:a<m:=by omega
 have Ham:=ag ham;clear ham;have eg:∀args w,(callFunc 129 args).run prog w= .ok (.enter 129 args) w:=enters_of oK (by kernel_rfl) rfl;have mixed:prog.follows .mixedOrders=true:=by kernel_rfl
 go_enter func256,ntmps256;go_wp2_with fail;clear r1 e1
 go_loopw [10,11] (λiv jv wr=>∃(i j:Nat),iv= .int .i64 i∧jv= .int .i64 j∧m<=i∧i<=j∧j<=b∧Hid (m<i->ltOf uq d[i-1]! d[a]! =true)∧Hid (j<b->ltOf uq d[j]! d[a]! =false)∧Hid (SWK sD 2 w0 vH 0 d wr)) (λiv jv _=>(intOf jv).toNat-(intOf iv).toNat)
 case atStart=>exact⟨m,b,rfl,rfl,by omega,by omega,by omega,ag (λh=>by omega),ag (λh=>by omega),S0⟩
 case round=>
  obtain⟨i,j,rfl,rfl,hmi,hij,hjb,hI,hJ,S1⟩:=hrel;have rs:IntKind.i64.wrap ((i:Int)+(j:Int))=(i:Int)+(j:Int):=aY _ (by omega);by_cases rE:i<j
  ·have l1:(i:Int)<(j:Int):=by omega
   obtain⟨h,hh⟩:=aj ((i+j)/2);have eh:(((i:Int)+(j:Int))/2).toNat=h:=by omega
   have ph:(0:Int)<=((i:Int)+(j:Int))/2:=by omega
   have bh:((i:Int)+(j:Int))/2<(sz:Int):=by omega
   have ba:(a:Int)<(sz:Int):=by omega
   obtain⟨xn,yn,xb,yb,C,⟨x0,x1,y0,y1⟩,hcm,LY⟩:=zez R (by rw[hs,LU.o]) S1.o h a (by rw[<-LU.o];omega) (by rw[<-LU.o];omega);have Hh:=ag hh;have Hcm:=ag hcm;have TK:=ag LY;clear hcm LY hh;go_wp2_with fail
   go_quiet_grown (first|(go_at_fn 129;refine Calls.grown_of (Hcm.o _)))
   have S2:=ag (S1.o.grown nq osq);clear x0 x1 y0 y1 Hcm S1;generalize grow (wr.drewN nq) osq=w2 at S2⊢;clear nq osq;by_cases hC:C<0
   ·have dC:decide (C<0)=true:=by simpa using hC
    rw[dC]at TK;go_wp2_with fail;have hh:=Hh.o;refine⟨⟨h+1,j,by go_num,rfl,by omega,by omega,by omega,ag (λ_=>by rw[pY];exact TK.o),hJ,S2⟩,by simp[intOf];omega⟩
   have dC:decide (C<0)=false:=by simpa using hC
   rw[dC]at TK;go_wp2_with fail;have hh:=Hh.o;refine⟨⟨i,h,rfl,by go_num,by omega,by omega,by omega,hI,ag (λ_=>TK.o),S2⟩,by simp[intOf];omega⟩
  obtain rfl:i=j:=by omega
  have l1:¬(i:Int)<(i:Int):=by omega
  go_wp2_with fail
  go_loopw [13] (λkv wr=>∃k:Nat,k<=i-1-a∧kv= .int .i64 ((a+k:Nat):Int)∧Hid (SWK sD 2 w0 vH 0 (upN d a k) wr)) (λkv _=>i-(intOf kv).toNat)
  ·exact⟨0,by omega,rfl,S1⟩
  obtain⟨k,hk,rfl,S2⟩:=hrel;have ri:IntKind.i64.wrap ((i:Int)-1)=(i:Int)-1:=aY _ (by omega);obtain⟨p,hp⟩:=aj (a+k);rw[<-hp];by_cases rE:p<i-1
  ·have l2:(p:Int)<(i:Int)-1:=by omega
   have hup:upN d a (k+1)=swp (upN d a k) p (p+1):=by rw[hp];rfl
   obtain⟨xn,yn,xb,yb,⟨a0,a1,b0,b1⟩,⟨z0,z1,z2,z3⟩,Yx⟩:=zgC R (by rw[hs,LU.o,Ie]) S2.o p (p+1) (by rw[Ie,<-LU.o];omega) (by rw[Ie,<-LU.o];omega);have rp:IntKind.i64.wrap ((p:Int)+1)=(p:Int)+1:=aY _ (by omega);have bp:(p:Int)<(sz:Int):=by omega
   have bp1:(p:Int)+1<(sz:Int):=by omega
   have pp1:(0:Int)<=(p:Int)+1:=by omega
   have ep1:((p:Int)+1).toNat=p+1:=by omega
   obtain⟨q,hq⟩:=aj (p+1);rw[<-hq]at b0 b1 z2 z3 Yx hup ep1;have n1:¬q*2=p*2:=by omega
   have n2:¬q*2=p*2+1:=by omega
   have n3:¬q*2+1=p*2:=by omega
   have n4:¬q*2+1=p*2+1:=by omega
   have Hsw:=ag Yx;have Hq:=ag hq;have Hp:=ag hp;have Hup:=ag hup;clear Yx hq hp hup S2;go_wp2_with fail
   go_big_region_o
   go_wp2_with fail;have hp:=Hp.o;refine⟨⟨k+1,by omega,by go_num,ag ?_⟩,by simp[intOf];omega⟩;rw[Hup.o];exact Hsw.o 1
  have l2:¬(p:Int)<(i:Int)-1:=by omega
  have Hp:=ag hp;clear hp;go_wp2_with fail;(try simp only[Exit.inBlock,Exit.then]);refine eF (lQ rfl _ _ _) rfl ?_;have hp:=Hp.o;have ham:=Ham.o;refine⟨rfl,_,?_,S2.o⟩;have hR:=zq6 d a k (by rw[<-LU.o];omega);rw[show a+1=m by omega,show a+k+1=i by omega]at hR;exact zuL Qp ham HB.o hmi (by omega) (by rw[<-LU.o];exact hb) hJ.o hI.o hR
def zcq(vH cap a m b sz:Nat)(d0 d:Array yl)(w0 w:ax)(R:RowK sD 2 w0 vH 0 d0)(hs:d0.size=d.size)(IQ:sz=d.size)(S:SWK sD 2 w0 vH 0 d w)(ham:a+1<m)(Qe:b=m+1)(hb:b<=d.size)(uF:d.size<=1000000)
  (hA:SortedIn (ltOf uq) a m d):
  ae 256 #[.slice (some ⟨vH,0,none⟩) sz cap,.int .i64 a,.int .i64 m,.int .i64 b,.func (.func 129) #[] #[]] w λe w'=>e= .returned (.tuple #[])∧∃d',(PermIn a b d d'∧SortedIn (ltOf uq) a b d')∧SWK sD 2 w0 vH 0 d' w':=by
 have S0:=ag S;clear S;rw[<-IQ]at hs hb uF;have LU:=ag IQ;have HA:=ag hA;clear IQ hA;have r1:IntKind.i64.wrap ((m:Int)-(a:Int))=(m:Int)-(a:Int):=aY _ (by omega);have e1:((m:Int)-(a:Int)==1)=false:=by simp;omega
 have r2:IntKind.i64.wrap ((b:Int)-(m:Int))=(b:Int)-(m:Int):=aY _ (by omega);have e2:((b:Int)-(m:Int)==1)=true:=by simp;omega
 have hmb2:m<b:=by omega
 have Hmb:=ag Qe;clear Qe;have eg:∀args w,(callFunc 129 args).run prog w= .ok (.enter 129 args) w:=enters_of oK (by kernel_rfl) rfl;have mixed:prog.follows .mixedOrders=true:=by kernel_rfl
 go_enter func256,ntmps256;go_wp2_with fail;clear r1 e1 r2 e2
 go_loopw [14,15] (λiv jv wr=>∃(i j:Nat),iv= .int .i64 i∧jv= .int .i64 j∧a<=i∧i<=j∧j<=m∧Hid (a<i->ltOf uq d[m]! d[i-1]! =false)∧Hid (j<m->ltOf uq d[m]! d[j]! =true)∧Hid (SWK sD 2 w0 vH 0 d wr)) (λiv jv _=>(intOf jv).toNat-(intOf iv).toNat)
 case atStart=>exact⟨a,m,rfl,rfl,by omega,by omega,by omega,ag (λh=>by omega),ag (λh=>by omega),S0⟩
 case round=>
  obtain⟨i,j,rfl,rfl,hai,hij,hjm,hI,hJ,S1⟩:=hrel;have rs:IntKind.i64.wrap ((i:Int)+(j:Int))=(i:Int)+(j:Int):=aY _ (by omega);by_cases rE:i<j
  ·have l1:(i:Int)<(j:Int):=by omega
   obtain⟨h,hh⟩:=aj ((i+j)/2);have eh:(((i:Int)+(j:Int))/2).toNat=h:=by omega
   have ph:(0:Int)<=((i:Int)+(j:Int))/2:=by omega
   have bh:((i:Int)+(j:Int))/2<(sz:Int):=by omega
   have ba:(m:Int)<(sz:Int):=by omega
   obtain⟨xn,yn,xb,yb,C,⟨x0,x1,y0,y1⟩,hcm,LY⟩:=zez R (by rw[hs,LU.o]) S1.o m h (by rw[<-LU.o];omega) (by rw[<-LU.o];omega);have Hh:=ag hh;have Hcm:=ag hcm;have TK:=ag LY;clear hcm LY hh;go_wp2_with fail
   go_quiet_grown (first|(go_at_fn 129;refine Calls.grown_of (Hcm.o _)))
   have S2:=ag (S1.o.grown nq osq);clear x0 x1 y0 y1 Hcm S1;generalize grow (wr.drewN nq) osq=w2 at S2⊢;clear nq osq;by_cases hC:C<0
   ·have dC:decide (C<0)=true:=by simpa using hC
    rw[dC]at TK;simp only[dC,qi];go_wp2_with fail;have hh:=Hh.o;refine⟨⟨i,h,rfl,by go_num,by omega,by omega,by omega,hI,ag (λ_=>TK.o),S2⟩,by simp[intOf];omega⟩
   have dC:decide (C<0)=false:=by simpa using hC
   rw[dC]at TK;simp only[dC,oL];go_wp2_with fail;have hh:=Hh.o;refine⟨⟨h+1,j,by go_num,rfl,by omega,by omega,by omega,ag (λ_=>by rw[pY];exact TK.o),hJ,S2⟩,by simp[intOf];omega⟩
  obtain rfl:i=j:=by omega
  have l1:¬(i:Int)<(i:Int):=by omega
  go_wp2_with fail
  go_loopw [17] (λkv wr=>∃k:Nat,k<=m-i∧kv= .int .i64 ((m-k:Nat):Int)∧Hid (SWK sD 2 w0 vH 0 (OY d m k) wr)) (λkv _=>(intOf kv).toNat)
  ·exact⟨0,by omega,rfl,S1⟩
  obtain⟨k,hk,rfl,S2⟩:=hrel;obtain⟨p,hp⟩:=aj (m-k);rw[<-hp];by_cases rE:i<p
  ·have l2:(i:Int)<(p:Int):=by omega
   obtain⟨q,hq⟩:=aj (p-1);have hup:OY d m (k+1)=swp (OY d m k) p q:=by rw[hq,hp];rfl
   obtain⟨xn,yn,xb,yb,⟨a0,a1,b0,b1⟩,⟨z0,z1,z2,z3⟩,Yx⟩:=zgC R (by rw[hs,LU.o,DT]) S2.o p q (by rw[DT,<-LU.o];omega) (by rw[DT,<-LU.o];omega);have rp:IntKind.i64.wrap ((p:Int)-1)=(p:Int)-1:=aY _ (by omega);have bp:(p:Int)<(sz:Int):=by omega
   have bp1:(p:Int)-1<(sz:Int):=by omega
   have pp1:(0:Int)<=(p:Int)-1:=by omega
   have ep1:((p:Int)-1).toNat=q:=by omega
   have n1:¬q*2=p*2:=by omega
   have n2:¬q*2=p*2+1:=by omega
   have n3:¬q*2+1=p*2:=by omega
   have n4:¬q*2+1=p*2+1:=by omega
   have Hsw:=ag Yx;have Hq:=ag hq;have Hp:=ag hp;have Hup:=ag hup;clear Yx hq hp hup S2;go_wp2_with fail
   go_big_region_o
   go_wp2_with fail;have hp:=Hp.o;have hq:=Hq.o;refine⟨⟨k+1,by omega,by go_num,ag ?_⟩,by simp[intOf];omega⟩;rw[Hup.o];exact Hsw.o 1
  have l2:¬(i:Int)<(p:Int):=by omega
  have Hp:=ag hp;clear hp;go_wp2_with fail;(try simp only[Exit.inBlock,Exit.then]);refine eF (lQ rfl _ _ _) rfl ?_;have hp:=Hp.o;have Qe:=Hmb.o;refine⟨rfl,_,?_,S2.o⟩;have hR:=zmO d m k (by rw[<-LU.o];omega) (by omega);rw[show m-k=i by omega,<-Qe]at hR;exact zpc Qp Qe HA.o hai (by omega) (by rw[<-LU.o];exact hb) hI.o hJ.o hR
end
