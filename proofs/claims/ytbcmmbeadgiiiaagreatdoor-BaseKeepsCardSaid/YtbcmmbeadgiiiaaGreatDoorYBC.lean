import Derived.Test.YtbcmmbeadgiiiaaGreatDoorYAG
import Derived.Test.YtbcmmbeadgiiiaaGreatDoorYAU
import Derived.Shelf.SlMaps.Clone
import Derived.Shelf.SlIter.Nil
import Derived.Shelf.SortM.Plain
import Derived.Shelf.SortM.SortNone
set_option linter.all false
namespace Go.Proofs
open YtbcmmbeadgiiiaaGreatDoor
set_option maxRecDepth 100000
set_option maxHeartbeats 16000000
open Go.Shelf
def Tryz.keys54_ren:Go.Shelf.Ren:=⟨fun|7=>54|10=>112|n=>n,fun|23=>105|26=>9|3=>45|28=>127|0=>0|27=>126|33=>24|4=>4|n=>n,fun|n=>n⟩
def Tryz.keys54:Go.Proofs.SlLaysZ.n7 Tryz.prog Tryz.keys54_ren:= {
 mixed:=by kernel_rfl
 f7:=⟨Tryz.f54.name,by decide,Tryz.func54.t (dB some (by kernel_rfl))⟩
 f10:=⟨Tryz.f112.name,by decide,Tryz.func112.t (dB some (by kernel_rfl))⟩
 t0:=Tryz.underlying0
 a0:=Tryz.isAgg0
 z0:=Tryz.sizeOf0
 v0:=Tryz.zeroValue0
 t4:=kU
 a4:=Tryz.isAgg4
 z4:=Tryz.sizeOf4
 v4:=Tryz.zeroValue4
 t23:=iP
 a23:=Tryz.isAgg105
 z23:=Tryz.sizeOf105
 v23:=Tryz.zeroValue105
 t26:=bK
 a26:=Tryz.isAgg9
 z26:=Tryz.sizeOf9
 v26:=Tryz.zeroValue9
 t27:=Tryz.underlying126
 a27:=Tryz.isAgg126
 z27:=Tryz.sizeOf126
 v27:=Tryz.zeroValue126
 t28:=Tryz.underlying127
 a28:=Tryz.isAgg127
 z28:=Tryz.sizeOf127
 v28:=Tryz.zeroValue127
 t33:=Tryz.underlying24
 a33:=Tryz.isAgg24
 z33:=Tryz.sizeOf24
 v33:=Tryz.zeroValue24 }
def Tryz.sorted53_ren:Go.Shelf.Ren:=⟨fun|6=>53|8=>110|9=>111|11=>186|13=>108|12=>187|23=>176|24=>177|14=>239|15=>240|16=>241|17=>242|18=>243|19=>244|20=>245|21=>246|22=>247|25=>286|26=>287|27=>288|28=>289|29=>290|30=>265|31=>321|n=>n,fun|26=>9|28=>127|24=>88|0=>0|3=>3|37=>150|48=>80|50=>87|4=>4|40=>315|39=>314|45=>169|5=>5|9=>9|51=>360|55=>37|57=>386|58=>358|33=>24|n=>n,fun|n=>n⟩
def Tryz.sorted53:Go.Proofs.SlLaysZ.n6 Tryz.prog Tryz.sorted53_ren:= {
 mixed:=by kernel_rfl
 f6:=⟨Tryz.f53.name,by decide,Tryz.func53.t (dB some (by kernel_rfl))⟩
 f8:=⟨Tryz.f110.name,by decide,Tryz.func110.t (dB some (by kernel_rfl))⟩
 f11:=⟨Tryz.f186.name,by decide,Tryz.func186.t (dB some (by kernel_rfl))⟩
 t0:=Tryz.underlying0
 a0:=Tryz.isAgg0
 z0:=Tryz.sizeOf0
 v0:=Tryz.zeroValue0
 t24:=gu
 a24:=Tryz.isAgg88
 z24:=Tryz.sizeOf88
 v24:=Tryz.zeroValue88
 t26:=bK
 a26:=Tryz.isAgg9
 z26:=Tryz.sizeOf9
 v26:=Tryz.zeroValue9
 t28:=Tryz.underlying127
 a28:=Tryz.isAgg127
 z28:=Tryz.sizeOf127
 v28:=Tryz.zeroValue127
 i26:=by kernel_rfl }
def Tryz.sort111_ren:Go.Shelf.Ren:=⟨fun|6=>111|8=>108|9=>187|19=>176|20=>177|21=>239|22=>240|23=>241|24=>242|25=>243|26=>244|27=>245|28=>246|29=>247|36=>286|31=>287|32=>288|37=>289|38=>290|39=>265|41=>321|n=>n,fun|27=>88|29=>9|3=>3|32=>150|26=>88|0=>0|44=>80|46=>87|4=>4|36=>315|35=>314|41=>169|5=>5|9=>9|53=>360|57=>37|63=>386|64=>358|n=>n,fun|n=>n⟩
def Tryz.sort111:Go.Proofs.SlLaysM.n6 Tryz.prog Tryz.sort111_ren:= {
 mixed:=by kernel_rfl
 f6:=⟨Tryz.f111.name,by decide,Tryz.func111.t (dB some (by kernel_rfl))⟩
 f8:=Tryz.func108.t (dB some (by kernel_rfl))
 f9:=⟨Tryz.f187.name,by decide,Tryz.func187.t (dB some (by kernel_rfl))⟩
 f19:=Tryz.func176.t (dB some (by kernel_rfl))
 f20:=Tryz.func177.t (dB some (by kernel_rfl))
 f21:=⟨Tryz.f239.name,by decide,Tryz.func239.t (dB some (by kernel_rfl))⟩
 f22:=⟨Tryz.f240.name,by decide,Tryz.func240.t (dB some (by kernel_rfl))⟩
 f23:=⟨Tryz.f241.name,by decide,Tryz.func241.t (dB some (by kernel_rfl))⟩
 f24:=⟨Tryz.f242.name,by decide,Tryz.func242.t (dB some (by kernel_rfl))⟩
 f25:=⟨Tryz.f243.name,by decide,Tryz.func243.t (dB some (by kernel_rfl))⟩
 f26:=⟨Tryz.f244.name,by decide,Tryz.func244.t (dB some (by kernel_rfl))⟩
 f27:=⟨Tryz.f245.name,by decide,Tryz.func245.t (dB some (by kernel_rfl))⟩
 f28:=⟨Tryz.f246.name,by decide,Tryz.func246.t (dB some (by kernel_rfl))⟩
 f29:=⟨Tryz.f247.name,by decide,Tryz.func247.t (dB some (by kernel_rfl))⟩
 f31:=Tryz.func287.t (dB some (by kernel_rfl))
 f32:=Tryz.func288.t (dB some (by kernel_rfl))
 f36:=⟨Tryz.f286.name,by decide,Tryz.func286.t (dB some (by kernel_rfl))⟩
 f37:=⟨Tryz.f289.name,by decide,Tryz.func289.t (dB some (by kernel_rfl))⟩
 f38:=⟨Tryz.f290.name,by decide,Tryz.func290.t (dB some (by kernel_rfl))⟩
 f39:=⟨Tryz.f265.name,by decide,Tryz.func265.t (dB some (by kernel_rfl))⟩
 f41:=⟨Tryz.f321.name,by decide,Tryz.func321.t (dB some (by kernel_rfl))⟩
 t0:=Tryz.underlying0
 a0:=Tryz.isAgg0
 z0:=Tryz.sizeOf0
 v0:=Tryz.zeroValue0
 t3:=fG
 a3:=Tryz.isAgg3
 z3:=Tryz.sizeOf3
 v3:=Tryz.zeroValue3
 t4:=kU
 a4:=Tryz.isAgg4
 z4:=Tryz.sizeOf4
 v4:=Tryz.zeroValue4
 t5:=eQ
 a5:=Tryz.isAgg5
 z5:=Tryz.sizeOf5
 v5:=Tryz.zeroValue5
 t9:=bK
 a9:=Tryz.isAgg9
 z9:=Tryz.sizeOf9
 v9:=Tryz.zeroValue9
 t26:=gu
 a26:=Tryz.isAgg88
 z26:=Tryz.sizeOf88
 v26:=Tryz.zeroValue88
 t27:=gu
 a27:=Tryz.isAgg88
 z27:=Tryz.sizeOf88
 v27:=Tryz.zeroValue88
 t29:=bK
 a29:=Tryz.isAgg9
 z29:=Tryz.sizeOf9
 v29:=Tryz.zeroValue9
 t32:=Tryz.underlying150
 a32:=Tryz.isAgg150
 z32:=Tryz.sizeOf150
 v32:=Tryz.zeroValue150
 t35:=Tryz.underlying314
 a35:=Tryz.isAgg314
 z35:=Tryz.sizeOf314
 v35:=Tryz.zeroValue314
 t36:=Tryz.underlying315
 a36:=Tryz.isAgg315
 z36:=Tryz.sizeOf315
 v36:=Tryz.zeroValue315
 t41:=Tryz.underlying169
 a41:=Tryz.isAgg169
 z41:=Tryz.sizeOf169
 v41:=Tryz.zeroValue169
 t44:=lM
 a44:=Tryz.isAgg80
 z44:=Tryz.sizeOf80
 v44:=Tryz.zeroValue80
 t46:=Tryz.underlying87
 a46:=Tryz.isAgg87
 z46:=Tryz.sizeOf87
 v46:=Tryz.zeroValue87
 t53:=Tryz.underlying360
 a53:=Tryz.isAgg360
 z53:=Tryz.sizeOf360
 v53:=Tryz.zeroValue360
 t57:=Tryz.underlying37
 a57:=Tryz.isAgg37
 z57:=Tryz.sizeOf37
 v57:=Tryz.zeroValue37
 t63:=Tryz.underlying386
 a63:=Tryz.isAgg386
 z63:=Tryz.sizeOf386
 v63:=Tryz.zeroValue386
 t64:=Tryz.underlying358
 a64:=Tryz.isAgg358
 z64:=Tryz.sizeOf358
 v64:=Tryz.zeroValue358 }
def Tryz.cloneMap_ren:Go.Shelf.Ren:=⟨fun|5=>102|7=>166|n=>n,fun|23=>105|25=>9|3=>45|4=>4|20=>20|n=>n,fun|n=>n⟩
def Tryz.cloneMap:Go.Proofs.SlLaysW.n5 Tryz.prog Tryz.cloneMap_ren:= {
 mixed:=by kernel_rfl
 f5:=⟨Tryz.f102.name,by decide,Tryz.func102.t (dB some (by kernel_rfl))⟩
 f7:=Tryz.func166.t (dB some (by kernel_rfl))
 t4:=kU
 a4:=Tryz.isAgg4
 z4:=Tryz.sizeOf4
 v4:=Tryz.zeroValue4
 t20:=Tryz.underlying20
 a20:=Tryz.isAgg20
 z20:=Tryz.sizeOf20
 v20:=Tryz.zeroValue20
 t23:=iP
 a23:=Tryz.isAgg105
 z23:=Tryz.sizeOf105
 v23:=Tryz.zeroValue105 }
end Go.Proofs
namespace Go.Proofs.YtbcmmbeadgiiiaaGreatDoor
open Go.RowKit Tryz
set_option maxRecDepth 100000
set_option maxHeartbeats 16000000
variable{qE:Int}{L:List (af×sW)}{l:List sW}{A:List vP}{w:ax}
section
open Go.Maps Go.Sort Go.Shelf
def zfp{mb n:Nat}(h:sF w mb n A):
  ae 102 #[.map (some mb)] w λe w'=>e= .returned (.map (some w.heap.size))∧sF w' w.heap.size n A∧ak w w'∧w'.heap.size=w.heap.size+1:=by
 obtain⟨es,clock,hb,F,hs,hD⟩:=h;refine(AnyW.maps_Clone cloneMap mb es clock w hb).m ?_;rintro e w' ⟨rfl,rfl⟩;exact⟨rfl,⟨es,clock,(MapKept.heap_alloc w _).1,F,hs,hD⟩,(ah _ _).alloc _,by simp⟩
def zjo(m:Nat):AnyZ.SortsIn prog sorted53_ren Fence.wide m:=
 ⟨λvH off cap ss W hH hblk uF=>lI.2 (AnyM.slices_Sort_string sort111 vH off cap ss W hH hblk uF),
   λp cap W=>lI.2 (AnyM.slices_Sort_string_none sort111 p cap W)⟩
def U0(mb:Option Nat)(W:ax):CallsIn Fence.wide 5 prog 54 #[.map mb] W λe w'=>e= .returned (.func (.func 112) #[] #[.pointer (some ⟨W.heap.size,0,none⟩)])∧w'=W.alloc (.cells #[.map mb] 105):=
 AnyZ.keys_in keys54 Fence.wide 5 trivial rfl mb W
def P8{b nn:Nat}(ru:sF w b nn A)(zng:A.length<=1000000):
  CallsIn Fence.wide 5 prog 53 #[.func (.func 112) #[] #[.pointer (some ⟨w.heap.size,0,none⟩)]] (w.alloc (.cells #[.map (some b)] 105)) λe w'=>∃(v:ay) (ss:List (List UInt8)),e= .returned v∧ss.Perm (strKeys (Go.Proofs.YtbcmmbeadgiiiaaGreatDoor.encS A))∧
   w'.ownsRow (w.alloc (.cells #[.map (some b)] 105)).heap.size 9 1 v ss.length ((ss.mergeSort (λx y=>decide (x<=y))).map encStr)∧(v= .slice none 0 0↔ss= [])∧Below (w.alloc (.cells #[.map (some b)] 105)).heap.size (w.alloc (.cells #[.map (some b)] 105)) w':=by
 have ru:w.ownsMap prog 9 zqp b nn (Go.Proofs.YtbcmmbeadgiiiaaGreatDoor.encS A):=ru;have Zr:=ru.lt;have uF:Maps.size (Go.Proofs.YtbcmmbeadgiiiaaGreatDoor.encS A)=A.length:=aP ..;have zyr:Maps.size (Go.Proofs.YtbcmmbeadgiiiaaGreatDoor.encS A)<=maxLen:=by rw[uF];unfold maxLen;omega
 have Gi:Maps.size (Go.Proofs.YtbcmmbeadgiiiaaGreatDoor.encS A)*16<=140737488355328:=by rw[uF];omega
 have zzs:SeqGives Fence.wide 2 prog 112 #[.pointer (some ⟨w.heap.size,0,none⟩)] encStr (λss=>ss.Perm (strKeys (Go.Proofs.YtbcmmbeadgiiiaaGreatDoor.encS A))) (Maps.size (Go.Proofs.YtbcmmbeadgiiiaaGreatDoor.encS A)) (w.alloc (.cells #[.map (some b)] 105)):=
  AnyZ.keys_gives (ρ:=keys54_ren) { keys54 with } Fence.wide _ trivial rfl (by omega) w.heap.size b nn (Go.Proofs.YtbcmmbeadgiiiaaGreatDoor.encS A) _ (by simp) (by simp) (by obtain⟨es,clock,hb,Ft,hs,hD⟩:=ru;exact⟨es,clock,(nJ _ _ b Zr).t hb,Ft,hs,hD⟩)
 exact AnyZ.sorted_in sorted53 Fence.wide 5 trivial trivial trivial trivial rfl (by omega) (zjo _) (enters_of func111 (by kernel_rfl) rfl) 112 #[.pointer (some ⟨w.heap.size,0,none⟩)] trivial (enters_of func112 (by kernel_rfl) rfl) _ _ zyr Gi _ zzs
end
section
open Go.Maps Go.Sort Go.Shelf Go.Proofs
def FZ:∀a b:List UInt8,bytesBefore a b=true->a<b
 | [],[],h=>by simp[bytesBefore]at h
 | [],_::_,_=>List.nil_lt_cons _ _
 | _::_,[],h=>by simp[bytesBefore]at h
 | x::a,y::b,h=>by
  simp only[bytesBefore,fA,bI,aW,jZ]at h;rw[List.cons_lt_cons_iff];rcases h with h|⟨h1,h2⟩
  ·exact .inl h
  exact .inr ⟨h1,FZ a b h2⟩
def O6(A:List vP):List (List UInt8):=A.map λp=>p.1.data.toList
def PI(A:List vP):strKeys (Go.Proofs.YtbcmmbeadgiiiaaGreatDoor.encS A)=O6 A:=by show(A.map IK).map (λp=>strOf p.1)=_;rw[iy];rfl
def UI(hr:A.Pairwise (λp q=>Qk p.1 q.1=true)){ss:List (List UInt8)}(hp:ss.Perm (strKeys (Go.Proofs.YtbcmmbeadgiiiaaGreatDoor.encS A))):(ss.mergeSort (λx y=>decide (x<=y)))=O6 A:=by
 rw[PI]at hp;have tr:∀a b c:List UInt8,decide (a<=b)=true->decide (b<=c)=true->decide (a<=c)=true:=λa b c h1 h2=>by simp only[aW]at h1 h2⊢;exact List.le_trans h1 h2
 have tto:∀a b:List UInt8,(decide (a<=b)||decide (b<=a))=true:=λa b=>by simp only[fA,aW];exact List.le_total a b
 have hs:(O6 A).Pairwise (λa b=>decide (a<=b)=true):=by
  unfold O6;rw[fE];refine hr.imp fun {p q} h=> ?_
  simp only[aW];exact List.le_of_lt (FZ _ _ h)
 refine nP (le:=λa b=>decide (a<=b)=true) (λa b _ _ h1 h2=> ?_) (oq tr tto ss) hs ((jC ss _).t hp);simp only[aW]at h1 h2;exact List.le_antisymm h1 h2
def X7(A:List vP):(O6 A).map encStr=(A.map (·.1)).map Value.string:=by unfold O6;rw[iy,iy];refine gU λp _=> ?_;simp[encStr,Function.comp]
def zds(A:List vP):(O6 A).length=(A.map (·.1)).length:=by simp[O6]
end
section
open Go.Lib
structure sH where
 qE:Nat
 now:List (af×sW)
 wait:List (af×Option sW)
def rU(L:List (af×sW)):List sW:=L.map (·.2)
def sH.next(b:sH):List (af×sW):=uY b.now b.wait
structure F9(b:sH):Prop where
 rn:wK b.now
 rw:wK b.wait
 now:∀p∈b.now,p.1=p.2.1∧uJ p.2 b.qE=true
 wait:∀p∈b.wait,∀x,p.2=some x->p.1=x.1∧uJ x b.qE=true
 len:b.now.length<=60
 zb2:b.next.length<=60
 zero:b.qE=0->b.now= []∧b.wait= []
 eight:b.qE<=8
def F9.FC{b:sH}(h:F9 b):∀p∈b.next,p.1=p.2.1∧uJ p.2 b.qE=true:=
 Wj (λ(k:af) (x:sW)=>k=x.1∧uJ x b.qE=true) b.wait h.now (λp hp x hx=>h.wait p hp x hx)
def F9.Fq{b:sH}(h:F9 b):wK b.next:=GU b.wait h.rn
def XL:∀ {L:List (af×sW)},wK L->(∀p∈L,p.1=p.2.1)->yC (rU L)=true
 | [],_,_=>rfl
 | [p],_,_=>rfl
 | p::q::L,h,hn=>by have h1:=dR.1 h;show(decide (p.2.1.data.toList<q.2.1.data.toList)&&yC (rU (q::L)))=true;rw[bI];refine⟨?_,XL h1.2 λr hr=>hn r (bD _ hr)⟩;have h2:=h1.1 q (bW ..);rw[hn p (bW ..),hn q (bD _ (bW ..))]at h2;exact bF (FZ _ _ h2)
def VV{qE:Nat}(h1:1<=qE)(h8:qE<=8)(hr:wK L)(hl:L.length<=60)(hn:∀p∈L,p.1=p.2.1∧uJ p.2 qE=true):uZ qE (rU L)=true:=by simp only[uZ,bI,aW];refine⟨⟨⟨⟨by omega,by omega⟩,by rw[rU,aP];exact hl⟩,?_⟩,XL hr λp hp=>(hn p hp).1⟩;rw[gV];intro x hx;obtain⟨p,hp,rfl⟩:=bY.1 hx;exact(hn p hp).2
def zkP:∀ns:List Int,(∀n∈ns,-10000<n∧n<10000)->((ns.map Lib.itoa).flatMap (λq=>(32:UInt8)::q)).length<=6*ns.length
 | [],_=>aS _
 | n::ns,h=>by rw[bH,dZ,aN,bf,bf];have h1:=Az n (h n bW);have h2:=zkP ns λm hm=>h m (bD _ hm);omega
def Nu{s:af}(h:zF s=true):s.size<=10:=by simp only[zF,bI,aW]at h;exact h.1.1.2
def zdw{x:sW}(h:uJ x qE=true):(Aq x).length<=70:=by
 simp only[uJ,bI,fA,aW,eU]at h;obtain⟨⟨⟨⟨⟨h1,h2⟩,h3⟩,h4⟩,h5⟩,h6⟩:=h;have hn:x.1.data.toList.length<=10:=Nu h1;have ht:x.2.1.data.toList.length<=10:=by
  rcases h2 with h2|h2
  ·rw[h2];exact fP _
  exact Nu h2
 have hs:=zkP x.2.2 (zdH h6);rw[Aq,DY,aN,aN,dZ,aN,bf];simp only[bf,cZ];omega
def zbg:∀(l:List sW) (qE:Int),(∀x∈l,uJ x qE=true)->(l.flatMap Aq).length<=70*l.length
 | [],_,_=>aS _
 | x::l,qE,h=>by rw[dZ,aN,bf];have h1:=zdw (h x bW);have h2:=zbg l qE λy hy=>h y (bD _ hy);omega
def SK(h:uZ qE l=true):(xW qE l).length<=6400:=by simp only[uZ,bI,aW]at h;obtain⟨⟨⟨⟨h1,h2⟩,h3⟩,h4⟩,h5⟩:=h;have ha:=zbg l qE (gV.1 h4);have hb:=Az qE (by omega);have hc:Ec.length=4:=rfl;rw[xW,aN,aN,aN];simp only[bf,cZ];omega
def Bg(T:List af):List UInt8:=T.flatMap λt=>t.data.toList
def uC(s:af):List af:=(List.range 32).map (E5 s)
def zia{s:af}(h:s.size<=6400):Bg (uC s)=s.data.toList:=zcJ h
def zZ(b:sH)(x:sW):Int×sH:=
 if b.qE=0 then(6,b)
 else if uJ x b.qE=false then(1,b)
 else if uM b.next x.1=none∧b.next.length=60 then(12,b)
 else(0,{ b with wait:=yQ b.wait x.1 (some x) })
def EX(b:sH)(k:af):Int×sH:=
 if uM b.next k=none then(7,b)else(0,{ b with wait:=yQ b.wait k none })
def ZF(b:sH):sH:= { b with wait:= [] }
def zcW(b:sH):sH:= { b with now:=b.next,wait:= [] }
def yz(b:sH)(d:Int):Int×sH:=
 if b.qE≠0 then(6,b)else if d<1∨8<d then(1,b)else(0,{ b with qE:=d.toNat })
def KT{b:sH}(h:F9 b)(k:af)(o:Option sW):uY b.now (yQ b.wait k o)=YC b.next (k,o):=zpH h.rn h.rw k o
def JE{α:Type}{L:List (af×α)}(hr:wK L){k:af}{v u:α}(h:uM L k=some u):(yQ L k v).length=L.length:=by
 rw[yQ,Us];have hp:=hr.ne;clear hr
 induction L with
 | nil=>cases h
 | cons p L ih=>
  have YR:=dR.1 hp;unfold OO;rw[ng];by_cases e:p.1=k
  ·have Dv:L.filter (λp=> !decide (p.1=k))=L:=by
    rw[pK];intro q hq;have:=YR.1 q hq;simp only[eU,gq];exact λx=>this (e.t x.s)
   rw[bF e,Dv];simp
  have h2:uM L k=some u:=by
   unfold uM at h⊢;rw[eP,cO e]at h;exact h
  have h3:=ih h2 YR.2;unfold OO at h3;rw[cO e];simp only[oL,if_true,bf];omega
def F9.put{b:sH}(h:F9 b)(x:sW):F9 (zZ b x).2:=by
 unfold zZ;split
 ·exact h
 split
 ·exact h
 split
 ·exact h
 rename_i h0 h1 h2;have h1:uJ x b.qE=true:=by simpa using h1
 refine⟨h.rn,FX h.rw _ _,h.now,?_,h.len,?_,λe=>absurd e h0,h.eight⟩
 ·intro p hp y hy;rcases Po hp with rfl|hp
  ·obtain rfl:x=y:=aU hy;exact⟨rfl,h1⟩
  exact h.wait p hp.1 y hy
 show(uY b.now (yQ b.wait x.1 (some x))).length<=60;rw[KT h];show(yQ b.next x.1 x).length<=60;have h60:=h.zb2;cases hg:uM b.next x.1 with
 | none=>
  have h3:b.next.length≠60:=λe=>h2 ⟨hg,e⟩;have:=zpy b.next x.1 x;omega
 | some u=>
  rw[JE h.Fq hg];exact h60
def F9.del{b:sH}(h:F9 b)(k:af):F9 (EX b k).2:=by
 unfold EX;split
 ·exact h
 rename_i Bc;refine⟨h.rn,FX h.rw _ _,h.now,?_,h.len,?_,λe=> ?_,h.eight⟩
 ·intro p hp y hy;rcases Po hp with rfl|hp
  ·cases hy
  exact h.wait p hp.1 y hy
 ·show(uY b.now (yQ b.wait k none)).length<=60;rw[KT h];exact bQ (gQ ..) h.zb2
 exfalso;have h0:=h.zero e;apply Bc;unfold sH.next;rw[h0.1,h0.2];rfl
def F9.zy6{b:sH}(h:F9 b):F9 (ZF b):=
 ⟨h.rn,List.Pairwise.nil,h.now,(λp hp=>by cases hp),h.len,h.len,λe=>⟨(h.zero e).1,rfl⟩,h.eight⟩
def F9.done{b:sH}(h:F9 b):F9 (zcW b):=
 ⟨h.Fq,List.Pairwise.nil,h.FC,(λp hp=>by cases hp),h.zb2,h.zb2,λe=>⟨by have h0:=h.zero e;show b.next= [];unfold sH.next;rw[h0.1,h0.2];rfl,rfl⟩,h.eight⟩
def F9.make{b:sH}(h:F9 b)(d:Int):F9 (yz b d).2:=by
 unfold yz;split
 ·exact h
 split
 ·exact h
 rename_i h0 h1;have h0:b.qE=0:=by omega
 have hz:=h.zero h0;refine⟨h.rn,h.rw,λp hp=> ?_,λp hp=> ?_,h.len,h.zb2,λe=>hz,by show d.toNat<=8;omega⟩
 ·rw[show({ b with qE:=d.toNat } :sH).now=b.now from rfl,hz.1]at hp;cases hp
 rw[show({ b with qE:=d.toNat } :sH).wait=b.wait from rfl,hz.2]at hp;cases hp
def Hu(b:sH):af:=⟨(xW b.qE (rU b.next)).toArray⟩
def F9.print{b:sH}(h:F9 b)(h1:1<=b.qE):uZ b.qE (rU b.next)=true:=VV h1 h.eight h.Fq h.zb2 h.FC
def F9.text{b:sH}(h:F9 b)(h1:1<=b.qE):(Hu b).size<=6400:=SK (h.print h1)
def VE(T:List af)(b:sH):Prop:=(Bg T= []∧b.now= [])∨(1<=b.qE∧Bg T=xW b.qE (rU b.now))
def uP(b:sH)(T:List af):sH:=if Bg T= []then⟨0,[],[]⟩else⟨b.qE,b.now,[]⟩
def zme{b:sH}(h:F9 b)(h1:1<=b.qE):VE (uC (Hu b)) (zcW b):=by refine .inr ⟨h1,?_⟩;rw[zia (h.text h1)];simp[Hu,zcW,sH.next]
def zI(l:List sW)(k:af):List sW:=l.filter λx=> !decide (x.1=k)
def AU(h:∀p∈L,p.1=p.2.1)(k:af):zI (rU L) k=rU (OO L k):=by
 unfold zI rU OO;rw[mM]
 congr 1
 refine mO λp hp=> ?_;show(!decide (p.2.1=k))=_;rw[h p hp]
def ltN(a b:sW):Bool:=Qk a.1 b.1
def zoS(hr:wK L)(h:∀p∈L,p.1=p.2.1):(rU L).Pairwise λa b=>ltN a b=true:=by
 unfold rU;rw[fE];refine hr.imp_of_mem fun {a b} ha hb hab=> ?_
 show Qk a.2.1 b.2.1=true;rw[<-h a ha,<-h b hb];exact hab
def zin(a b:List UInt8)(h:bytesBefore a b=true):bytesBefore b a=false:=by
 cases hb:bytesBefore b a with
 | false=>rfl
 | true=>have:=bytes_trans _ _ _ h hb;rw[bytes_irrefl]at this;cases this
def zio(a b:List UInt8)(h1:bytesBefore a b=false)(h2:bytesBefore b a=false):a=b:=
 Decidable.byContradiction λhn=>by have:=bytes_total a b hn h1;rw[h2]at this;cases this
def zl8(hr:wK L)(h:∀p∈L,p.1=p.2.1)(hp:l.Perm (rU L))(hs:l.Pairwise λa b=>ltN b a=false):l=rU L:=by
 have hu:=zoS hr h;refine nP (le:=λa b=>ltN b a=false) ?_ hs (hu.imp fun {a b} hab=>zin _ _ hab) hp;intro a b ha hb h1 h2;have ha:=hp.mem_iff.1 ha;have e:a.1=b.1:=by have:=zio _ _ h2 h1;apply jk;exact iR.1 this
 obtain⟨p,YR,rfl⟩:=bY.1 ha;obtain⟨q,hq1,rfl⟩:=bY.1 hb;have e2:p.1=q.1:=by rw[h p YR,h q hq1];exact e
 have:p=q:=by
  obtain⟨i,hi⟩:=iM YR;obtain⟨j,hj⟩:=iM hq1;obtain⟨hi1,hi2⟩:=aT.1 hi;obtain⟨hj1,Tv⟩:=aT.1 hj;have hpw:=iO.1 hr;rcases Nat.lt_trichotomy i j with hl|hl|hl
  ·have:=hpw i j hi1 hj1 hl;rw[hi2,Tv]at this;exact absurd e2 (VJ this)
  ·subst hl;exact hi2.s.t Tv
  have:=hpw j i hj1 hi1 hl;rw[hi2,Tv]at this;exact absurd e2.s (VJ this)
 rw[this]
def zpv{b:sH}(h:F9 b)(x:sW):(zI (rU b.next) x.1++ [x]).Perm (rU (yQ b.next x.1 x)):=by rw[AU (λp hp=>(h.FC p hp).1)];refine lu.t ?_;show((x.1,x)::OO b.next x.1|>.map (·.2)).Perm _;exact((KY x.1 x (OO b.next x.1)).map _).s
def zpw{b:sH}(h:F9 b)(x:sW)(h0:b.qE≠0)(h1:uJ x b.qE=true)(h2:(zI (rU b.next) x.1).length<60):zZ b x=(0,(zZ b x).2)∧rU (zZ b x).2.next=rU (yQ b.next x.1 x):=by
 have hf:¬(uM b.next x.1=none∧b.next.length=60):=by rintro⟨e1,e2⟩;rw[AU (λp hp=>(h.FC p hp).1),WG e1,rU,aP]at h2;omega
 have e:zZ b x=(0,{ b with wait:=yQ b.wait x.1 (some x) }):=by unfold zZ;rw[aV h0,aV (by rw[h1];decide),aV hf]
 rw[e];refine⟨rfl,?_⟩;show rU (uY b.now (yQ b.wait x.1 (some x)))=_;rw[KT h];rfl
def zpx{b:sH}(h:F9 b)(x:sW)(h0:b.qE≠0)(h1:uJ x b.qE=true)(h2:60<=(zI (rU b.next) x.1).length):zZ b x=(12,b):=by
 have hlen:=h.zb2;have hf:uM b.next x.1=none∧b.next.length=60:=by
  rw[AU (λp hp=>(h.FC p hp).1),rU,aP]at h2;have hle:(OO b.next x.1).length<=b.next.length:=gQ ..;refine⟨?_,by omega⟩;cases hg:uM b.next x.1 with
  | none=>rfl
  | some u=>
   have h3:=JE h.Fq (v:=x) hg;rw[yQ,Us]at h3;omega
 unfold zZ;rw[aV h0,aV (by rw[h1];decide),bu hf]
def zrX{b:sH}(h:F9 b)(k:af):(zI (rU b.next) k).length=(rU b.next).length↔uM b.next k=none:=by
 rw[AU (λp hp=>(h.FC p hp).1),rU,rU,aP,aP];constructor
 ·intro e;cases hg:uM b.next k with
  | none=>rfl
  | some u=>
   have h3:=JE h.Fq (v:=u) hg;rw[yQ,Us]at h3;omega
 intro e;rw[WG e]
def zp7{b:sH}(h:F9 b)(k:af)(h1:uM b.next k≠none):EX b k=(0,(EX b k).2)∧rU (EX b k).2.next=zI (rU b.next) k:=by
 have e:EX b k=(0,{ b with wait:=yQ b.wait k none }):=by unfold EX;rw[aV h1]
 rw[e];refine⟨rfl,?_⟩;show rU (uY b.now (yQ b.wait k none))=_;rw[KT h,AU (λp hp=>(h.FC p hp).1)];rfl
end
