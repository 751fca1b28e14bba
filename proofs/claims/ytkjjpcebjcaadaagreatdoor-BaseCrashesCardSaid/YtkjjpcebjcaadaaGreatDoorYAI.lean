import Derived.Test.YtkjjpcebjcaadaaGreatDoorYAH
import Derived.Lib.Hide
set_option linter.unusedSimpArgs false
set_option linter.unusedVariables false
namespace Go.Cof
open Go.RowKit Go.Proofs.YtkjjpcebjcaadaaGreatDoor
theorem cellOf{w:World}{B:Nat}{c:Array Value}{ty:TypeId}{f:Nat×Nat}(h:w.heap[B]? =some (.cells c ty f))(i:Nat){v:Value}(hv:c[i]? =some v):w.cell? ⟨B,i,none⟩=some v:=by
 simp[World.cell?,h,hv]
def PtIs(w:World)(v:Value):Option Value->Prop
 | none=>v= .pointer none
 | some x=>∃(b:Nat) (a t c:Value) (f:Nat×Nat),v= .pointer (some ⟨b,0,none⟩)∧x= .agg #[a,t,c]∧w.heap[b]? =some (.cells #[a,t,c] 45 f)
theorem PtIs.keep{w w':World}{v:Value}{o:Option Value}(h:PtIs w v o){S:Nat->Prop}(hk:Keep S w w')(hS:∀i,i<w.heap.size->¬S i):PtIs w' v o:=by
 cases o with
 | none=>exact h
 | some x=>
  obtain⟨b,a,t,c,f,h1,h2,h3⟩:=h
  exact⟨b,a,t,c,f,h1,h2,hk.heap h3 (hS b (lt_of_heap h3))⟩
end Go.Cof
namespace Go.Proofs.YtkjjpcebjcaadaaGreatDoor
open Go.RowKit Go.Cof
set_option maxRecDepth 100000
set_option maxHeartbeats 8000000 in
theorem baseNext_any{w:World}{B mb wb na nw:Nat}{A W:List SEnt}{vv dv cv:Value}{ty:TypeId}{f:Nat×Nat}(g:Value->Option Value)
  (hcl:∀w:World,SMapIs w mb na A->Calls Tryz.prog 118 #[.map (some mb)] w λe w'=>e= .returned (.map (some w.heap.size))∧SMapIs w' w.heap.size na A∧Keep NoB w w'∧w'.heap.size=w.heap.size+1)
  (hB:w.heap[B]? =some (.cells #[vv,dv,.map (some mb),.map (some wb),cv] ty f)) (hA:SMapIs w mb na A) (hW:SMapIs w wb nw W) (hg:∀p∈W,PtIs w p.2 (g p.2)) (hsm:na+W.length<1000000):
  Calls Tryz.prog 55 #[.pointer (some ⟨B,0,none⟩)] w λe w'=>∃n,n<=na+W.length∧e= .returned (.map (some w.heap.size))∧SMapIs w' w.heap.size n (nextS A (W.map λp=>(p.1,g p.2)))∧Keep NoB w w':=by
 have hBlt:=lt_of_heap hB
 have hc2:∀w':World,Keep NoB w w'->w'.cell? ⟨B,2,none⟩=some (.map (some mb)):=λw' K=>by
  have:=K.heap hB (λx=>x)
  exact cellOf this 2 rfl
 have hc3:∀w':World,Keep NoB w w'->w'.cell? ⟨B,3,none⟩=some (.map (some wb)):=λw' K=>by
  have:=K.heap hB (λx=>x)
  exact cellOf this 3 rfl
 have c2:=hc2 w (Keep.refl _ _)
 go_enter Tryz.func55,Tryz.ntmps55
 go_wp2_with fail
 refine(hcl w hA).mono ?_
 rintro e w1 ⟨rfl,hm1,K1,hs1⟩
 have c3:=hc3 w1 K1
 have hW1:=hW.keep K1 (λx=>x)
 obtain⟨nb,hnb⟩:∃b,b=w.heap.size:=⟨_,rfl⟩
 rw[<-hnb]at hm1
 have hwb:wb<nb:=by rw[hnb];exact hW.lt
 have hBn:B<nb:=by rw[hnb];exact hBlt
 go_wp2_with (first|(at_range;refine wpList_range_S rfl Tryz.underlying111 _ rfl rfl hW1 ?_;intro w2 hrg2 K2 hs2))
 (try go_frame)
 rw[<-hnb]
 obtain⟨ib,hib⟩:∃b,b=w1.heap.size:=⟨_,rfl⟩
 rw[<-hib]at hrg2⊢
 have hni:nb<ib:=by omega
 have hV:(W.map λp=>(p.1,g p.2)).Pairwise (λp q=>p.1≠q.1):=by rw[List.pairwise_map];exact hW.pairs
 have hAr:=hA.rising
 have hm2:=hm1.keep K2 (λx=>x)
 have hsz:Maps.size (encS W)=W.length:=List.length_map ..
 have KN:Keep NoB w w2:=K1.thenN K2
 rw[hsz]at hrg2
 have Hnb:=Lib.hid hnb
 have Hib:=Lib.hid hib
 have Hss:Hid (w2.heap.size=ib+1):=Lib.hid (by omega)
 have Hws:Hid (w.heap.size<=nb):=Lib.hid (by omega)
 clear hnb hib hs1 hs2 c2 c3 hsz
 go_loopw [] (λwr=>∃(left:Lit->Bool) (cnt n:Nat) (L:List SEnt),Hid (RangingS wr wb ib nw W left cnt)∧Hid (SMapIs wr nb n L)∧Hid (OverIs A (W.map λp=>(p.1,g p.2)) left L)∧Hid (n+cnt<=na+W.length)∧Hid (Keep (λi=>i=ib∨i=nb) w2 wr)) (λwr=>wr.rangeLeft wb ib)
 case atStart=>
  refine⟨_,_,na,A,Lib.hid hrg2,Lib.hid hm2,Lib.hid ⟨hAr,λp hp hl=> ?_,λk _=>rfl⟩,Lib.hid (Nat.le_refl _),Lib.hid (Keep.refl _ _)⟩
  obtain⟨q,hq,rfl⟩:=List.mem_map.1 hp
  exfalso
  have h1:Maps.has (encS W) (strL q.1)=(getS W q.1).isSome:=has_encS W q.1
  rw[getS_mem hW.pairs (v:=q.2) hq]at h1
  rw[h1]at hl
  cases hl
 case round=>
  clear hrg2 hm2
  obtain⟨left,cnt,n,L,hrg,hmr,hov,hn,hK⟩:=hrel
  obtain⟨wo,rfl⟩:∃wo,wo=wr:=⟨_,rfl⟩
  have hrgo:=hrg.out
  go_wp2_with (first|(at_next;refine wpList_next_S rfl _ rfl rfl hrgo ?_ ?_))
  ·intro hl0
   have hfin:=hov.out.finish hAr hV hl0
   have hmo:=hmr.out
   rw[hfin]at hmo
   have Ko:Keep NoB w wo:=(KN.ofN.then hK.out).mono (λi hi e=>by have:=Hws.out;omega)
   have hn2:n<=na+W.length:=by have:=hn.out;omega
   clear hov hrg hrgo hK hl0 hfin hmr hn
   go_wp2_with fail
   go_ret
   exact⟨n,hn2,by rw[<-Hnb.out];rfl,by rw[<-Hnb.out];exact hmo,Ko⟩
  ·intro x c w3 cnt' hxc hxs hlx hrg3 hlt K3 hs3 hen
   have hov3:=hov.out.step hV (p:=(x,g c)) (List.mem_map.2 ⟨(x,c),hxc,rfl⟩)
   have hm3:SMapIs w3 nb n L:=hmr.out.keep K3 (λe=>by have h1:nb=ib:=e;omega)
   have K23:=hK.out.trans (K3.mono (λi hi e=> .inl e)) (λi hi e=>e)
   have hP3:PtIs w3 c (g c):=(hg _ hxc).keep (KN.ofN.then K23) (λi hi e=>by have:=Hws.out;omega)
   have hl1:=hrgo.left_eq
   have hn3:n+cnt'+1<=na+W.length:=by have:=hn.out;omega
   have hlen:1<=W.length:=List.length_pos_of_mem hxc
   clear hrg hrgo hK hmr hov hn K3
   have Hrg3:=Lib.hid hrg3
   have Hov3:=Lib.hid hov3
   have HK23:=Lib.hid K23
   have Hn3:=Lib.hid hn3
   cases hgc:g c with
   | none=>
    rw[hgc]at hP3 Hov3
    obtain rfl:c= .pointer none:=hP3
    obtain⟨w4,hdel,hm4,K4⟩:=hm3.drop Tryz.underlying41 x hxs 0
    clear hrg3 hov3 K23 hn3
    go_wp2_with fail
    go_roundw
    case rel=>exact⟨_,cnt',n,_,Lib.hid (Hrg3.out.keep K4 (λe=>by have h1:wb=nb:=e;omega) (λe=>by have h1:ib=nb:=e;omega)),Lib.hid hm4,Hov3,Lib.hid (by have:=Hn3.out;omega),Lib.hid (HK23.out.trans K4 (λi hi e=> .inr e))⟩
    case measure=>rw[(Hrg3.out.keep K4 (λe=>by have h1:wb=nb:=e;omega) (λe=>by have h1:ib=nb:=e;omega)).left_eq,hl1];exact hlt
   | some v=>
    rw[hgc]at hP3 Hov3
    obtain⟨b,a,t,d,fb,rfl,rfl,hb⟩:=hP3
    have c0:=cellOf hb 0 rfl
    have c1:=cellOf hb 1 rfl
    have c2:=cellOf hb 2 rfl
    obtain⟨w4,hupd,hm4,K4⟩:=hm3.update Tryz.underlying41 (by unfold maxLen;omega) x hxs (.agg #[a,t,d])
    clear hrg3 hov3 K23 hn3
    go_wp2_with fail
    go_roundw
    case rel=>exact⟨_,cnt',(n+1),_,Lib.hid (Hrg3.out.keep K4 (λe=>by have h1:wb=nb:=e;omega) (λe=>by have h1:ib=nb:=e;omega)),Lib.hid hm4,Hov3,Lib.hid (by have:=Hn3.out;omega),Lib.hid (HK23.out.trans K4 (λi hi e=> .inr e))⟩
    case measure=>rw[(Hrg3.out.keep K4 (λe=>by have h1:wb=nb:=e;omega) (λe=>by have h1:ib=nb:=e;omega)).left_eq,hl1];exact hlt
end Go.Proofs.YtkjjpcebjcaadaaGreatDoor
namespace Go.Cof
open Go.RowKit Go.Proofs.YtkjjpcebjcaadaaGreatDoor
theorem next_self{A:List SEnt}(hA:RisesG A):nextS [] (A.map λp=>(p.1,some p.2))=A:=by
 rw[<-nextG_S]
 refine risesG_ext (nextG_rising _ List.Pairwise.nil) hA λk=> ?_
 have hW:(A.map λp=>(p.1,some p.2)).Pairwise (λp q=>p.1≠q.1):=by rw[List.pairwise_map];exact hA.ne
 rw[getG_next k _ [] hW]
 have e:getG (A.map λp=>(p.1,some p.2)) k=(getG A k).map some:=getG_map some A k
 rw[e]
 cases getG A k with
 | none=>rfl
 | some v=>rfl
end Go.Cof
namespace Go.Proofs.YtkjjpcebjcaadaaGreatDoor
open Go.RowKit Go.Cof
set_option maxRecDepth 100000
set_option maxHeartbeats 8000000 in
theorem cloneM_any{w:World}{mb na:Nat}{A:List SEnt}(hA:SMapIs w mb na A)(hsm:A.length<1000000)(hI:∀p∈A,∃a t q n c,p.2= .agg #[.string a,.string t,.slice q n c]):
  Calls Tryz.prog 60 #[.map (some mb)] w λe w'=>e= .returned (.map (some w.heap.size))∧(∃n,n<=A.length∧SMapIs w' w.heap.size n A)∧Keep NoB w w':=by
 have KA:Keep NoB w (w.alloc (Obj.map #[] 0)):=(Keep.refl _ _).alloc _
 have hA1:=hA.keep KA (λx=>x)
 have m1:SMapIs (w.alloc (Obj.map #[] 0)) w.heap.size 0 []:=SMapIs.made w
 have hmm:= @run_makeMap Tryz.prog
 go_enter Tryz.func60,Tryz.ntmps60
 obtain⟨w1,hw1⟩:∃w1,w1=w.alloc (Obj.map #[] 0):=⟨_,rfl⟩
 rw[<-hw1]at KA hA1 m1
 obtain⟨nb,hnb⟩:∃b,b=w.heap.size:=⟨_,rfl⟩
 rw[<-hnb]at m1
 have hmb:mb<nb:=by rw[hnb];exact hA.lt
 have Hw1:=Lib.hid hw1
 clear hw1
 go_wp2_with (first|(at_range;rw[<-Hw1.out];refine wpList_range_S rfl Tryz.underlying41 _ rfl rfl hA1 ?_;intro w2 hrg2 K2 hs2))
 (try go_frame)
 rw[<-hnb]
 obtain⟨ib,hib⟩:∃b,b=w1.heap.size:=⟨_,rfl⟩
 rw[<-hib]at hrg2⊢
 have hni:nb<ib:=by rw[hib];exact m1.lt
 have hV:(A.map λp=>(p.1,some p.2)).Pairwise (λp q=>p.1≠q.1):=by rw[List.pairwise_map];exact hA.pairs
 have hAr:RisesG A:=hA.rising
 have hm2:=m1.keep K2 (λx=>x)
 have hsz:Maps.size (encS A)=A.length:=List.length_map ..
 have KN:Keep NoB w w2:=KA.thenN K2
 have hself:=next_self hAr
 rw[hsz]at hrg2
 have Hnb:=Lib.hid hnb
 have Hib:=Lib.hid hib
 have Hss:Hid (w2.heap.size=ib+1):=Lib.hid (by omega)
 have Hws:Hid (w.heap.size<=nb):=Lib.hid (by omega)
 have HI:=Lib.hid hI
 clear hnb hib hs2 hsz hI hmm
 go_loopw [] (λwr=>∃(left:Lit->Bool) (cnt n:Nat) (L:List SEnt),Hid (RangingS wr mb ib na A left cnt)∧Hid (SMapIs wr nb n L)∧Hid (OverIs [] (A.map λp=>(p.1,some p.2)) left L)∧Hid (n+cnt<=A.length)∧Hid (Keep (λi=>i=ib∨i=nb) w2 wr)) (λwr=>wr.rangeLeft mb ib)
 case atStart=>
  refine⟨_,_,0,[],Lib.hid hrg2,Lib.hid hm2,Lib.hid ⟨List.Pairwise.nil,λp hp hl=> ?_,λk _=>rfl⟩,Lib.hid (by omega),Lib.hid (Keep.refl _ _)⟩
  obtain⟨q,hq,rfl⟩:=List.mem_map.1 hp
  exfalso
  have h1:Maps.has (encS A) (strL q.1)=(getS A q.1).isSome:=has_encS A q.1
  rw[getS_mem hA.pairs (v:=q.2) hq]at h1
  rw[h1]at hl
  cases hl
 case round=>
  clear hrg2 hm2
  obtain⟨left,cnt,n,L,hrg,hmr,hov,hn,hK⟩:=hrel
  obtain⟨wo,rfl⟩:∃wo,wo=wr:=⟨_,rfl⟩
  have hrgo:=hrg.out
  go_wp2_with (first|(at_next;refine wpList_next_S rfl _ rfl rfl hrgo ?_ ?_))
  ·intro hl0
   have hfin:=hov.out.finish List.Pairwise.nil hV hl0
   have hmo:=hmr.out
   rw[hfin,hself]at hmo
   have Ko:Keep NoB w wo:=(KN.ofN.then hK.out).mono (λi hi e=>by have:=Hws.out;omega)
   have hn2:n<=A.length:=by have:=hn.out;omega
   clear hov hrg hrgo hK hl0 hfin hmr hn
   go_wp2_with fail
   go_ret
   exact⟨by rw[<-Hnb.out];rfl,⟨n,hn2,by rw[<-Hnb.out];exact hmo⟩,Ko⟩
  ·intro x c w3 cnt' hxc hxs hlx hrg3 hlt K3 hs3 hen
   have hov3:=hov.out.step hV (p:=(x,some c)) (List.mem_map.2 ⟨(x,c),hxc,rfl⟩)
   have hm3:SMapIs w3 nb n L:=hmr.out.keep K3 (λe=>by have h1:nb=ib:=e;omega)
   have K23:=hK.out.trans (K3.mono (λi hi e=> .inl e)) (λi hi e=>e)
   have hl1:=hrgo.left_eq
   have hn3:n+cnt'+1<=A.length:=by have:=hn.out;omega
   have hlen:1<=A.length:=List.length_pos_of_mem hxc
   obtain⟨a,t,q,nn,cc,hce⟩:=HI.out _ hxc
   have hce:c= .agg #[.string a,.string t,.slice q nn cc]:=hce
   clear hrg hrgo hK hmr hov hn K3
   have K4:Keep NoB w3 (w3.alloc (.cells #[.string a,.string t,.slice q nn cc] 45)):=(Keep.refl _ _).alloc _
   have Hrg3:=Lib.hid (hrg3.keep (K4.ofN (S:=OneB nb)) (λe=>by have h1:mb=nb:=e;omega) (λe=>by have h1:ib=nb:=e;omega))
   have Hov3:=Lib.hid hov3
   have HK23:=Lib.hid (K23.thenN K4)
   have Hn3:=Lib.hid hn3
   obtain⟨w4,hupd,hm4,K5⟩:=(hm3.keep K4 (λx=>x)).update Tryz.underlying41 (by unfold maxLen;omega) x hxs c
   have Hc:=Lib.hid hce
   subst hce
   clear hrg3 hov3 K23 hn3 hm3 K4
   go_wp2_with fail
   go_roundw
   case rel=>exact⟨_,cnt',(n+1),_,Lib.hid (Hrg3.out.keep K5 (λe=>by have h1:mb=nb:=e;omega) (λe=>by have h1:ib=nb:=e;omega)),Lib.hid hm4,Hov3,Lib.hid (by have:=Hn3.out;omega),Lib.hid (HK23.out.trans K5 (λi hi e=> .inr e))⟩
   case measure=>rw[(Hrg3.out.keep K5 (λe=>by have h1:mb=nb:=e;omega) (λe=>by have h1:ib=nb:=e;omega)).left_eq,hl1];exact hlt
end Go.Proofs.YtkjjpcebjcaadaaGreatDoor
