import Derived.Test.YtopbkdebihcmcaaGreatDoorYAH
import Derived.Lib.Hide
set_option linter.unusedSimpArgs false
set_option linter.unusedVariables false
namespace Go.Proofs.YtopbkdebihcmcaaGreatDoor
open Go.RowKit
set_option maxRecDepth 100000
set_option maxHeartbeats 16000000
theorem cellOf{w:World}{B:Nat}{c:Array Value}{ty:TypeId}{f:Nat×Nat}(h:w.heap[B]? =some (.cells c ty f))(i:Nat){v:Value}(hv:c[i]? =some v):w.cell? ⟨B,i,none⟩=some v:=by simp[World.cell?,h,hv]
def Jh(w:World)(v:Value):Option Value->Prop
 | none=>v= .pointer none
 | some x=>∃(b:Nat) (a t c:Value) (f:Nat×Nat),v= .pointer (some ⟨b,0,none⟩)∧x= .agg #[a,t,c]∧w.heap[b]? =some (.cells #[a,t,c] 101 f)
theorem Jh.keep{w w':World}{v:Value}{o:Option Value}(h:Jh w v o){S:Nat->Prop}(hk:Keep S w w')(hS:∀i,i<w.heap.size->¬S i):Jh w' v o:=by
 cases o with
 | none=>exact h
 | some x=>
  obtain⟨b,a,t,c,f,h1,h2,h3⟩:=h;exact⟨b,a,t,c,f,h1,h2,hk.heap h3 (hS b (lt_of_heap h3))⟩
theorem X6{w:World}{B mb wb na nw:Nat}{A W:List rD}{vv dv cv:Value}{ty:TypeId}{f:Nat×Nat}(g:Value->Option Value)
  (hcl:∀w:World,oJ w mb na A->Calls Tryz.prog 150 #[.map (some mb)] w λe w'=>e= .returned (.map (some w.heap.size))∧oJ w' w.heap.size na A∧Keep nM w w'∧w'.heap.size=w.heap.size+1)
  (hB:w.heap[B]? =some (.cells #[vv,dv,.map (some mb),.map (some wb),cv] ty f)) (hA:oJ w mb na A) (hW:oJ w wb nw W) (hg:∀p∈W,Jh w p.2 (g p.2)) (hsm:na+W.length<1000000):
  Calls Tryz.prog 111 #[.pointer (some ⟨B,0,none⟩)] w λe w'=>∃n,n<=na+W.length∧e= .returned (.map (some w.heap.size))∧oJ w' w.heap.size n (FU A (W.map λp=>(p.1,g p.2)))∧Keep nM w w':=by
 have hBlt:=lt_of_heap hB;have hc2:∀w':World,Keep nM w w'->w'.cell? ⟨B,2,none⟩=some (.map (some mb)):=λw' K=>by have:=K.heap hB (λx=>x);exact cellOf this 2 rfl
 have hc3:∀w':World,Keep nM w w'->w'.cell? ⟨B,3,none⟩=some (.map (some wb)):=λw' K=>by have:=K.heap hB (λx=>x);exact cellOf this 3 rfl
 have c2:=hc2 w (ah _ _);go_enter Tryz.func111,Tryz.ntmps111;go_wp2_with fail;refine(hcl w hA).mono ?_;rintro e w1 ⟨rfl,hm1,K1,hs1⟩;have c3:=hc3 w1 K1;have hW1:=hW.keep K1 (λx=>x);obtain⟨nb,hnb⟩:∃b,b=w.heap.size:=⟨_,rfl⟩
 rw[<-hnb]at hm1;have hwb:wb<nb:=by rw[hnb];exact hW.lt
 have hBn:B<nb:=by rw[hnb];exact hBlt
 go_wp2_with (first|(at_range;refine TJ rfl Tryz.underlying90 _ rfl rfl hW1 ?_;intro w2 hrg2 K2 hs2));(try go_frame);rw[<-hnb];obtain⟨ib,hib⟩:∃b,b=w1.heap.size:=⟨_,rfl⟩
 rw[<-hib]at hrg2⊢;have hni:nb<ib:=by omega
 have hV:(W.map λp=>(p.1,g p.2)).Pairwise (λp q=>p.1≠q.1):=by rw[dR];exact hW.pairs
 have hAr:=hA.rising;have hm2:=hm1.keep K2 (λx=>x);have hsz:Maps.size (encS W)=W.length:=aI ..;have KN:Keep nM w w2:=K1.nK K2;rw[hsz]at hrg2;have MP:=Lib.hid hnb;have Hib:=Lib.hid hib;have Hss:Hid (w2.heap.size=ib+1):=Lib.hid (by omega);have Hws:Hid (w.heap.size<=nb):=Lib.hid (by omega);clear hnb hib hs1 hs2 c2 c3 hsz
 go_loopw [] (λwr=>∃(left:Lit->Bool) (cnt n:Nat) (L:List rD),Hid (zu wr wb ib nw W left cnt)∧Hid (oJ wr nb n L)∧Hid (Nr A (W.map λp=>(p.1,g p.2)) left L)∧Hid (n+cnt<=na+W.length)∧Hid (Keep (λi=>i=ib∨i=nb) w2 wr)) (λwr=>wr.rangeLeft wb ib)
 case atStart=>
  refine⟨_,_,na,A,Lib.hid hrg2,Lib.hid hm2,Lib.hid ⟨hAr,λp hp hl=> ?_,λk _=>rfl⟩,Lib.hid (aF _),Lib.hid (ah _ _)⟩;obtain⟨q,hq,rfl⟩:=bf.1 hp;exfalso;have h1:Maps.has (encS W) (Um q.1)=(uM W q.1).isSome:=KI W q.1;rw[Rt hW.pairs (v:=q.2) hq]at h1;rw[h1]at hl;cases hl
 case round=>
  clear hrg2 hm2;obtain⟨left,cnt,n,L,hrg,hmr,hov,hn,hK⟩:=hrel;obtain⟨wo,rfl⟩:∃wo,wo=wr:=⟨_,rfl⟩
  have Us:=hrg.out;go_wp2_with (first|(at_next;refine Ux rfl _ rfl rfl Us ?_ ?_))
  ·intro hl0;have hfin:=hov.out.finish hAr hV hl0;have hmo:=hmr.out;rw[hfin]at hmo;have Ko:Keep nM w wo:=(KN.vN.then hK.out).mono (λi hi e=>by have:=Hws.out;omega);have hn2:n<=na+W.length:=by have:=hn.out;omega
   clear hov hrg Us hK hl0 hfin hmr hn;go_wp2_with fail;go_ret;exact⟨n,hn2,by rw[<-MP.out];rfl,by rw[<-MP.out];exact hmo,Ko⟩
  ·intro x c w3 cnt' hxc hxs hlx hrg3 hlt K3 hs3 hen;have zkE:=hov.out.step hV (p:=(x,g c)) (bf.2 ⟨(x,c),hxc,rfl⟩);have hm3:oJ w3 nb n L:=hmr.out.keep K3 (λe=>by have h1:nb=ib:=e;omega);have K23:=hK.out.trans (K3.mono (λi hi e=> .inl e)) (λi hi e=>e);have hP3:Jh w3 c (g c):=(hg _ hxc).keep (KN.vN.then K23) (λi hi e=>by have:=Hws.out;omega);have hl1:=Us.left_eq;have hn3:n+cnt'+1<=na+W.length:=by have:=hn.out;omega
   have hlen:1<=W.length:=List.length_pos_of_mem hxc;clear hrg Us hK hmr hov hn K3;have zin:=Lib.hid hrg3;have ziq:=Lib.hid zkE;have zny:=Lib.hid K23;have Hn3:=Lib.hid hn3;cases hgc:g c with
   | none=>
    rw[hgc]at hP3 ziq;obtain rfl:c= .pointer none:=hP3;obtain⟨w4,hdel,hm4,K4⟩:=hm3.drop Tryz.underlying89 x hxs 0;clear hrg3 zkE K23 hn3;go_wp2_with fail;go_roundw
    case rel=>exact⟨_,cnt',n,_,Lib.hid (zin.out.keep K4 (λe=>by have h1:wb=nb:=e;omega) (λe=>by have h1:ib=nb:=e;omega)),Lib.hid hm4,ziq,Lib.hid (by have:=Hn3.out;omega),Lib.hid (zny.out.trans K4 (λi hi e=> .inr e))⟩
    case measure=>rw[(zin.out.keep K4 (λe=>by have h1:wb=nb:=e;omega) (λe=>by have h1:ib=nb:=e;omega)).left_eq,hl1];exact hlt
   | some v=>
    rw[hgc]at hP3 ziq;obtain⟨b,a,t,d,fb,rfl,rfl,hb⟩:=hP3;have c0:=cellOf hb 0 rfl;have c1:=cellOf hb 1 rfl;have c2:=cellOf hb 2 rfl;obtain⟨w4,hupd,hm4,K4⟩:=hm3.update Tryz.underlying89 (by unfold maxLen;omega) x hxs (.agg #[a,t,d]);clear hrg3 zkE K23 hn3;go_wp2_with fail;go_roundw
    case rel=>exact⟨_,cnt',(n+1),_,Lib.hid (zin.out.keep K4 (λe=>by have h1:wb=nb:=e;omega) (λe=>by have h1:ib=nb:=e;omega)),Lib.hid hm4,ziq,Lib.hid (by have:=Hn3.out;omega),Lib.hid (zny.out.trans K4 (λi hi e=> .inr e))⟩
    case measure=>rw[(zin.out.keep K4 (λe=>by have h1:wb=nb:=e;omega) (λe=>by have h1:ib=nb:=e;omega)).left_eq,hl1];exact hlt
end Go.Proofs.YtopbkdebihcmcaaGreatDoor
