import Derived.Test.YtopbkdebihcmcaaGreatDoorYAN
import Derived.Deep.MidRow
set_option linter.unusedSimpArgs false
set_option linter.unusedVariables false
namespace Go.Proofs.YtopbkdebihcmcaaGreatDoor
open Go.RowKit
set_option maxRecDepth 100000
set_option maxHeartbeats 16000000
def qx(sure:List af)(l:List (Nat×af)):List af:=l.foldl (λacc p=>acc.set p.1 p.2) sure
theorem yQ(l:List (Nat×af)):∀sure:List af,(qx sure l).length=sure.length:=by
 induction l with
 | nil=>intro sure;rfl
 | cons p l ih=>intro sure;rw[qx,dO,<-qx,ih,dN]
theorem G6(sure:List af)(l:List (Nat×af))(k:Nat)(hk:k<l.length):qx sure (l.take (k+1))=(qx sure (l.take k)).set (l.getD k (0,⟨#[]⟩)).1 (l.getD k (0,⟨#[]⟩)).2:=by
 have e:l.take (k+1)=l.take k++ [l.getD k (0,⟨#[]⟩)]:=by rw[aT hk,ax,aC hk];rfl
 rw[e,qx,qx,jK];rfl
theorem E8(l:List (Nat×af)):∀(k:Nat),k<l.length->(uu l)[2*k]? =some (.int .i64 ((l.getD k (0,⟨#[]⟩)).1:Int))∧(uu l)[2*k+1]? =some (.string (l.getD k (0,⟨#[]⟩)).2):=by
 induction l with
 | nil=>intro k hk;simp at hk
 | cons p l ih=>
  intro k hk;cases k with
  | zero=>exact⟨rfl,rfl⟩
  | succ k=>
   have h:=ih k (by simpa using hk);have e:uu (p::l)= .int .i64 (p.1:Int):: .string p.2::uu l:=rfl;rw[e,show 2*(k+1)=2*k+1+1 by omega,show 2*k+1+1+1=(2*k+1)+1+1 by omega]
   simpa using h
theorem qm.Qi{w:World}{D S:Nat}{wv:Value}{sure:List af}{wait:List (Nat×af)}{oD:Int}(h:qm w D S wv sure wait oD)(i:Nat)(_:i<66)(s:af):
  qm (w.setCell ⟨S,i,none⟩ (.string s)) D S wv (sure.set i s) wait oD:=by
 have K:Keep (nY S) w (w.setCell ⟨S,i,none⟩ (.string s)):=(ah _ _).set1 _ _;obtain⟨c,h2,h3⟩:=h.head;obtain⟨cur,h4,h5⟩:=h.row;have hcs:66<=cur.size:=by have:=dK List.length h5;rw[bG,strCells,aI,h.len,mG]at this;omega
 refine⟨⟨c,K.heap h2 (λe=>h.apart.1 e.symm),h3⟩,⟨cur.setIfInBounds i (.string s),?_,?_⟩,h.waits.keep K (λb hb=>(h.apart.2 b hb).2),by rw[dN];exact h.len,h.lo,h.hi,h.apart,h.small,h.ats⟩
 ·have hlt:=lt_of_heap h4;have h':w.heap[S]= .cells cur 9 (0,0):=by simpa [bW hlt]using h4
  show(w.heap.modify S _)[S]? =_;rw[bW (by simpa using hlt),eu,h'];rfl
 ·rw[Array.toList_setIfInBounds,List.take_set,h5,strCells,strCells,kL]
theorem qm.block{w:World}{D S:Nat}{wv:Value}{sure:List af}{wait:List (Nat×af)}{oD:Int}(h:qm w D S wv sure wait oD)(i:Nat)(hi:i<66):
  w.cell? ⟨S,i,none⟩=some (.string (sure.getD i ⟨#[]⟩))∧w.frozen? ⟨S,i,none⟩=false:=by
 obtain⟨cur,h4,h5⟩:=h.row;refine⟨?_,by simp[World.frozen?,h4]⟩;rw[aO w S i cur 9 (0,0) h4];have h1:(cur.toList.take 66)[i]? =(strCells sure)[i]? :=by rw[h5]
 rw[fG,aP hi]at h1;simp only[iU]at h1;rw[h1,strCells,bC,ax,aC (by rw[h.len];exact hi)];rfl
theorem ziH{w:World}{D S:Nat}{wv:Value}{sure:List af}{wait:List (Nat×af)}{oD:Int}(h:qm w D S wv sure wait oD)(hf:oD≠0):
  ae 199 #[.pointer (some ⟨D,0,none⟩)] w λe w'=>e= .returned .nilIface∧qm w' D S (.slice none 0 0) (qx sure wait) [] (wE oD)∧Keep (qg D S wv) w w':=by
 obtain⟨p,c,hpc⟩:∃p c,wv= .slice p wait.length c:=by
  rcases h.waits.2 with⟨hv,h0⟩|⟨g,cap,cur,fz,hv,_⟩
  ·exact⟨_,_,by rw[hv,h0]⟩
  ·exact⟨_,_,hv⟩
 subst hpc;obtain⟨n,hn⟩:∃n,n=wait.length:=⟨_,rfl⟩
 rw[<-hn]at h;rw[<-hn];have hn6:n<=1000000:=by rw[hn];exact h.small
 have Hn:=ag hn;clear hn;have hb:=KT h;rw[show decide (oD≠0)=true by simp;exact hf]at hb;have Hf:=ag hf;clear hf;go_enter Tryz.func199,Tryz.ntmps199;go_wp2_with fail;refine hb.mono ?_;clear hb;rintro e w1 ⟨rfl,h1,K1⟩;have cw:=h1.cell1.1;go_wp2_with fail;refine pK (λw2=>qm w2 D S (.slice p n c) (qx sure (wait.take 0)) wait (wE oD)∧Keep (qg D S (.slice p n c)) w w2) ⟨h1,K1.mono (λb _ hb=>Or.inl hb)⟩ ?_;clear cw h1 K1;intro w2 hw2
 go_loopw [14] (λi wr=>∃k:Nat,k<=n∧i= .int .i64 k∧qm wr D S (.slice p n c) (qx sure (wait.take k)) wait (wE oD)∧Keep (qg D S (.slice p n c)) w wr) (λi _=>n-(intOf i).toNat)
 case atStart=>exact⟨0,by omega,rfl,hw2⟩
 case round=>
  clear hw2 w2;obtain⟨k,hk,rfl,hd,K⟩:=hrel;by_cases hlt:k<n
  ·have j1:decide (k<n)=true:=by simp;omega
   have hw':=hd.waits;rw[<-Hn.out]at hw';obtain⟨g,cap,hv,_⟩:=hw'.some (by omega);cases hv;obtain⟨x,hx⟩:∃x,x=wait.getD k (0,⟨#[]⟩):=⟨_,rfl⟩
   obtain⟨q,s⟩:=x;have hq:q<66:=by
    have hm:(q,s)∈wait:=by rw[hx,ax,aC (by rw[<-Hn.out];exact hlt)];exact fD _
    exact hd.ats _ hm
   have hcw:=E8 wait k (by rw[<-Hn.out];exact hlt);rw[<-hx]at hcw;have hap:=G6 sure wait k (by rw[<-Hn.out];exact hlt);rw[<-hx]at hap;have hcell:=hd.waits.cells (g:=g) rfl;have hadd:∀m,(⟨g,0,none⟩:Addr).add m=⟨g,m,none⟩:=λm=>by unfold Addr.add;split<;>simp_all
   have cq:wr.cell? ⟨g,k*2,none⟩=some (.int .i64 (q:Int)):=by rw[gG,<-hadd];exact hcell _ _ hcw.1
   have cs:wr.cell? ⟨g,k*2+1,none⟩=some (.string s):=by rw[gG,<-hadd];exact hcell _ _ hcw.2
   clear hadd hw';have Hap:=ag hap;have Hx:=ag hx;clear hcell hcw hap hx;have hqi:(q:Int)<66:=by omega
   obtain⟨cS,hc0,hcS⟩:=hd.cell1.2;obtain⟨cb,fb⟩:=hd.block q hq;have hlt1:D<wr.heap.size:=by obtain⟨c,h2,_⟩:=hd.head;exact lt_of_heap h2
   have hlt2:S<wr.heap.size:=by obtain⟨c,h2,_⟩:=hd.row;exact lt_of_heap h2
   go_wp2_with fail;refine o6 9 (by kernel_rfl) (by kernel_rfl) ?_;simp only[bY,bZ,dh,cO]
   repeat(quiet_step (fail))
   refine dF ?_;intro nq;go_wp2_with fail;have Kx:Keep nM wr ((wr.alloc (.cells #[.int .i64 (q:Int),.string s] 172)).drewN nq):=((ah nM wr).alloc _).drewN nq;have hd2:=(hd.keep Kx (λ_ _ x=>x)).Qi q hq s;rw[<-Hap.out]at hd2;exact⟨⟨k+1,by omega,by go_num,hd2,(K.nK Kx).setCell (p:=⟨S,q,none⟩) (.inl (Or.inr (Or.inl rfl))) _⟩,by simp[intOf];omega⟩
  ·have hkn:wait.take k=wait:=aV (by rw[<-Hn.out];omega);rw[hkn]at hd;have j1:decide (k<n)=false:=by simp;omega
   have c1:=hd.cell1.1;have f1:=hd.cell2.2 1;have hd2:=hd.Xd (.slice none 0 0) [] (nV.nil _ _ _ _) (λb hb=>by cases hb) (dL _) (λp hp=>by cases hp);clear hkn hlt hk;go_wp2_with fail;go_ret;exact⟨rfl,hd2,K.setCell (p:=⟨D,1,none⟩) (.inl (Or.inl rfl)) _⟩
theorem zbl{w:World}{D S:Nat}{wv:Value}{sure:List af}{wait:List (Nat×af)}(h:qm w D S wv sure wait 0):
  ae 199 #[.pointer (some ⟨D,0,none⟩)] w λe w'=>e= .returned (.iface 51 (.int .i64 14))∧qm w' D S wv sure wait 0∧Keep (nY D) w w':=by
 have hb:=KT h;rw[show decide ((0:Int)≠0)=false from rfl,show wE 0=0 from rfl]at hb;go_enter Tryz.func199,Tryz.ntmps199;go_wp2_with fail;refine hb.mono ?_;clear hb;rintro e w1 ⟨rfl,h1,K1⟩;go_wp2_with fail;go_ret;exact⟨rfl,h1,K1⟩
def Bools(w:World)(v:Value)(l:List Bool):Prop:=
 (l= []∧∃p c,v= .slice p 0 c)∨∃B off c,v= .slice (some ⟨B,off,none⟩) l.length c∧B<w.heap.size∧∀i,i<l.length->w.cell? ⟨B,off+i,none⟩=some (.bool (l.getD i false))
theorem Bools.len{w:World}{v:Value}{l:List Bool}(h:Bools w v l):∃p c,v= .slice p l.length c:=by
 rcases h with⟨rfl,p,c,hv⟩|⟨B,off,c,hv,_⟩
 ·exact⟨p,c,hv⟩
 ·exact⟨_,c,hv⟩
theorem Bools.at{w:World}{p:Option Addr}{n c:Nat}{l:List Bool}(h:Bools w (.slice p n c) l)(hl:0<l.length):∃B off,p=some ⟨B,off,none⟩∧n=l.length∧B<w.heap.size∧∀i,i<l.length->w.cell? ⟨B,off+i,none⟩=some (.bool (l.getD i false)):=by
 rcases h with⟨rfl,_⟩|⟨B,off,c,hv,hB,hc⟩
 ·simp at hl
 ·cases hv
  exact⟨B,off,rfl,rfl,hB,hc⟩
theorem Bools.keep{w w':World}{v:Value}{l:List Bool}(h:Bools w v l){S:Nat->Prop}(hk:Keep S w w')(hn:∀b,v.ownBlock=some b->¬S b):Bools w' v l:=by
 rcases h with h|⟨B,off,c,hv,hB,hc⟩
 ·exact .inl h
 ·refine .inr ⟨B,off,c,hv,dA hB hk.size,λi hi=> ?_⟩;rw[hk.cell (p:=⟨B,off+i,none⟩) hB (hn B (by rw[hv];rfl))];exact hc i hi
def qo(sure:List af)(wait:List (Nat×af))(keeps:List Bool):Nat->List af
 | 0=>sure
 | k+1=>if keeps.getD k false then(qo sure wait keeps k).set (wait.getD k (0,⟨#[]⟩)).1 (wait.getD k (0,⟨#[]⟩)).2 else qo sure wait keeps k
theorem zeS{w:World}{D S:Nat}{wv:Value}{sure:List af}{wait:List (Nat×af)}{oD:Int}(h:qm w D S wv sure wait oD)(kv:Value)(keeps:List Bool)(B:Bools w kv keeps)(hk6:keeps.length<=1000000)(hB:0<keeps.length->∀b,kv.ownBlock=some b->¬qg D S wv b):
  ae 70 #[.pointer (some ⟨D,0,none⟩),kv] w λe w'=>e= .returned (.tuple #[])∧qm w' D S (.slice none 0 0) (qo sure wait keeps wait.length) [] (-1)∧Keep (qg D S wv) w w':=by
 obtain⟨p,c,hpc⟩:∃p c,wv= .slice p wait.length c:=by
  rcases h.waits.2 with⟨hv,h0⟩|⟨g,cap,cur,fz,hv,_⟩
  ·exact⟨_,_,by rw[hv,h0]⟩
  ·exact⟨_,_,hv⟩
 subst hpc;obtain⟨kp,kc,hkv⟩:=B.len;subst hkv;obtain⟨kn,hkn⟩:∃n,n=keeps.length:=⟨_,rfl⟩
 rw[<-hkn]at B hk6 hB;rw[<-hkn];have Hkn:=ag hkn;clear hkn;obtain⟨n,hn⟩:∃n,n=wait.length:=⟨_,rfl⟩
 rw[<-hn]at h hB;rw[<-hn];have hn6:n<=1000000:=by rw[hn];exact h.small
 have Hn:=ag hn;have HB:=ag hB;clear hn hB;have cw:=h.cell1.1;go_enter Tryz.func70,Tryz.ntmps70;go_wp2_with fail;refine pK (λw2=>qm w2 D S (.slice p n c) (qo sure wait keeps 0) wait oD∧Keep (qg D S (.slice p n c)) w w2) ⟨h,ah _ _⟩ ?_;clear cw;intro w2 hw2
 go_loopw [11] (λi wr=>∃k:Nat,k<=n∧i= .int .i64 k∧qm wr D S (.slice p n c) (qo sure wait keeps k) wait oD∧Keep (qg D S (.slice p n c)) w wr) (λi _=>n-(intOf i).toNat)
 case atStart=>exact⟨0,by omega,rfl,hw2⟩
 case round=>
  clear hw2 w2;obtain⟨k,hk,rfl,hd,K⟩:=hrel;by_cases hlt:k<n
  ·have j1:decide (k<n)=true:=by simp;omega
   have hw':=hd.waits;rw[<-Hn.out]at hw';obtain⟨g,cap,hv,_⟩:=hw'.some (by omega);cases hv;obtain⟨x,hx⟩:∃x,x=wait.getD k (0,⟨#[]⟩):=⟨_,rfl⟩
   obtain⟨q,s⟩:=x;have hq:q<66:=by
    have hm:(q,s)∈wait:=by rw[hx,ax,aC (by rw[<-Hn.out];exact hlt)];exact fD _
    exact hd.ats _ hm
   have hcw:=E8 wait k (by rw[<-Hn.out];exact hlt);rw[<-hx]at hcw;have hap:qo sure wait keeps (k+1)=if keeps.getD k false then(qo sure wait keeps k).set q s else qo sure wait keeps k:=by rw[qo,<-hx]
   have hcell:=hd.waits.cells (g:=g) rfl;have hadd:∀m,(⟨g,0,none⟩:Addr).add m=⟨g,m,none⟩:=λm=>by unfold Addr.add;split<;>simp_all
   have cq:wr.cell? ⟨g,k*2,none⟩=some (.int .i64 (q:Int)):=by rw[gG,<-hadd];exact hcell _ _ hcw.1
   have cs:wr.cell? ⟨g,k*2+1,none⟩=some (.string s):=by rw[gG,<-hadd];exact hcell _ _ hcw.2
   clear hadd hw';have Hap:=ag hap;have Hx:=ag hx;clear hcell hcw hap hx;have hqi:(q:Int)<66:=by omega
   have Kx:Keep nM wr (wr.alloc (.cells #[.int .i64 (q:Int),.string s] 172)):=(ah nM wr).alloc _;have B1:Bools wr (.slice kp kn kc) keeps:=by
    by_cases h0:0<kn
    ·exact B.keep K (λb hb=>HB.out h0 b hb)
    ·have hnil:keeps= []:=aU (by rw[<-Hkn.out];omega);have hk0:kn=0:=by omega
     exact .inl ⟨hnil,_,_,by rw[hk0]⟩
   by_cases hkk:k<kn∧keeps.getD k false=true
   ·obtain⟨hk1,hk2⟩:=hkk;have j3:(k:Int)<kn:=by omega
    obtain⟨KB,ko,rfl,hnn,hKB,hkc⟩:=B1.at (by rw[<-Hkn.out];omega);have ck:=hkc k (by rw[<-Hkn.out];exact hk1);rw[hk2]at ck;clear hkc hnn B1;obtain⟨cS,hc0,hcS⟩:=hd.cell1.2;obtain⟨cb,fb⟩:=hd.block q hq;have hlt1:D<wr.heap.size:=by obtain⟨c,h2,_⟩:=hd.head;exact lt_of_heap h2
    have hlt2:S<wr.heap.size:=by obtain⟨c,h2,_⟩:=hd.row;exact lt_of_heap h2
    have Hk2:=ag hk2;clear hk2;go_wp2_with fail;refine o6 9 (by kernel_rfl) (by kernel_rfl) ?_;simp only[bY,bZ,dh,cO]
    repeat(quiet_step (fail))
    refine dF ?_;intro nq;go_wp2_with fail;have hd2:=(hd.keep (Kx.drewN nq) (λ_ _ x=>x)).Qi q hq s;have hst:(qo sure wait keeps k).set q s=qo sure wait keeps (k+1):=by rw[Hap.out,aP Hk2.out]
    rw[hst]at hd2;exact⟨⟨k+1,by omega,by go_num,hd2,(K.nK (Kx.drewN nq)).setCell (p:=⟨S,q,none⟩) (.inl (Or.inr (Or.inl rfl))) _⟩,by simp[intOf];omega⟩
   ·have hst:qo sure wait keeps k=qo sure wait keeps (k+1):=by
     rw[Hap.out];by_cases h1:keeps.getD k false=true
     ·have hge:¬k<keeps.length:=by rw[<-Hkn.out];exact λh=>hkk ⟨h,h1⟩
      rw[ax,fH (by omega)]at h1;cases h1
     ·rw[aB h1]
    have hd2:=hd.keep Kx (λ_ _ x=>x);rw[hst]at hd2;by_cases hk1:k<kn
    ·have hk2:keeps.getD k false=false:=by
      cases hb:keeps.getD k false with
      | false=>rfl
      | true=>exact absurd ⟨hk1,hb⟩ hkk
     have j3:(k:Int)<kn:=by omega
     obtain⟨KB,ko,rfl,hnn,hKB,hkc⟩:=B1.at (by rw[<-Hkn.out];omega);have ck:=hkc k (by rw[<-Hkn.out];exact hk1);rw[hk2]at ck;clear hkc hnn B1 hkk hst hk2;go_wp2_with fail;exact⟨⟨k+1,by omega,by go_num,hd2,K.nK Kx⟩,by simp[intOf];omega⟩
    ·have j3:decide (k<kn)=false:=by simp;omega
     have j4:decide ((k:Int)<kn)=false:=by simp;omega
     clear hkk hst hk1;go_wp2_with fail;exact⟨⟨k+1,by omega,by go_num,hd2,K.nK Kx⟩,by simp[intOf];omega⟩
  ·have hkn:k=n:=by omega
   rw[hkn]at hd;have j1:decide (k<n)=false:=by simp;omega
   have c1:=hd.cell1.1;have f1:=hd.cell2.2 1;have c2:=hd.cell2.1;have f2:=hd.cell2.2 2;have hd2:=(hd.Xd (.slice none 0 0) [] (nV.nil _ _ _ _) (λb hb=>by cases hb) (dL _) (λp hp=>by cases hp)).Qj (-1) (by omega) (by omega);clear hkn hlt hk;go_wp2_with fail;go_end0;exact⟨rfl,hd2,(K.setCell (p:=⟨D,1,none⟩) (.inl (Or.inl rfl)) _).setCell (p:=⟨D,2,none⟩) (.inl (Or.inl rfl)) _⟩
end Go.Proofs.YtopbkdebihcmcaaGreatDoor
