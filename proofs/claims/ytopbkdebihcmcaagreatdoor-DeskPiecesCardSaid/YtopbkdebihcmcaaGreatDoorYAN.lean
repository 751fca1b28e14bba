import Derived.Test.YtopbkdebihcmcaaGreatDoorYAK
import Derived.Test.YtopbkdebihcmcaaGreatDoorYAM
import Derived.Deep.RegionLaw
set_option linter.unusedSimpArgs false
set_option linter.unusedVariables false
namespace Go.Proofs.YtopbkdebihcmcaaGreatDoor
open Go.RowKit
set_option maxRecDepth 100000
set_option maxHeartbeats 16000000
def ug:af:=txt (List.replicate 256 0)
theorem tY:ug.size=256:=by rw[ug,oU,bP]
def uu(l:List (Nat×af)):List Value:=l.flatMap λp=> [.int .i64 (p.1:Int),.string p.2]
theorem Ob(a b:List (Nat×af)):uu (a++b)=uu a++uu b:=by simp[uu]
theorem UI{P:Program}{ops:Array Oper}{o:Oper}{a:Act}{w:World}{K:Act->World->Prop}{Q:Exit->Act->World->Prop}{E:Prop}(hg:o.guard=none)(s x:Operand)(t:TypeId)
  (ho:o.op= .call { callee:= .builtin .append,args:= #[s,x],argTypes:= #[t,t] })
  (base:Nat) (e:TypeId) (i:TypeInfo) (z:Value) (size bytes:Nat) (ht:P.underlying t=some (.slice e)) (hi:P.info? e=some i) (hz:i.zero=some z)
  (hsize:i.size=size) (hby:i.bytes=bytes) (hzs:z.cells.size=size) (hsz:0<size) (v:Value) (n:Nat) (xs:List Value) (hs:a.eval s=v) (hown:nV w base e size v n xs)
  (ad:Addr) (m c:Nat) (news:List Value) (hx:a.eval x= .slice (some ad) m c) (hl:news.length=m*size) (hnews:∀j u,news[j]? =some u->w.cell? (ad.add j)=some u) (h1:∀u∈news,u.oneCell'=true)
  (h63:n+m<=maxLen) (hbytes:(n+m)*bytes<=140737488355328) (hbase:base<=w.heap.size)
  (h:∀v' w',nV w' base e size v' (n+m) (xs++news)->w.grownBy w' v.ownBlock->(v'.ownBlock=v.ownBlock∨∀b,v'.ownBlock=some b->w.heap.size<=b)->K (a.put o.dst v') w'):
  if Region.wanted o (yielded ops a.tmps)=true then Oper.wp P o a w K Q else E:=by
 have hw:Region.wanted o (yielded ops a.tmps)=true:=by simp[Region.wanted,hg]
 rw[aP hw];obtain⟨v',w',hr,h2,h3,h4⟩:=Fa (P:=P) w base t o.type e i z size bytes ht hi hz hsize hby hzs hsz v n xs hown ad m c news hl hnews h1 h63 hbytes hbase;unfold Oper.wp execOp;simp only[ho,resolve,invoke,builtin,jG,Sem.run_pure,lQ,gW,bF,dB,hs,hx,hr];exact h v' w' h2 h3 h4
theorem ziY:(madeCells (Value.cells (.int .u8 0)) (256*1)).toList=zM (List.replicate 256 0):=by show(madeCells #[Value.int .u8 0] (256*1)).toList=_;rw[toList_madeCells_one,ng,zM,mQ];rfl
theorem J3(w:World):ae 25 #[] w λe w'=>e= .returned (.string ug)∧Keep nM w w':=by obtain⟨i0,hi0,hz0,hz1,hz2⟩:=kG JX;have hl:(List.replicate 256 0).length=256:=bP;go_enter Tryz.func25,Tryz.ntmps25;go_wp2_with (first|(refine wpList_make_full _ rfl _ _ 33 rfl w.heap.size 5 i0 (.int .u8 0) 1 Tryz.underlying33 hi0 hz0 hz1 .i64 .i64 256 256 256 rfl rfl rfl rfl (by rw[hz2];decide) (by decide) (aF _) ?_;intro w1 zks hgrow1;rw[ziY]at zks;have hcv:=vM (P:=Tryz.prog) (l:=List.replicate 256 0) (by rw[hl];exact zks) Tryz.underlying33 Tryz.underlying5 Tryz.underlying9;rw[<-ug]at hcv;clear hl zks));go_ret;exact⟨rfl,(ah nM w).grown hgrow1 (λc hc=>by cases hc)⟩
structure qm(w:World)(D S:Nat)(wv:Value)(sure:List af)(wait:List (Nat×af))(oD:Int):Prop where
 head:∃c,w.heap[D]? =some (.cells #[.slice (some ⟨S,0,none⟩) 66 c,wv,.int .i64 oD] 64 (0,0))∧66<=c
 row:∃cur,w.heap[S]? =some (.cells cur 9 (0,0))∧cur.toList.take 66=strCells sure
 waits:nV w 0 172 2 wv wait.length (uu wait)
 len:sure.length=66
 lo: -1<=oD
 hi:oD<=9223372036854775807
 apart:S≠D∧(∀b,wv.ownBlock=some b->b≠D∧b≠S)
 small:wait.length<=1000000
 ats:∀p,p∈wait->p.1<66
def qg(D S:Nat)(wv:Value):Nat->Prop:=λb=>b=D∨b=S∨wv.ownBlock=some b
theorem qm.keep{w w':World}{D S:Nat}{wv:Value}{sure:List af}{wait:List (Nat×af)}{oD:Int}(h:qm w D S wv sure wait oD){X:Nat->Prop}(hk:Keep X w w')(hn:∀b,qg D S wv b->¬X b):qm w' D S wv sure wait oD:=by obtain⟨c,h1,h2⟩:=h.head;obtain⟨cur,h3,h4⟩:=h.row;exact⟨⟨c,hk.heap h1 (hn D (.inl rfl)),h2⟩,⟨cur,hk.heap h3 (hn S (.inr (.inl rfl))),h4⟩,h.waits.keep hk (λb hb=>hn b (.inr (.inr hb))),h.len,h.lo,h.hi,h.apart,h.small,h.ats⟩
def wE(oD:Int):Int:=if 0<oD then oD-1 else oD
theorem qm.cell2{w:World}{D S:Nat}{wv:Value}{sure:List af}{wait:List (Nat×af)}{oD:Int}(h:qm w D S wv sure wait oD):w.cell? ⟨D,2,none⟩=some (.int .i64 oD)∧∀i,w.frozen? ⟨D,i,none⟩=false:=by obtain⟨c,h1,_⟩:=h.head;exact⟨by simp[World.cell?,h1],λi=>by simp[World.frozen?,h1]⟩
theorem qm.cell1{w:World}{D S:Nat}{wv:Value}{sure:List af}{wait:List (Nat×af)}{oD:Int}(h:qm w D S wv sure wait oD):w.cell? ⟨D,1,none⟩=some wv∧∃c,w.cell? ⟨D,0,none⟩=some (.slice (some ⟨S,0,none⟩) 66 c)∧66<=c:=by obtain⟨c,h1,h2⟩:=h.head;exact⟨by simp[World.cell?,h1],c,by simp[World.cell?,h1],h2⟩
theorem qm.Qj{w:World}{D S:Nat}{wv:Value}{sure:List af}{wait:List (Nat×af)}{oD:Int}(h:qm w D S wv sure wait oD)(f:Int)(h0: -1<=f)(h1:f<=9223372036854775807):
  qm (w.setCell ⟨D,2,none⟩ (.int .i64 f)) D S wv sure wait f:=by
 have K:Keep (nY D) w (w.setCell ⟨D,2,none⟩ (.int .i64 f)):=(ah _ _).set1 _ _;obtain⟨c,h2,h3⟩:=h.head;obtain⟨cur,h4,h5⟩:=h.row;refine⟨⟨c,?_,h3⟩,⟨cur,K.heap h4 h.apart.1,h5⟩,h.waits.keep K (λb hb=>(h.apart.2 b hb).1),h.len,h0,h1,h.apart,h.small,h.ats⟩;have hlt:=lt_of_heap h2;have h':w.heap[D]= .cells #[.slice (some ⟨S,0,none⟩) 66 c,wv,.int .i64 oD] 64 (0,0):=by simpa [bW hlt]using h2
 show(w.heap.modify D _)[D]? =_;rw[bW (by simpa using hlt),eu,h'];rfl
theorem qm.Xd{w:World}{D S:Nat}{wv:Value}{sure:List af}{wait:List (Nat×af)}{oD:Int}(h:qm w D S wv sure wait oD)(wv':Value)(FT:List (Nat×af))
  (hw:nV w 0 172 2 wv' FT.length (uu FT)) (ha:∀b,wv'.ownBlock=some b->b≠D∧b≠S) (hs:FT.length<=1000000) (hat:∀p,p∈FT->p.1<66):
  qm (w.setCell ⟨D,1,none⟩ wv') D S wv' sure FT oD:=by
 have K:Keep (nY D) w (w.setCell ⟨D,1,none⟩ wv'):=(ah _ _).set1 _ _;obtain⟨c,h2,h3⟩:=h.head;obtain⟨cur,h4,h5⟩:=h.row;refine⟨⟨c,?_,h3⟩,⟨cur,K.heap h4 h.apart.1,h5⟩,hw.keep K (λb hb=>(ha b hb).1),h.len,h.lo,h.hi,⟨h.apart.1,ha⟩,hs,hat⟩;have hlt:=lt_of_heap h2;have h':w.heap[D]= .cells #[.slice (some ⟨S,0,none⟩) 66 c,wv,.int .i64 oD] 64 (0,0):=by simpa [bW hlt]using h2
 show(w.heap.modify D _)[D]? =_;rw[bW (by simpa using hlt),eu,h'];rfl
theorem qm.append{w2 w3:World}{D S:Nat}{wv wv':Value}{sure:List af}{wait FT:List (Nat×af)}{oD:Int}(h:qm w2 D S wv sure wait oD)(K3:Keep (λb=>wv.ownBlock=some b) w2 w3)
  (own:nV w3 0 172 2 wv' FT.length (uu FT)) (hw:wv'.ownBlock=wv.ownBlock∨∀b,wv'.ownBlock=some b->w2.heap.size<=b) (hs:FT.length<=1000000) (hat:∀p,p∈FT->p.1<66):
  qm (w3.setCell ⟨D,1,none⟩ wv') D S wv' sure FT oD∧Keep (qg D S wv) w2 (w3.setCell ⟨D,1,none⟩ wv'):=by
 have K:Keep (nY D) w3 (w3.setCell ⟨D,1,none⟩ wv'):=(ah _ _).set1 _ _;obtain⟨c,h2,h3⟩:=h.head;obtain⟨cur,h4,h5⟩:=h.row;have hD:=lt_of_heap h2;have hS:=lt_of_heap h4;have h2':=K3.heap h2 (λhb=>(h.apart.2 D hb).1 rfl);have h4':=K3.heap h4 (λhb=>(h.apart.2 S hb).2 rfl);have ha:∀b,wv'.ownBlock=some b->b≠D∧b≠S:=by
  intro b hb;rcases hw with hw|hw
  ·exact h.apart.2 b (hw▸hb)
  ·have:=hw b hb;omega
 refine⟨⟨⟨c,?_,h3⟩,⟨cur,K.heap h4' h.apart.1,h5⟩,own.keep K (λb hb=>(ha b hb).1),h.len,h.lo,h.hi,⟨h.apart.1,ha⟩,hs,hat⟩,(K3.mono (λb _ hb=>Or.inr (Or.inr hb))).trans K (λb _ hb=>Or.inl hb)⟩;have hlt:=lt_of_heap h2';have h':w3.heap[D]= .cells #[.slice (some ⟨S,0,none⟩) 66 c,wv,.int .i64 oD] 64 (0,0):=by simpa [bW hlt]using h2'
 show(w3.heap.modify D _)[D]? =_;rw[bW (by simpa using hlt),eu,h'];rfl
theorem KT{w:World}{D S:Nat}{wv:Value}{sure:List af}{wait:List (Nat×af)}{oD:Int}(h:qm w D S wv sure wait oD):
  ae 239 #[.pointer (some ⟨D,0,none⟩)] w λe w'=>e= .returned (.bool (decide (oD≠0)))∧qm w' D S wv sure wait (wE oD)∧Keep (nY D) w w':=by
 obtain⟨c2,f2⟩:=h.cell2;have f2':=f2 2;have hlo:=h.lo;have hhi:=h.hi;clear f2;by_cases hp:0<oD
 ·have e1:decide (oD≠0)=true:=by simp;omega
  have e2:wE oD=oD-1:=aP hp;have hd:=h.Qj (oD-1) (by omega) (by omega);rw[e1,e2];clear e1 e2;go_enter Tryz.func239,Tryz.ntmps239;go_wp2_with fail;go_ret;exact⟨rfl,hd,(ah _ _).set1 _ _⟩
 ·have e2:wE oD=oD:=aB hp;rw[e2];have j1:oD<=0:=by omega
  clear e2 hp;by_cases hz:oD=0
  ·subst hz;go_enter Tryz.func239,Tryz.ntmps239;go_wp2_with fail;go_ret;exact⟨rfl,h,ah _ _⟩
  ·have e1:decide (oD≠0)=true:=by simp;omega
   have j2:oD<0:=by omega
   rw[e1];clear e1 hz;go_enter Tryz.func239,Tryz.ntmps239;go_wp2_with fail;go_ret;exact⟨rfl,h,ah _ _⟩
theorem zhh{w:World}{D S:Nat}{wv:Value}{sure:List af}{wait:List (Nat×af)}{oD:Int}(h:qm w D S wv sure wait oD)(n:Int)(hn:n<=9223372036854775807):
  ae 76 #[.pointer (some ⟨D,0,none⟩),.int .i64 n] w λe w'=>e= .returned (.tuple #[])∧qm w' D S wv sure wait (max n (-1))∧Keep (nY D) w w':=by
 obtain⟨c2,f2⟩:=h.cell2;have f2':=f2 2;clear f2;by_cases hn1:n< -1
 ·have e1:max n (-1)= -1:=by omega
  have hd:=h.Qj (-1) (by omega) (by omega);rw[e1];have He1:=ag e1;clear e1;go_enter Tryz.func76,Tryz.ntmps76;go_wp2_with fail;go_end0
  first|exact⟨rfl,hd,(ah _ _).set1 _ _⟩|(rw[He1.out];exact⟨rfl,hd,(ah _ _).set1 _ _⟩)
 ·have hn2: -1<=n:=by omega
  have e1:max n (-1)=n:=by omega
  have hd:=h.Qj n (by omega) (by omega);rw[e1];have He1:=ag e1;clear e1 hn1;go_enter Tryz.func76,Tryz.ntmps76;go_wp2_with fail;go_end0
  first|exact⟨rfl,hd,(ah _ _).set1 _ _⟩|(rw[He1.out];exact⟨rfl,hd,(ah _ _).set1 _ _⟩)
def BC(s:af):af:=s++ug.extract s.size ug.size
theorem Iq(s:af)(h:s.size<=256):(BC s).size=256:=by rw[BC,aX,dV,tY];omega
theorem zcb:(Tryz.prog.info? 172).map (λi=>(i.zero,i.size,i.bytes))=some (some (.agg #[.int .i64 0,.string ⟨#[]⟩]),2,24):=by kernel_rfl
theorem zgn{w:World}{D S:Nat}{wv:Value}{sure:List af}{wait:List (Nat×af)}{oD:Int}(h:qm w D S wv sure wait oD)(k:Nat)(s:af)(hk:k<66)(hs:s.size<=256)(hf:oD≠0)(hw:wait.length<1000000):
  ae 198 #[.pointer (some ⟨D,0,none⟩),.int .i64 k,.string s] w λe w'=>e= .returned .nilIface∧(∃wv',qm w' D S wv' sure (wait++ [(k,BC s)]) (wE oD)∧(wv'.ownBlock=wv.ownBlock∨∀b,wv'.ownBlock=some b->w.heap.size<=b))∧Keep (qg D S wv) w w':=by
 have hf1:decide (oD≠0)=true:=by simp;exact hf
 have j1:(k:Int)<66:=by omega
 have j2:(s.size:Int)<=256:=by omega
 have hb:=KT h;rw[hf1]at hb;have Hf:=ag hf;clear hf hf1;go_enter Tryz.func198,Tryz.ntmps198;go_wp2_with fail;refine hb.mono ?_;clear hb;rintro e w1 ⟨rfl,h1,K1⟩;go_wp2_with fail;obtain⟨cw,c,cs,hc⟩:=h1.cell1;have FM:¬(9223372036854775807<s.size+(ug.extract s.size ug.size).size):=by rw[dV,tY];omega
 have hzs:ug.size=256:=tY;obtain⟨i0,hi0,hz0,hz1,hz2⟩:=kG zcb;have hDlt:D<w1.heap.size:=by obtain⟨c,h2,_⟩:=h1.head;exact lt_of_heap h2
 have f1:=h1.cell2.2 1
 go_region_law (first
  | (go_simp;go_at_call 25;refine(J3 _).mono ?_;rintro e w2 ⟨rfl,Fj⟩;have K2:Keep nM w1 w2:=((ah nM w1).drew).nK Fj;have cw2:=(K2.cell (p:=⟨D,1,none⟩) hDlt (λx=>x)).trans cw;have hD2:D<w2.heap.size:=dA hDlt K2.size)
  | (refine UI rfl _ _ 62 rfl 0 172 i0 (.agg #[.int .i64 0,.string ⟨#[]⟩]) 2 24 Tryz.underlying62 hi0 hz0 hz1 hz2 rfl (by decide) wv wait.length (uu wait) rfl ((h1.waits.keep K2 (λ_ _ x=>x)).alloc _) ⟨w2.heap.size,0,none⟩ 1 1 [.int .i64 k,.string (BC s)] rfl rfl (qj _ _ _) (by intro u hu;simp only[bK,iJ,jY]at hu;rcases hu with rfl|rfl<;>rfl) (by unfold maxLen;omega) (by omega) (dL _) ?_;intro v3 w3 zkr hgrow3 zf2;have K3:Keep (λb=>wv.ownBlock=some b) w2 w3:=((ah _ w2).alloc _).grown hgrow3 (λc hc=> .inl hc);have c3:=(K3.cell (p:=⟨D,1,none⟩) (dA hDlt K2.size) (λhb=>(h1.apart.2 D hb).1 rfl)).trans cw2;have f3:=(K3.frozen (p:=⟨D,1,none⟩) (dA hDlt K2.size) (λhb=>(h1.apart.2 D hb).1 rfl)).trans ((K2.frozen (p:=⟨D,1,none⟩) hDlt (λx=>x)).trans f1);obtain⟨g3,cap3,rfl,_,_⟩:=zkr.some (by omega)))
 all_goals
  have own4:nV w3 0 172 2 (.slice (some ⟨g3,0,none⟩) (wait.length+1) cap3) (wait++ [(k,BC s)]).length (uu (wait++ [(k,BC s)])):=by rw[ay,Ob];exact zkr
  have hwh:(Value.slice (some ⟨g3,0,none⟩) (wait.length+1) cap3).ownBlock=wv.ownBlock∨∀b,(Value.slice (some ⟨g3,0,none⟩) (wait.length+1) cap3).ownBlock=some b->w2.heap.size<=b:=
   zf2.imp id (λhh b hb=>by have:=hh b hb;simp at this;omega)
  obtain⟨hd,hk2⟩:=(h1.keep K2 (λ_ _ x=>x)).append K3 own4 hwh (by rw[ay];simp;omega) (λp hp=>by rcases dG.1 hp with hp|hp;exact h1.ats p hp;obtain rfl:=bD.1 hp;exact hk);have hsz1:=K1.size;have hsz2:=K2.size;clear zkr own4 zf2 hgrow3;go_wp2_with fail;go_ret;exact⟨rfl,⟨_,hd,hwh.imp id (λhh b hb=>bH (bH hsz1 hsz2) (hh b hb))⟩,((K1.mono (λb _ hb=>Or.inl hb)).nK K2).then hk2⟩
theorem ZC{w:World}{D S:Nat}{wv:Value}{sure:List af}{wait:List (Nat×af)}(h:qm w D S wv sure wait 0)(k:Nat)(s:af)(hk:k<66)(hs:s.size<=256):
  ae 198 #[.pointer (some ⟨D,0,none⟩),.int .i64 k,.string s] w λe w'=>e= .returned (.iface 51 (.int .i64 14))∧qm w' D S wv sure wait 0∧Keep (nY D) w w':=by
 have j1:(k:Int)<66:=by omega
 have j2:(s.size:Int)<=256:=by omega
 have hb:=KT h;rw[show decide ((0:Int)≠0)=false from rfl,show wE 0=0 from rfl]at hb;go_enter Tryz.func198,Tryz.ntmps198;go_wp2_with fail;refine hb.mono ?_;clear hb;rintro e w1 ⟨rfl,h1,K1⟩;go_wp2_with fail;go_ret;exact⟨rfl,h1,K1⟩
def oL(w:World)(B:Nat)(n:Int):Prop:=w.heap[B]? =some (.cells #[.int .i64 n] 48 (0,0))
theorem oL.keep{w w':World}{B:Nat}{n:Int}(h:oL w B n){X:Nat->Prop}(hk:Keep X w w')(hn:¬X B):oL w' B n:=hk.heap h hn
theorem oL.cell{w:World}{B:Nat}{n:Int}(h:oL w B n):w.cell? ⟨B,0,none⟩=some (.int .i64 n)∧w.frozen? ⟨B,0,none⟩=false:=by unfold oL at h;exact⟨by simp[World.cell?,h],by simp[World.frozen?,h]⟩
theorem oL.set{w:World}{B:Nat}{n:Int}(h:oL w B n)(m:Int):oL (w.setCell ⟨B,0,none⟩ (.int .i64 m)) B m:=by
 have hlt:=lt_of_heap h;unfold oL at*;have h':w.heap[B]= .cells #[.int .i64 n] 48 (0,0):=by simpa [bW hlt]using h
 show(w.heap.modify B _)[B]? =_;rw[bW (by simpa using hlt),eu,h'];rfl
theorem get_any{w:World}{B:Nat}{n:Int}(h:oL w B n):ae 89 #[.pointer (some ⟨B,0,none⟩)] w λe w'=>e= .returned (.int .i64 n)∧w'=w:=by obtain⟨c,f⟩:=h.cell;go_enter Tryz.func89,Tryz.ntmps89;go_wp2;go_ret;exact⟨rfl,rfl⟩
theorem VD{w:World}{B:Nat}{n:Int}(h:oL w B n)(m:Int)(hm:n<m):ae 92 #[.pointer (some ⟨B,0,none⟩),.int .i64 m] w λe w'=>e= .returned .nilIface∧oL w' B m∧Keep (nY B) w w':=by obtain⟨c,f⟩:=h.cell;have hs:=h.set m;go_enter Tryz.func92,Tryz.ntmps92;go_wp2;go_ret;exact⟨rfl,hs,(ah _ _).set1 _ _⟩
theorem zgS{w:World}{B:Nat}{n:Int}(h:oL w B n)(m:Int)(hm:m<=n):ae 92 #[.pointer (some ⟨B,0,none⟩),.int .i64 m] w λe w'=>e= .returned (.iface 51 (.int .i64 10))∧w'=w:=by obtain⟨c,f⟩:=h.cell;go_enter Tryz.func92,Tryz.ntmps92;go_wp2;go_ret;exact⟨rfl,rfl⟩
end Go.Proofs.YtopbkdebihcmcaaGreatDoor
