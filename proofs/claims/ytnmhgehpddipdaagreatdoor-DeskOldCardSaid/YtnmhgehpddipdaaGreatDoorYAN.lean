import Derived.Test.YtnmhgehpddipdaaGreatDoorYAD
import Derived.Test.YtnmhgehpddipdaaGreatDoorYAK
import Derived.Test.YtnmhgehpddipdaaGreatDoorYAM
import Derived.Deep.RegionLaw
set_option linter.unusedSimpArgs false
set_option linter.unusedVariables false
namespace Go.Cof
open Go.RowKit
def zeroB:ByteArray:=txt (List.replicate 256 0)
theorem zeroB_size:zeroB.size=256:=by rw[zeroB,txt_size,List.length_replicate]
def waitCells(l:List (Nat×ByteArray)):List Value:=l.flatMap λp=> [.int .i64 (p.1:Int),.string p.2]
theorem waitCells_append(a b:List (Nat×ByteArray)):waitCells (a++b)=waitCells a++waitCells b:=by simp[waitCells]
theorem step_append_s{P:Program}{ops:Array Oper}{o:Oper}{a:Act}{w:World}{K:Act->World->Prop}{Q:Exit->Act->World->Prop}{E:Prop}(hg:o.guard=none)(s x:Operand)(t:TypeId)
  (ho:o.op= .call { callee:= .builtin .append,args:= #[s,x],argTypes:= #[t,t] })
  (base:Nat) (e:TypeId) (i:TypeInfo) (z:Value) (size bytes:Nat) (ht:P.underlying t=some (.slice e)) (hi:P.info? e=some i) (hz:i.zero=some z)
  (hsize:i.size=size) (hby:i.bytes=bytes) (hzs:z.cells.size=size) (hsz:0<size) (v:Value) (n:Nat) (xs:List Value) (hs:a.eval s=v) (hown:OwnsN w base e size v n xs)
  (ad:Addr) (m c:Nat) (news:List Value) (hx:a.eval x= .slice (some ad) m c) (hl:news.length=m*size) (hnews:∀j u,news[j]? =some u->w.cell? (ad.add j)=some u) (h1:∀u∈news,u.oneCell'=true)
  (h63:n+m<=maxLen) (hbytes:(n+m)*bytes<=140737488355328) (hbase:base<=w.heap.size)
  (h:∀v' w',OwnsN w' base e size v' (n+m) (xs++news)->w.grownBy w' v.ownBlock->(v'.ownBlock=v.ownBlock∨∀b,v'.ownBlock=some b->w.heap.size<=b)->K (a.put o.dst v') w'):
  if Region.wanted o (yielded ops a.tmps)=true then Oper.wp P o a w K Q else E:=by
 have hw:Region.wanted o (yielded ops a.tmps)=true:=by simp[Region.wanted,hg]
 rw[if_pos hw]
 obtain⟨v',w',hr,h2,h3,h4⟩:=run_append_n (P:=P) w base t o.type e i z size bytes ht hi hz hsize hby hzs hsz v n xs hown ad m c news hl hnews h1 h63 hbytes hbase
 unfold Oper.wp execOp
 simp only[ho,resolve,invoke,builtin,Sem.run_bind,Sem.run_pure,Result.andThen_ok,List.map_toArray,List.map_cons,List.map_nil,hs,hx,hr]
 exact h v' w' h2 h3 h4
end Go.Cof
namespace Go.Proofs.YtnmhgehpddipdaaGreatDoor
open Go.RowKit Go.Cof
theorem made256:(madeCells (Value.cells (.int .u8 0)) (256*1)).toList=u8s (List.replicate 256 0):=by
 show(madeCells #[Value.int .u8 0] (256*1)).toList=_
 rw[toList_madeCells_one,Nat.mul_one,u8s,List.map_replicate];rfl
set_option maxRecDepth 100000 in
theorem zero_any(w:World):Calls Tryz.prog 30 #[] w λe w'=>e= .returned (.string zeroB)∧Keep NoB w w':=by
 obtain⟨i0,hi0,hz0,hz1,hz2⟩:=info_parts info_u8
 have hl:(List.replicate 256 0).length=256:=List.length_replicate
 go_enter Tryz.func30,Tryz.ntmps30
 go_wp2_with (first|(refine wpList_make_full _ rfl _ _ 65 rfl w.heap.size 5 i0 (.int .u8 0) 1 Tryz.underlying65 hi0 hz0 hz1 .i64 .i64 256 256 256 rfl rfl rfl rfl (by rw[hz2];decide) (by decide) (Nat.le_refl _) ?_;intro w1 own1 hgrow1;rw[made256]at own1;have hcv:=run_string_own (P:=Tryz.prog) (l:=List.replicate 256 0) (by rw[hl];exact own1) Tryz.underlying65 Tryz.underlying5 Tryz.underlying9;rw[<-zeroB]at hcv;clear hl own1))
 go_ret
 exact⟨rfl,(Keep.refl NoB w).grown hgrow1 (λc hc=>by cases hc)⟩
structure DevAt(w:World)(D S:Nat)(wv:Value)(sure:List ByteArray)(wait:List (Nat×ByteArray))(fuse:Int):Prop where
 head:∃c,w.heap[D]? =some (.cells #[.slice (some ⟨S,0,none⟩) 66 c,wv,.int .i64 fuse] 77 (0,0))∧66<=c
 row:∃cur,w.heap[S]? =some (.cells cur 9 (0,0))∧cur.toList.take 66=strCells sure
 waits:OwnsN w 0 256 2 wv wait.length (waitCells wait)
 len:sure.length=66
 lo: -1<=fuse
 hi:fuse<=9223372036854775807
 apart:S≠D∧(∀b,wv.ownBlock=some b->b≠D∧b≠S)
 small:wait.length<=1000000
 ats:∀p,p∈wait->p.1<66
def DevB(D S:Nat)(wv:Value):Nat->Prop:=λb=>b=D∨b=S∨wv.ownBlock=some b
theorem DevAt.keep{w w':World}{D S:Nat}{wv:Value}{sure:List ByteArray}{wait:List (Nat×ByteArray)}{fuse:Int}(h:DevAt w D S wv sure wait fuse){X:Nat->Prop}(hk:Keep X w w')(hn:∀b,DevB D S wv b->¬X b):DevAt w' D S wv sure wait fuse:=by
 obtain⟨c,h1,h2⟩:=h.head
 obtain⟨cur,h3,h4⟩:=h.row
 exact⟨⟨c,hk.heap h1 (hn D (.inl rfl)),h2⟩,⟨cur,hk.heap h3 (hn S (.inr (.inl rfl))),h4⟩,h.waits.keep hk (λb hb=>hn b (.inr (.inr hb))),h.len,h.lo,h.hi,h.apart,h.small,h.ats⟩
def burnt(fuse:Int):Int:=if 0<fuse then fuse-1 else fuse
theorem DevAt.cell2{w:World}{D S:Nat}{wv:Value}{sure:List ByteArray}{wait:List (Nat×ByteArray)}{fuse:Int}(h:DevAt w D S wv sure wait fuse):w.cell? ⟨D,2,none⟩=some (.int .i64 fuse)∧∀i,w.frozen? ⟨D,i,none⟩=false:=by
 obtain⟨c,h1,_⟩:=h.head
 exact⟨by simp[World.cell?,h1],λi=>by simp[World.frozen?,h1]⟩
theorem DevAt.cell1{w:World}{D S:Nat}{wv:Value}{sure:List ByteArray}{wait:List (Nat×ByteArray)}{fuse:Int}(h:DevAt w D S wv sure wait fuse):w.cell? ⟨D,1,none⟩=some wv∧∃c,w.cell? ⟨D,0,none⟩=some (.slice (some ⟨S,0,none⟩) 66 c)∧66<=c:=by
 obtain⟨c,h1,h2⟩:=h.head
 exact⟨by simp[World.cell?,h1],c,by simp[World.cell?,h1],h2⟩
theorem DevAt.setFuse{w:World}{D S:Nat}{wv:Value}{sure:List ByteArray}{wait:List (Nat×ByteArray)}{fuse:Int}(h:DevAt w D S wv sure wait fuse)(f:Int)(h0: -1<=f)(h1:f<=9223372036854775807):
  DevAt (w.setCell ⟨D,2,none⟩ (.int .i64 f)) D S wv sure wait f:=by
 have K:Keep (OneB D) w (w.setCell ⟨D,2,none⟩ (.int .i64 f)):=(Keep.refl _ _).set1 _ _
 obtain⟨c,h2,h3⟩:=h.head
 obtain⟨cur,h4,h5⟩:=h.row
 refine⟨⟨c,?_,h3⟩,⟨cur,K.heap h4 h.apart.1,h5⟩,h.waits.keep K (λb hb=>(h.apart.2 b hb).1),h.len,h0,h1,h.apart,h.small,h.ats⟩
 have hlt:=lt_of_heap h2
 have h':w.heap[D]= .cells #[.slice (some ⟨S,0,none⟩) 66 c,wv,.int .i64 fuse] 77 (0,0):=by simpa [Array.getElem?_eq_getElem hlt]using h2
 show(w.heap.modify D _)[D]? =_
 rw[Array.getElem?_eq_getElem (by simpa using hlt),Array.getElem_modify_self,h']
 rfl
theorem DevAt.setWait{w:World}{D S:Nat}{wv:Value}{sure:List ByteArray}{wait:List (Nat×ByteArray)}{fuse:Int}(h:DevAt w D S wv sure wait fuse)(wv':Value)(wait':List (Nat×ByteArray))
  (hw:OwnsN w 0 256 2 wv' wait'.length (waitCells wait')) (ha:∀b,wv'.ownBlock=some b->b≠D∧b≠S) (hs:wait'.length<=1000000) (hat:∀p,p∈wait'->p.1<66):
  DevAt (w.setCell ⟨D,1,none⟩ wv') D S wv' sure wait' fuse:=by
 have K:Keep (OneB D) w (w.setCell ⟨D,1,none⟩ wv'):=(Keep.refl _ _).set1 _ _
 obtain⟨c,h2,h3⟩:=h.head
 obtain⟨cur,h4,h5⟩:=h.row
 refine⟨⟨c,?_,h3⟩,⟨cur,K.heap h4 h.apart.1,h5⟩,hw.keep K (λb hb=>(ha b hb).1),h.len,h.lo,h.hi,⟨h.apart.1,ha⟩,hs,hat⟩
 have hlt:=lt_of_heap h2
 have h':w.heap[D]= .cells #[.slice (some ⟨S,0,none⟩) 66 c,wv,.int .i64 fuse] 77 (0,0):=by simpa [Array.getElem?_eq_getElem hlt]using h2
 show(w.heap.modify D _)[D]? =_
 rw[Array.getElem?_eq_getElem (by simpa using hlt),Array.getElem_modify_self,h']
 rfl
theorem DevAt.append{w2 w3:World}{D S:Nat}{wv wv':Value}{sure:List ByteArray}{wait wait':List (Nat×ByteArray)}{fuse:Int}(h:DevAt w2 D S wv sure wait fuse)(K3:Keep (λb=>wv.ownBlock=some b) w2 w3)
  (own:OwnsN w3 0 256 2 wv' wait'.length (waitCells wait')) (hw:wv'.ownBlock=wv.ownBlock∨∀b,wv'.ownBlock=some b->w2.heap.size<=b) (hs:wait'.length<=1000000) (hat:∀p,p∈wait'->p.1<66):
  DevAt (w3.setCell ⟨D,1,none⟩ wv') D S wv' sure wait' fuse∧Keep (DevB D S wv) w2 (w3.setCell ⟨D,1,none⟩ wv'):=by
 have K:Keep (OneB D) w3 (w3.setCell ⟨D,1,none⟩ wv'):=(Keep.refl _ _).set1 _ _
 obtain⟨c,h2,h3⟩:=h.head
 obtain⟨cur,h4,h5⟩:=h.row
 have hD:=lt_of_heap h2
 have hS:=lt_of_heap h4
 have h2':=K3.heap h2 (λhb=>(h.apart.2 D hb).1 rfl)
 have h4':=K3.heap h4 (λhb=>(h.apart.2 S hb).2 rfl)
 have ha:∀b,wv'.ownBlock=some b->b≠D∧b≠S:=by
  intro b hb
  rcases hw with hw|hw
  ·exact h.apart.2 b (hw▸hb)
  ·have:=hw b hb
   omega
 refine⟨⟨⟨c,?_,h3⟩,⟨cur,K.heap h4' h.apart.1,h5⟩,own.keep K (λb hb=>(ha b hb).1),h.len,h.lo,h.hi,⟨h.apart.1,ha⟩,hs,hat⟩,(K3.mono (λb _ hb=>Or.inr (Or.inr hb))).trans K (λb _ hb=>Or.inl hb)⟩
 have hlt:=lt_of_heap h2'
 have h':w3.heap[D]= .cells #[.slice (some ⟨S,0,none⟩) 66 c,wv,.int .i64 fuse] 77 (0,0):=by simpa [Array.getElem?_eq_getElem hlt]using h2'
 show(w3.heap.modify D _)[D]? =_
 rw[Array.getElem?_eq_getElem (by simpa using hlt),Array.getElem_modify_self,h']
 rfl
theorem burn_any{w:World}{D S:Nat}{wv:Value}{sure:List ByteArray}{wait:List (Nat×ByteArray)}{fuse:Int}(h:DevAt w D S wv sure wait fuse):
  Calls Tryz.prog 219 #[.pointer (some ⟨D,0,none⟩)] w λe w'=>e= .returned (.bool (decide (fuse≠0)))∧DevAt w' D S wv sure wait (burnt fuse)∧Keep (OneB D) w w':=by
 obtain⟨c2,f2⟩:=h.cell2
 have f2':=f2 2
 have hlo:=h.lo
 have hhi:=h.hi
 clear f2
 by_cases hp:0<fuse
 ·have e1:decide (fuse≠0)=true:=by simp;omega
  have e2:burnt fuse=fuse-1:=if_pos hp
  have hd:=h.setFuse (fuse-1) (by omega) (by omega)
  rw[e1,e2]
  clear e1 e2
  go_enter Tryz.func219,Tryz.ntmps219
  go_wp2_with fail
  go_ret
  exact⟨rfl,hd,(Keep.refl _ _).set1 _ _⟩
 ·have e2:burnt fuse=fuse:=if_neg hp
  rw[e2]
  have j1:fuse<=0:=by omega
  clear e2 hp
  by_cases hz:fuse=0
  ·subst hz
   go_enter Tryz.func219,Tryz.ntmps219
   go_wp2_with fail
   go_ret
   exact⟨rfl,h,Keep.refl _ _⟩
  ·have e1:decide (fuse≠0)=true:=by simp;omega
   have j2:fuse<0:=by omega
   rw[e1]
   clear e1 hz
   go_enter Tryz.func219,Tryz.ntmps219
   go_wp2_with fail
   go_ret
   exact⟨rfl,h,Keep.refl _ _⟩
def padB(s:ByteArray):ByteArray:=s++zeroB.extract s.size zeroB.size
theorem padB_size(s:ByteArray)(h:s.size<=256):(padB s).size=256:=by
 rw[padB,ByteArray.size_append,ByteArray.size_extract,zeroB_size];omega
theorem info_write:(Tryz.prog.info? 256).map (λi=>(i.zero,i.size,i.bytes))=some (some (.agg #[.int .i64 0,.string ⟨#[]⟩]),2,24):=by kernel_rfl
set_option maxRecDepth 100000 in
set_option maxHeartbeats 4000000 in
theorem write_ok{w:World}{D S:Nat}{wv:Value}{sure:List ByteArray}{wait:List (Nat×ByteArray)}{fuse:Int}(h:DevAt w D S wv sure wait fuse)(k:Nat)(s:ByteArray)(hk:k<66)(hs:s.size<=256)(hf:fuse≠0)(hw:wait.length<1000000):
  Calls Tryz.prog 159 #[.pointer (some ⟨D,0,none⟩),.int .i64 k,.string s] w λe w'=>e= .returned .nilIface∧(∃wv',DevAt w' D S wv' sure (wait++ [(k,padB s)]) (burnt fuse)∧(wv'.ownBlock=wv.ownBlock∨∀b,wv'.ownBlock=some b->w.heap.size<=b))∧Keep (DevB D S wv) w w':=by
 have hf1:decide (fuse≠0)=true:=by simp;exact hf
 have j1:(k:Int)<66:=by omega
 have j2:(s.size:Int)<=256:=by omega
 have hb:=burn_any h
 rw[hf1]at hb
 have Hf:=Lib.hid hf
 clear hf hf1
 go_enter Tryz.func159,Tryz.ntmps159
 go_wp2_with fail
 refine hb.mono ?_
 clear hb
 rintro e w1 ⟨rfl,h1,K1⟩
 go_wp2_with fail
 obtain⟨cw,c,cs,hc⟩:=h1.cell1
 have hcat:¬(9223372036854775807<s.size+(zeroB.extract s.size zeroB.size).size):=by rw[ByteArray.size_extract,zeroB_size];omega
 have hzs:zeroB.size=256:=zeroB_size
 obtain⟨i0,hi0,hz0,hz1,hz2⟩:=info_parts info_write
 have hDlt:D<w1.heap.size:=by obtain⟨c,h2,_⟩:=h1.head;exact lt_of_heap h2
 have f1:=h1.cell2.2 1
 go_region_law (first
  | (go_simp;go_at_call 30;refine(zero_any _).mono ?_;rintro e w2 ⟨rfl,K2'⟩;have K2:Keep NoB w1 w2:=((Keep.refl NoB w1).drew).thenN K2';have cw2:=(K2.cell (p:=⟨D,1,none⟩) hDlt (λx=>x)).trans cw;have hD2:D<w2.heap.size:=Nat.lt_of_lt_of_le hDlt K2.size)
  | (refine step_append_s rfl _ _ 75 rfl 0 256 i0 (.agg #[.int .i64 0,.string ⟨#[]⟩]) 2 24 Tryz.underlying75 hi0 hz0 hz1 hz2 rfl (by decide) wv wait.length (waitCells wait) rfl ((h1.waits.keep K2 (λ_ _ x=>x)).alloc _) ⟨w2.heap.size,0,none⟩ 1 1 [.int .i64 k,.string (padB s)] rfl rfl (cells_new _ _ _) (by intro u hu;simp only[List.mem_cons,List.not_mem_nil,or_false]at hu;rcases hu with rfl|rfl<;>rfl) (by unfold maxLen;omega) (by omega) (Nat.zero_le _) ?_;intro v3 w3 own3 hgrow3 where3;have K3:Keep (λb=>wv.ownBlock=some b) w2 w3:=((Keep.refl _ w2).alloc _).grown hgrow3 (λc hc=> .inl hc);have c3:=(K3.cell (p:=⟨D,1,none⟩) (Nat.lt_of_lt_of_le hDlt K2.size) (λhb=>(h1.apart.2 D hb).1 rfl)).trans cw2;have f3:=(K3.frozen (p:=⟨D,1,none⟩) (Nat.lt_of_lt_of_le hDlt K2.size) (λhb=>(h1.apart.2 D hb).1 rfl)).trans ((K2.frozen (p:=⟨D,1,none⟩) hDlt (λx=>x)).trans f1);obtain⟨g3,cap3,rfl,_,_⟩:=own3.some (by omega)))
 all_goals
  have own4:OwnsN w3 0 256 2 (.slice (some ⟨g3,0,none⟩) (wait.length+1) cap3) (wait++ [(k,padB s)]).length (waitCells (wait++ [(k,padB s)])):=by
   rw[List.length_append,waitCells_append];exact own3
  have hwh:(Value.slice (some ⟨g3,0,none⟩) (wait.length+1) cap3).ownBlock=wv.ownBlock∨∀b,(Value.slice (some ⟨g3,0,none⟩) (wait.length+1) cap3).ownBlock=some b->w2.heap.size<=b:=
   where3.imp id (λhh b hb=>by have:=hh b hb;simp at this;omega)
  obtain⟨hd,hk2⟩:=(h1.keep K2 (λ_ _ x=>x)).append K3 own4 hwh (by rw[List.length_append];simp;omega) (λp hp=>by rcases List.mem_append.1 hp with hp|hp;exact h1.ats p hp;obtain rfl:=List.mem_singleton.1 hp;exact hk)
  have hsz1:=K1.size
  have hsz2:=K2.size
  clear own3 own4 where3 hgrow3
  go_wp2_with fail
  go_ret
  exact⟨rfl,⟨_,hd,hwh.imp id (λhh b hb=>Nat.le_trans (Nat.le_trans hsz1 hsz2) (hh b hb))⟩,((K1.mono (λb _ hb=>Or.inl hb)).thenN K2).then hk2⟩
end Go.Proofs.YtnmhgehpddipdaaGreatDoor
namespace Go.Proofs.YtnmhgehpddipdaaGreatDoor
open Go.RowKit Go.Cof
theorem write_spent{w:World}{D S:Nat}{wv:Value}{sure:List ByteArray}{wait:List (Nat×ByteArray)}(h:DevAt w D S wv sure wait 0)(k:Nat)(s:ByteArray)(hk:k<66)(hs:s.size<=256):
  Calls Tryz.prog 159 #[.pointer (some ⟨D,0,none⟩),.int .i64 k,.string s] w λe w'=>e= .returned (.iface 40 (.int .i64 14))∧DevAt w' D S wv sure wait 0∧Keep (OneB D) w w':=by
 have j1:(k:Int)<66:=by omega
 have j2:(s.size:Int)<=256:=by omega
 have hb:=burn_any h
 rw[show decide ((0:Int)≠0)=false from rfl,show burnt 0=0 from rfl]at hb
 go_enter Tryz.func159,Tryz.ntmps159
 go_wp2_with fail
 refine hb.mono ?_
 clear hb
 rintro e w1 ⟨rfl,h1,K1⟩
 go_wp2_with fail
 go_ret
 exact⟨rfl,h1,K1⟩
def CountAt(w:World)(B:Nat)(n:Int):Prop:=w.heap[B]? =some (.cells #[.int .i64 n] 33 (0,0))
theorem CountAt.keep{w w':World}{B:Nat}{n:Int}(h:CountAt w B n){X:Nat->Prop}(hk:Keep X w w')(hn:¬X B):CountAt w' B n:=hk.heap h hn
theorem CountAt.cell{w:World}{B:Nat}{n:Int}(h:CountAt w B n):w.cell? ⟨B,0,none⟩=some (.int .i64 n)∧w.frozen? ⟨B,0,none⟩=false:=by
 unfold CountAt at h
 exact⟨by simp[World.cell?,h],by simp[World.frozen?,h]⟩
theorem CountAt.set{w:World}{B:Nat}{n:Int}(h:CountAt w B n)(m:Int):CountAt (w.setCell ⟨B,0,none⟩ (.int .i64 m)) B m:=by
 have hlt:=lt_of_heap h
 unfold CountAt at*
 have h':w.heap[B]= .cells #[.int .i64 n] 33 (0,0):=by simpa [Array.getElem?_eq_getElem hlt]using h
 show(w.heap.modify B _)[B]? =_
 rw[Array.getElem?_eq_getElem (by simpa using hlt),Array.getElem_modify_self,h']
 rfl
theorem get_any{w:World}{B:Nat}{n:Int}(h:CountAt w B n):Calls Tryz.prog 70 #[.pointer (some ⟨B,0,none⟩)] w λe w'=>e= .returned (.int .i64 n)∧w'=w:=by
 obtain⟨c,f⟩:=h.cell
 go_enter Tryz.func70,Tryz.ntmps70
 go_wp2
 go_ret
 exact⟨rfl,rfl⟩
theorem raise_yes{w:World}{B:Nat}{n:Int}(h:CountAt w B n)(m:Int)(hm:n<m):Calls Tryz.prog 73 #[.pointer (some ⟨B,0,none⟩),.int .i64 m] w λe w'=>e= .returned .nilIface∧CountAt w' B m∧Keep (OneB B) w w':=by
 obtain⟨c,f⟩:=h.cell
 have hs:=h.set m
 go_enter Tryz.func73,Tryz.ntmps73
 go_wp2
 go_ret
 exact⟨rfl,hs,(Keep.refl _ _).set1 _ _⟩
theorem raise_no{w:World}{B:Nat}{n:Int}(h:CountAt w B n)(m:Int)(hm:m<=n):Calls Tryz.prog 73 #[.pointer (some ⟨B,0,none⟩),.int .i64 m] w λe w'=>e= .returned (.iface 40 (.int .i64 10))∧w'=w:=by
 obtain⟨c,f⟩:=h.cell
 go_enter Tryz.func73,Tryz.ntmps73
 go_wp2
 go_ret
 exact⟨rfl,rfl⟩
end Go.Proofs.YtnmhgehpddipdaaGreatDoor
