import Derived.Test.YtnmhgehpddipdaaGreatDoorYAN
import Derived.Deep.MidRow
set_option linter.unusedSimpArgs false
set_option linter.unusedVariables false
namespace Go.Cof
open Go.RowKit
def applyW(sure:List ByteArray)(l:List (Nat×ByteArray)):List ByteArray:=l.foldl (λacc p=>acc.set p.1 p.2) sure
theorem applyW_len(l:List (Nat×ByteArray)):∀sure:List ByteArray,(applyW sure l).length=sure.length:=by
 induction l with
 | nil=>intro sure;rfl
 | cons p l ih=>intro sure;rw[applyW,List.foldl_cons,<-applyW,ih,List.length_set]
theorem applyW_take(sure:List ByteArray)(l:List (Nat×ByteArray))(k:Nat)(hk:k<l.length):applyW sure (l.take (k+1))=(applyW sure (l.take k)).set (l.getD k (0,⟨#[]⟩)).1 (l.getD k (0,⟨#[]⟩)).2:=by
 have e:l.take (k+1)=l.take k++ [l.getD k (0,⟨#[]⟩)]:=by
  rw[List.take_succ_eq_append_getElem hk,List.getD_eq_getElem?_getD,List.getElem?_eq_getElem hk];rfl
 rw[e,applyW,applyW,List.foldl_append];rfl
theorem waitCells_at(l:List (Nat×ByteArray)):∀(k:Nat),k<l.length->(waitCells l)[2*k]? =some (.int .i64 ((l.getD k (0,⟨#[]⟩)).1:Int))∧(waitCells l)[2*k+1]? =some (.string (l.getD k (0,⟨#[]⟩)).2):=by
 induction l with
 | nil=>intro k hk;simp at hk
 | cons p l ih=>
  intro k hk
  cases k with
  | zero=>exact⟨rfl,rfl⟩
  | succ k=>
   have h:=ih k (by simpa using hk)
   have e:waitCells (p::l)= .int .i64 (p.1:Int):: .string p.2::waitCells l:=rfl
   rw[e,show 2*(k+1)=2*k+1+1 by omega,show 2*k+1+1+1=(2*k+1)+1+1 by omega]
   simpa using h
end Go.Cof
namespace Go.Proofs.YtnmhgehpddipdaaGreatDoor
open Go.RowKit Go.Cof
theorem DevAt.setSure{w:World}{D S:Nat}{wv:Value}{sure:List ByteArray}{wait:List (Nat×ByteArray)}{fuse:Int}(h:DevAt w D S wv sure wait fuse)(i:Nat)(_:i<66)(s:ByteArray):
  DevAt (w.setCell ⟨S,i,none⟩ (.string s)) D S wv (sure.set i s) wait fuse:=by
 have K:Keep (OneB S) w (w.setCell ⟨S,i,none⟩ (.string s)):=(Keep.refl _ _).set1 _ _
 obtain⟨c,h2,h3⟩:=h.head
 obtain⟨cur,h4,h5⟩:=h.row
 have hcs:66<=cur.size:=by
  have:=congrArg List.length h5
  rw[List.length_take,strCells,List.length_map,h.len,Array.length_toList]at this
  omega
 refine⟨⟨c,K.heap h2 (λe=>h.apart.1 e.symm),h3⟩,⟨cur.setIfInBounds i (.string s),?_,?_⟩,h.waits.keep K (λb hb=>(h.apart.2 b hb).2),by rw[List.length_set];exact h.len,h.lo,h.hi,h.apart,h.small,h.ats⟩
 ·have hlt:=lt_of_heap h4
  have h':w.heap[S]= .cells cur 9 (0,0):=by simpa [Array.getElem?_eq_getElem hlt]using h4
  show(w.heap.modify S _)[S]? =_
  rw[Array.getElem?_eq_getElem (by simpa using hlt),Array.getElem_modify_self,h']
  rfl
 ·rw[Array.toList_setIfInBounds,List.take_set,h5,strCells,strCells,List.map_set]
theorem DevAt.block{w:World}{D S:Nat}{wv:Value}{sure:List ByteArray}{wait:List (Nat×ByteArray)}{fuse:Int}(h:DevAt w D S wv sure wait fuse)(i:Nat)(hi:i<66):
  w.cell? ⟨S,i,none⟩=some (.string (sure.getD i ⟨#[]⟩))∧w.frozen? ⟨S,i,none⟩=false:=by
 obtain⟨cur,h4,h5⟩:=h.row
 refine⟨?_,by simp[World.frozen?,h4]⟩
 rw[cell_of_row w S i cur 9 (0,0) h4]
 have h1:(cur.toList.take 66)[i]? =(strCells sure)[i]? :=by rw[h5]
 rw[List.getElem?_take,if_pos hi]at h1
 simp only[Array.getElem?_toList]at h1
 rw[h1,strCells,List.getElem?_map,List.getD_eq_getElem?_getD,List.getElem?_eq_getElem (by rw[h.len];exact hi)]
 rfl
set_option maxRecDepth 100000 in
set_option maxHeartbeats 4000000 in
theorem sync_ok{w:World}{D S:Nat}{wv:Value}{sure:List ByteArray}{wait:List (Nat×ByteArray)}{fuse:Int}(h:DevAt w D S wv sure wait fuse)(hf:fuse≠0):
  Calls Tryz.prog 160 #[.pointer (some ⟨D,0,none⟩)] w λe w'=>e= .returned .nilIface∧DevAt w' D S (.slice none 0 0) (applyW sure wait) [] (burnt fuse)∧Keep (DevB D S wv) w w':=by
 obtain⟨p,c,hpc⟩:∃p c,wv= .slice p wait.length c:=by
  rcases h.waits.2 with⟨hv,h0⟩|⟨g,cap,cur,fz,hv,_⟩
  ·exact⟨_,_,by rw[hv,h0]⟩
  ·exact⟨_,_,hv⟩
 subst hpc
 obtain⟨n,hn⟩:∃n,n=wait.length:=⟨_,rfl⟩
 rw[<-hn]at h
 rw[<-hn]
 have hn6:n<=1000000:=by rw[hn];exact h.small
 have Hn:=Lib.hid hn
 clear hn
 have hb:=burn_any h
 rw[show decide (fuse≠0)=true by simp;exact hf]at hb
 have Hf:=Lib.hid hf
 clear hf
 go_enter Tryz.func160,Tryz.ntmps160
 go_wp2_with fail
 refine hb.mono ?_
 clear hb
 rintro e w1 ⟨rfl,h1,K1⟩
 have cw:=h1.cell1.1
 go_wp2_with fail
 refine wp_world (λw2=>DevAt w2 D S (.slice p n c) (applyW sure (wait.take 0)) wait (burnt fuse)∧Keep (DevB D S (.slice p n c)) w w2) ⟨h1,K1.mono (λb _ hb=>Or.inl hb)⟩ ?_
 clear cw h1 K1
 intro w2 hw2
 go_loopw [14] (λi wr=>∃k:Nat,k<=n∧i= .int .i64 k∧DevAt wr D S (.slice p n c) (applyW sure (wait.take k)) wait (burnt fuse)∧Keep (DevB D S (.slice p n c)) w wr) (λi _=>n-(intOf i).toNat)
 case atStart=>exact⟨0,by omega,rfl,hw2⟩
 case round=>
  clear hw2 w2
  obtain⟨k,hk,rfl,hd,K⟩:=hrel
  by_cases hlt:k<n
  ·have j1:decide (k<n)=true:=by simp;omega
   have hw':=hd.waits
   rw[<-Hn.out]at hw'
   obtain⟨g,cap,hv,_⟩:=hw'.some (by omega)
   cases hv
   obtain⟨x,hx⟩:∃x,x=wait.getD k (0,⟨#[]⟩):=⟨_,rfl⟩
   obtain⟨q,s⟩:=x
   have hq:q<66:=by
    have hm:(q,s)∈wait:=by
     rw[hx,List.getD_eq_getElem?_getD,List.getElem?_eq_getElem (by rw[<-Hn.out];exact hlt)]
     exact List.getElem_mem _
    exact hd.ats _ hm
   have hcw:=waitCells_at wait k (by rw[<-Hn.out];exact hlt)
   rw[<-hx]at hcw
   have hap:=applyW_take sure wait k (by rw[<-Hn.out];exact hlt)
   rw[<-hx]at hap
   have hcell:=hd.waits.cells (g:=g) rfl
   have hadd:∀m,(⟨g,0,none⟩:Addr).add m=⟨g,m,none⟩:=λm=>by unfold Addr.add;split<;>simp_all
   have cq:wr.cell? ⟨g,k*2,none⟩=some (.int .i64 (q:Int)):=by rw[Nat.mul_comm,<-hadd];exact hcell _ _ hcw.1
   have cs:wr.cell? ⟨g,k*2+1,none⟩=some (.string s):=by rw[Nat.mul_comm,<-hadd];exact hcell _ _ hcw.2
   clear hadd hw'
   have Hap:=Lib.hid hap
   have Hx:=Lib.hid hx
   clear hcell hcw hap hx
   have hqi:(q:Int)<66:=by omega
   obtain⟨cS,hc0,hcS⟩:=hd.cell1.2
   obtain⟨cb,fb⟩:=hd.block q hq
   have hlt1:D<wr.heap.size:=by obtain⟨c,h2,_⟩:=hd.head;exact lt_of_heap h2
   have hlt2:S<wr.heap.size:=by obtain⟨c,h2,_⟩:=hd.row;exact lt_of_heap h2
   go_wp2_with fail
   refine wp_region_qt_drew 9 (by kernel_rfl) (by kernel_rfl) ?_
   simp only[List.take_succ_cons,List.take_zero,List.drop_succ_cons,List.drop_zero]
   repeat(quiet_step (fail))
   refine wpQuiet_nil ?_
   intro nq
   go_wp2_with fail
   have Kx:Keep NoB wr ((wr.alloc (.cells #[.int .i64 (q:Int),.string s] 256)).drewN nq):=((Keep.refl NoB wr).alloc _).drewN nq
   have hd2:=(hd.keep Kx (λ_ _ x=>x)).setSure q hq s
   rw[<-Hap.out]at hd2
   exact⟨⟨k+1,by omega,by go_num,hd2,(K.thenN Kx).setCell (p:=⟨S,q,none⟩) (.inl (Or.inr (Or.inl rfl))) _⟩,by simp[intOf];omega⟩
  ·have hkn:wait.take k=wait:=List.take_of_length_le (by rw[<-Hn.out];omega)
   rw[hkn]at hd
   have j1:decide (k<n)=false:=by simp;omega
   have c1:=hd.cell1.1
   have f1:=hd.cell2.2 1
   have hd2:=hd.setWait (.slice none 0 0) [] (OwnsN.nil _ _ _ _) (λb hb=>by cases hb) (Nat.zero_le _) (λp hp=>by cases hp)
   clear hkn hlt hk
   go_wp2_with fail
   go_ret
   exact⟨rfl,hd2,K.setCell (p:=⟨D,1,none⟩) (.inl (Or.inl rfl)) _⟩
theorem sync_spent{w:World}{D S:Nat}{wv:Value}{sure:List ByteArray}{wait:List (Nat×ByteArray)}(h:DevAt w D S wv sure wait 0):
  Calls Tryz.prog 160 #[.pointer (some ⟨D,0,none⟩)] w λe w'=>e= .returned (.iface 40 (.int .i64 14))∧DevAt w' D S wv sure wait 0∧Keep (OneB D) w w':=by
 have hb:=burn_any h
 rw[show decide ((0:Int)≠0)=false from rfl,show burnt 0=0 from rfl]at hb
 go_enter Tryz.func160,Tryz.ntmps160
 go_wp2_with fail
 refine hb.mono ?_
 clear hb
 rintro e w1 ⟨rfl,h1,K1⟩
 go_wp2_with fail
 go_ret
 exact⟨rfl,h1,K1⟩
end Go.Proofs.YtnmhgehpddipdaaGreatDoor
namespace Go.Cof
open Go.RowKit
def crashTo(sure:List ByteArray)(wait:List (Nat×ByteArray))(keeps:List Bool):Nat->List ByteArray
 | 0=>sure
 | k+1=>if keeps.getD k false then(crashTo sure wait keeps k).set (wait.getD k (0,⟨#[]⟩)).1 (wait.getD k (0,⟨#[]⟩)).2 else crashTo sure wait keeps k
end Go.Cof
namespace Go.Proofs.YtnmhgehpddipdaaGreatDoor
open Go.RowKit Go.Cof
end Go.Proofs.YtnmhgehpddipdaaGreatDoor
