import Derived.Test.YtnmhgehpddipdaaGreatDoorYAD
import Derived.Test.YtnmhgehpddipdaaGreatDoorYAF
import Derived.Test.YtnmhgehpddipdaaGreatDoorYAS
import Derived.Test.YtnmhgehpddipdaaGreatDoorYBJ
import Derived.Test.YtnmhgehpddipdaaGreatDoorYBK
import Derived.Test.YtnmhgehpddipdaaGreatDoorYBL
import Derived.Deep.CutBlock
import Derived.Deep.DeepCutAuto
import Derived.RegionTactic
set_option linter.unusedSimpArgs false
set_option linter.unusedVariables false
namespace Go.Cof
open Go.RowKit Go.Proofs.YtnmhgehpddipdaaGreatDoor
theorem get_mid{α:Type}(A B C:List α)(n i:Nat)(hA:A.length=n)(h:i<B.length):(A++B++C)[n+i]? =B[i]? :=by
 rw[List.append_assoc,List.getElem?_append_right (by omega),List.getElem?_append_left (by omega)]
 congr 1
 omega
theorem set_mid{α:Type}(A B C:List α)(n i:Nat)(v:α)(hA:A.length=n)(h:i<B.length):(A++B++C).set (n+i) v=A++B.set i v++C:=by
 rw[List.append_assoc,List.set_append_right _ _ (by omega),List.set_append_left _ _ (by omega),List.append_assoc]
 congr 3
 omega
def vaultCells(D C:Nat)(V:VaultV):List Value:= [Value.pointer (some ⟨D,0,none⟩),.pointer (some ⟨C,0,none⟩),.string V.secret]++supCells V.now++V.texts.map Value.string++V.marks.map Value.string++ [Value.bool V.dead]
structure VaultLens(V:VaultV):Prop where
 sides:V.now.sides.length=32
 texts:V.texts.length=32
 marks:V.marks.length=32
section
variable {D C:Nat}{V:VaultV}
theorem supCells_len'{x:SupV}(h:x.sides.length=32):(supCells x).length=35:=supCells_len x h
theorem vaultCells_len(h:VaultLens V):(vaultCells D C V).length=103:=by
 simp only[vaultCells,List.length_append,List.length_map,supCells_len' h.sides,h.texts,h.marks,List.length_cons,List.length_nil]
theorem vault_now(h:VaultLens V)(i:Nat)(hi:i<35):(vaultCells D C V)[3+i]? =(supCells V.now)[i]? :=by
 rw[vaultCells,List.append_assoc,List.append_assoc,get_mid _ _ _ 3 i rfl (by rw[supCells_len' h.sides];exact hi)]
theorem vault_text(h:VaultLens V)(i:Nat)(hi:i<32):(vaultCells D C V)[38+i]? =some (.string (V.texts.getD i ⟨#[]⟩)):=by
 rw[vaultCells,List.append_assoc,get_mid _ _ _ 38 i (by simp only[List.length_append,supCells_len' h.sides,List.length_cons,List.length_nil]) (by rw[List.length_map,h.texts];exact hi),List.getElem?_map,List.getElem?_eq_getElem (by rw[h.texts];exact hi)]
 simp[List.getD_eq_getElem?_getD,h.texts,hi]
theorem vault_mark(h:VaultLens V)(i:Nat)(hi:i<32):(vaultCells D C V)[70+i]? =some (.string (V.marks.getD i ⟨#[]⟩)):=by
 rw[vaultCells,get_mid _ _ _ 70 i (by simp only[List.length_append,List.length_map,supCells_len' h.sides,h.texts,List.length_cons,List.length_nil]) (by rw[List.length_map,h.marks];exact hi),List.getElem?_map,List.getElem?_eq_getElem (by rw[h.marks];exact hi)]
 simp[List.getD_eq_getElem?_getD,h.marks,hi]
theorem vault_dead(h:VaultLens V):(vaultCells D C V)[102]? =some (.bool V.dead):=by
 rw[vaultCells,List.getElem?_append_right (by simp only[List.length_append,List.length_map,supCells_len' h.sides,h.texts,h.marks,List.length_cons,List.length_nil];omega)]
 simp only[List.length_append,List.length_map,supCells_len' h.sides,h.texts,h.marks,List.length_cons,List.length_nil]
 rfl
def setText(V:VaultV)(i:Nat)(s:ByteArray):VaultV:= { V with texts:=V.texts.set i s }
def setMark(V:VaultV)(i:Nat)(s:ByteArray):VaultV:= { V with marks:=V.marks.set i s }
def setNow(V:VaultV)(x:SupV):VaultV:= { V with now:=x }
def setMarks(V:VaultV)(l:List ByteArray):VaultV:= { V with marks:=l }
theorem VaultLens.text(h:VaultLens V)(i:Nat)(s:ByteArray):VaultLens (setText V i s):=⟨h.sides,by simp[setText,h.texts],h.marks⟩
theorem VaultLens.mark(h:VaultLens V)(i:Nat)(s:ByteArray):VaultLens (setMark V i s):=⟨h.sides,h.texts,by simp[setMark,h.marks]⟩
theorem VaultLens.now(h:VaultLens V){x:SupV}(hx:x.sides.length=32):VaultLens (setNow V x):=⟨hx,h.texts,h.marks⟩
theorem VaultLens.allMarks(h:VaultLens V){l:List ByteArray}(hl:l.length=32):VaultLens (setMarks V l):=⟨h.sides,h.texts,hl⟩
theorem VaultLens.die(h:VaultLens V):VaultLens (dieV V):=⟨h.sides,h.texts,h.marks⟩
theorem vault_setText(h:VaultLens V)(i:Nat)(hi:i<32)(s:ByteArray):(vaultCells D C V).set (38+i) (.string s)=vaultCells D C (setText V i s):=by
 rw[vaultCells,List.append_assoc,set_mid _ _ _ 38 i _ (by simp only[List.length_append,supCells_len' h.sides,List.length_cons,List.length_nil]) (by rw[List.length_map,h.texts];exact hi),<-List.map_set,<-List.append_assoc]
 rfl
theorem vault_setMark(h:VaultLens V)(i:Nat)(hi:i<32)(s:ByteArray):(vaultCells D C V).set (70+i) (.string s)=vaultCells D C (setMark V i s):=by
 rw[vaultCells,set_mid _ _ _ 70 i _ (by simp only[List.length_append,List.length_map,supCells_len' h.sides,h.texts,List.length_cons,List.length_nil]) (by rw[List.length_map,h.marks];exact hi),<-List.map_set]
 rfl
theorem vault_setDead(h:VaultLens V):(vaultCells D C V).set 102 (.bool true)=vaultCells D C (dieV V):=by
 rw[vaultCells,List.set_append_right _ _ (by simp only[List.length_append,List.length_map,supCells_len' h.sides,h.texts,h.marks,List.length_cons,List.length_nil];omega)]
 simp only[List.length_append,List.length_map,supCells_len' h.sides,h.texts,h.marks,List.length_cons,List.length_nil]
 rfl
theorem vault_setNow(h:VaultLens V){x:SupV}(hx:x.sides.length=32):partSet (vaultCells D C V).toArray 3 (supCells x).toArray=(vaultCells D C (setNow V x)).toArray:=by
 rw[partSet,List.size_toArray,supCells_len' hx]
 congr 1
 show List.take 3 (vaultCells D C V)++supCells x++List.drop 38 (vaultCells D C V)=_
 have e:vaultCells D C V=([Value.pointer (some ⟨D,0,none⟩),.pointer (some ⟨C,0,none⟩),.string V.secret]++supCells V.now)++(V.texts.map Value.string++V.marks.map Value.string++ [Value.bool V.dead]):=by
  simp only[vaultCells,List.append_assoc]
 have hd:List.drop 38 (vaultCells D C V)=V.texts.map Value.string++V.marks.map Value.string++ [Value.bool V.dead]:=by
  rw[e];exact List.drop_left' (by simp only[List.length_append,supCells_len' h.sides,List.length_cons,List.length_nil])
 have ht:List.take 3 (vaultCells D C V)= [Value.pointer (some ⟨D,0,none⟩),.pointer (some ⟨C,0,none⟩),.string V.secret]:=rfl
 rw[hd,ht]
 simp only[vaultCells,setNow,List.append_assoc]
theorem vault_setMarks(h:VaultLens V){l:List ByteArray}(hl:l.length=32):partSet (vaultCells D C V).toArray 70 (l.map Value.string).toArray=(vaultCells D C (setMarks V l)).toArray:=by
 rw[partSet,List.size_toArray,List.length_map,hl]
 congr 1
 show List.take 70 (vaultCells D C V)++l.map Value.string++List.drop 102 (vaultCells D C V)=_
 have e:vaultCells D C V=([Value.pointer (some ⟨D,0,none⟩),.pointer (some ⟨C,0,none⟩),.string V.secret]++supCells V.now++V.texts.map Value.string++V.marks.map Value.string)++ [Value.bool V.dead]:=by
  simp only[vaultCells,List.append_assoc]
 have e2:vaultCells D C V=([Value.pointer (some ⟨D,0,none⟩),.pointer (some ⟨C,0,none⟩),.string V.secret]++supCells V.now++V.texts.map Value.string)++(V.marks.map Value.string++ [Value.bool V.dead]):=by
  simp only[vaultCells,List.append_assoc]
 have hd:List.drop 102 (vaultCells D C V)= [Value.bool V.dead]:=by
  rw[e];exact List.drop_left' (by simp only[List.length_append,List.length_map,supCells_len' h.sides,h.texts,h.marks,List.length_cons,List.length_nil])
 have ht:List.take 70 (vaultCells D C V)= [Value.pointer (some ⟨D,0,none⟩),.pointer (some ⟨C,0,none⟩),.string V.secret]++supCells V.now++V.texts.map Value.string:=by
  rw[e2];exact List.take_left' (by simp only[List.length_append,List.length_map,supCells_len' h.sides,h.texts,List.length_cons,List.length_nil])
 rw[hd,ht]
 simp only[vaultCells,setMarks,List.append_assoc]
theorem str_one(l:List ByteArray):(l.map Value.string).toArray.all (·.oneCell')=true:=by
 rw[Array.all_eq_true_iff_forall_mem]
 intro v hv
 obtain⟨s,_,rfl⟩:=List.mem_map.1 (by simpa using hv)
 rfl
end
end Go.Cof
namespace Go.Proofs.YtnmhgehpddipdaaGreatDoor
open Go.RowKit Go.Cof
structure VaultAt(w:World)(B D C:Nat)(V:VaultV):Prop where
 row:w.heap[B]? =some (.cells (vaultCells D C V).toArray 130 (0,0))
 lens:VaultLens V
section
variable {w w':World}{B D C:Nat}{V:VaultV}
theorem VaultAt.lt(h:VaultAt w B D C V):B<w.heap.size:=lt_of_heap h.row
theorem VaultAt.keep(h:VaultAt w B D C V){S:Nat->Prop}(hk:Keep S w w')(hn:¬S B):VaultAt w' B D C V:=⟨hk.heap h.row hn,h.lens⟩
theorem VaultAt.cell(h:VaultAt w B D C V)(i:Nat){v:Value}(hv:(vaultCells D C V)[i]? =some v):w.cell? ⟨B,i,none⟩=some v:=by
 rw[cell_of_row _ _ i _ _ (0,0) h.row];simpa using hv
theorem VaultAt.dev(h:VaultAt w B D C V):w.cell? ⟨B,0,none⟩=some (.pointer (some ⟨D,0,none⟩)):=h.cell 0 rfl
theorem VaultAt.cnt(h:VaultAt w B D C V):w.cell? ⟨B,1,none⟩=some (.pointer (some ⟨C,0,none⟩)):=h.cell 1 rfl
theorem VaultAt.secret(h:VaultAt w B D C V):w.cell? ⟨B,2,none⟩=some (.string V.secret):=h.cell 2 rfl
theorem VaultAt.count(h:VaultAt w B D C V):w.cell? ⟨B,3,none⟩=some (.int .i64 V.now.count):=h.cell 3 rfl
theorem VaultAt.epoch(h:VaultAt w B D C V):w.cell? ⟨B,4,none⟩=some (.int .i64 V.now.epoch):=h.cell 4 rfl
theorem VaultAt.text(h:VaultAt w B D C V)(i:Nat)(hi:i<32):w.cell? ⟨B,38+i,none⟩=some (.string (V.texts.getD i ⟨#[]⟩)):=h.cell _ (vault_text h.lens i hi)
theorem VaultAt.mark(h:VaultAt w B D C V)(i:Nat)(hi:i<32):w.cell? ⟨B,70+i,none⟩=some (.string (V.marks.getD i ⟨#[]⟩)):=h.cell _ (vault_mark h.lens i hi)
theorem VaultAt.dead(h:VaultAt w B D C V):w.cell? ⟨B,102,none⟩=some (.bool V.dead):=h.cell _ (vault_dead h.lens)
theorem VaultAt.free(h:VaultAt w B D C V)(i:Nat):w.frozen? ⟨B,i,none⟩=false:=Lib.frozen_of_heap h.row i
theorem VaultAt.setText(h:VaultAt w B D C V)(i:Nat)(hi:i<32)(s:ByteArray):VaultAt (w.setCell ⟨B,38+i,none⟩ (.string s)) B D C (Cof.setText V i s):=by
 refine⟨?_,h.lens.text i s⟩
 rw[heap_setCell_row h.row,List.setIfInBounds_toArray,vault_setText h.lens i hi]
theorem VaultAt.setMark(h:VaultAt w B D C V)(i:Nat)(hi:i<32)(s:ByteArray):VaultAt (w.setCell ⟨B,70+i,none⟩ (.string s)) B D C (Cof.setMark V i s):=by
 refine⟨?_,h.lens.mark i s⟩
 rw[heap_setCell_row h.row,List.setIfInBounds_toArray,vault_setMark h.lens i hi]
theorem VaultAt.setDead(h:VaultAt w B D C V):VaultAt (w.setCell ⟨B,102,none⟩ (.bool true)) B D C (dieV V):=by
 refine⟨?_,h.lens.die⟩
 rw[heap_setCell_row h.row,List.setIfInBounds_toArray,vault_setDead h.lens]
theorem VaultAt.setNow(h:VaultAt w B D C V){x:SupV}(hx:x.sides.length=32):VaultAt (w.setRow B (partSet (vaultCells D C V).toArray 3 (supCells x).toArray)) B D C (Cof.setNow V x):=by
 refine⟨?_,h.lens.now hx⟩
 rw[heap_setRow h.row,vault_setNow h.lens hx]
theorem VaultAt.setMarks(h:VaultAt w B D C V){l:List ByteArray}(hl:l.length=32):VaultAt (w.setRow B (partSet (vaultCells D C V).toArray 70 (l.map Value.string).toArray)) B D C (Cof.setMarks V l):=by
 refine⟨?_,h.lens.allMarks hl⟩
 rw[heap_setRow h.row,vault_setMarks h.lens hl]
end
set_option maxRecDepth 100000 in
theorem key_any(secret:ByteArray)(epoch:Int)(hs:secret.size<=1000)(w:World)(V:RoundsVar w):
  Calls Tryz.prog 140 #[.string secret,.int .i64 epoch] w λe w'=>e= .returned (.string (keyV secret epoch))∧Keep NoB w w':=by
 obtain⟨A,hA⟩:∃A,A=txt (be64 (u64n epoch)):=⟨_,rfl⟩
 have bA:bs A=be64 (u64n epoch):=by rw[hA,bs_txt (be64_bytes _)]
 have hl:(markText 107 ([secret,A].map bs)).length<=100000:=by
  simp only[List.map_cons,List.map_nil,bA,markText,List.foldl_cons,List.foldl_nil,List.length_append,List.length_cons,List.length_nil,be64_len,bs_len];omega
 obtain⟨M,hM⟩:∃M,M=txt (Cof.mark 107 [bs secret,be64 (u64n epoch)]):=⟨_,rfl⟩
 have bM:bs M=Cof.mark 107 [bs secret,be64 (u64n epoch)]:=by rw[hM,bs_txt (mark_bytes _ _)]
 have hr:txt (Cof.mark 107 ([secret,A].map bs))=M:=by rw[hM];simp only[List.map_cons,List.map_nil,bA]
 have hk:txt (sha (bs M))=keyV secret epoch:=by rw[bM];rfl
 have hMs:M.size<=100000:=by rw[hM,txt_size,mark_len];omega
 have HA:=Lib.hid hA
 have Hr:=Lib.hid hr
 have Hk:=Lib.hid hk
 have Hl:=Lib.hid hl
 clear hA hM bA bM hr hl hk
 go_enter Tryz.func140,Tryz.ntmps140
 go_wp2_with fail
 refine(num_int epoch _).mono ?_
 rw[<-HA.out]
 rintro e w1 ⟨rfl,K1⟩
 go_wp2_with fail
 refine(mark_any 107 (by decide) _ [secret,A] _ (V.keep (K1.alloc _) (λx=>x)) (Strs.lit (w:=w1) [secret,A]) Hl.out (by simp)).mono ?_
 rw[Hr.out]
 rintro e w3 ⟨rfl,K3⟩
 have K3':=(K1.alloc (.cells #[.string secret,.string A] 9)).thenN K3
 go_wp2_with fail
 refine(sum_any M hMs _ (V.keep K3' (λx=>x))).mono ?_
 rw[Hk.out]
 rintro e w4 ⟨rfl,K4⟩
 go_wp2_with fail
 go_ret
 exact⟨rfl,K3'.thenN K4⟩
theorem vaultPlace_any(i:Nat)(side:Bool)(hi:i<32)(w:World):
  Calls Tryz.prog 141 #[.int .i64 i,.bool side] w λe w'=>e= .returned (.int .i64 ((placeN i side:Nat):Int))∧w'=w:=by
 have e1:((placeN i side:Nat):Int)=if side then 3+2*(i:Int)else 2+2*(i:Int):=by
  cases side<;>simp[placeN]<;>omega
 rw[e1]
 clear e1
 cases side with
 | true=>
  go_enter Tryz.func141,Tryz.ntmps141
  go_wp2_with fail
  go_ret
  exact⟨rfl,rfl⟩
 | false=>
  go_enter Tryz.func141,Tryz.ntmps141
  go_wp2_with fail
  go_ret
  exact⟨rfl,rfl⟩
theorem vaultGet_any{w:World}{B D C:Nat}{V:VaultV}(h:VaultAt w B D C V)(i:Nat)(hi:i<32):
  Calls Tryz.prog 32 #[.pointer (some ⟨B,0,none⟩),.int .i64 i] w λe w'=>e= .returned (.tuple #[.string (V.texts.getD i ⟨#[]⟩),.nilIface])∧w'=w:=by
 have c:=h.text i hi
 have hlt:=h.lt
 have e0:decide ((i:Int)<0)=false:=by simp
 have e1:decide ((32:Int)<=i)=false:=by simp;omega
 have e2:(i:Int)<32:=by omega
 obtain⟨T,hT⟩:∃T,T=V.texts.getD i ⟨#[]⟩:=⟨_,rfl⟩
 rw[<-hT]at c⊢
 clear hT h
 go_enter Tryz.func32,Tryz.ntmps32
 go_wp2_with fail
 go_ret2
 exact⟨rfl,rfl⟩
theorem vaultCount_any{w:World}{B D C:Nat}{V:VaultV}(h:VaultAt w B D C V):
  Calls Tryz.prog 239 #[.pointer (some ⟨B,0,none⟩)] w λe w'=>e= .returned (.int .i64 V.now.count)∧w'=w:=by
 have c:=h.count
 have hlt:=h.lt
 obtain⟨T,hT⟩:∃T,T=V.now.count:=⟨_,rfl⟩
 rw[<-hT]at c⊢
 clear hT h
 go_enter Tryz.func239,Tryz.ntmps239
 go_wp2_with fail
 go_ret
 exact⟨rfl,rfl⟩
end Go.Proofs.YtnmhgehpddipdaaGreatDoor
namespace Go.Proofs.YtnmhgehpddipdaaGreatDoor
open Go.RowKit Go.Cof
abbrev DevIs(w:World)(D S:Nat)(wv:Value)(d:DevV):Prop:=DevAt w D S wv d.sure d.wait d.fuse
def superOk(secret:ByteArray)(B:List ByteArray)(count:Int):Bool:=decide (parseE (skeyV secret) (B.getD (count % 2).toNat ⟨#[]⟩)=0∧(parseV (skeyV secret) (B.getD (count % 2).toNat ⟨#[]⟩)).count=count)
def superVal(secret:ByteArray)(B:List ByteArray)(count:Int):SupV:=parseV (skeyV secret) (B.getD (count % 2).toNat ⟨#[]⟩)
theorem superV_eq(secret:ByteArray)(B:List ByteArray)(count:Int):superV secret B count=if superOk secret B count=true then some (superVal secret B count)else none:=by
 unfold superV superOk superVal
 split
 ·rename_i h;rw[if_pos (decide_eq_true h)]
 ·rename_i h;rw[if_neg (by rw[decide_eq_false h];decide)]
theorem superVal_sides(secret:ByteArray)(B:List ByteArray)(count:Int):(superVal secret B count).sides.length=32:=parseV_sides _ _
set_option maxRecDepth 100000
set_option maxHeartbeats 8000000 in
theorem vaultSuper_any{w:World}{B D C S:Nat}{V:VaultV}{wv:Value}{d:DevV}(h:VaultAt w B D C V)(hd:DevIs w D S wv d)(hb:∀i,i<66->(d.now.getD i ⟨#[]⟩).size<=1000)(hs:V.secret.size<=1000)(c:Nat)(R:RoundsVar w):
  Calls Tryz.prog 71 #[.pointer (some ⟨B,0,none⟩),.int .i64 c] w λe w'=>e= .returned (.tuple #[supVal (superVal V.secret d.now c),.bool (superOk V.secret d.now c)])∧Keep NoB w w':=by
 obtain⟨q,hq⟩:∃q,q=c % 2:=⟨_,rfl⟩
 have hq2:q<66:=by omega
 have hqe:((c:Int) % 2).toNat=q:=by omega
 obtain⟨s,hsd⟩:∃s,s=d.now.getD q ⟨#[]⟩:=⟨_,rfl⟩
 have hss:s.size<=1000:=by rw[hsd];exact hb q hq2
 have hrd:=λ(W:World) (K:Keep NoB w W)=>read_at (hd.keep K (λ_ _ x=>x)) q hq2
 have hrd2:∀(W:World),Keep NoB w W->Calls Tryz.prog 138 #[.pointer (some ⟨D,0,none⟩),.int .i64 q] W λe w'=>e= .returned (.tuple #[.string s,.nilIface])∧Keep NoB W w':=by
  intro W K;rw[hsd];exact hrd W K
 obtain⟨M,hM⟩:∃M,M=txt (Cof.mark 115 [bs V.secret]):=⟨_,rfl⟩
 have bM:bs M=Cof.mark 115 [bs V.secret]:=by rw[hM,bs_txt (mark_bytes _ _)]
 have hk:txt (sha (bs M))=skeyV V.secret:=by rw[bM];rfl
 have hMs:M.size<=100000:=by rw[hM,txt_size,mark_len];omega
 have hml:(markText 115 ([V.secret].map bs)).length<=100000:=by
  simp only[List.map_cons,List.map_nil,markText,List.foldl_cons,List.foldl_nil,List.length_append,List.length_cons,List.length_nil,be64_len,bs_len];omega
 have hmk:txt (Cof.mark 115 ([V.secret].map bs))=M:=by rw[hM];rfl
 have hSV:superVal V.secret d.now c=parseV (skeyV V.secret) s:=by rw[superVal,hqe,hsd]
 have hSO:superOk V.secret d.now c=decide (parseE (skeyV V.secret) s=0∧(parseV (skeyV V.secret) s).count=c):=by rw[superOk,hqe,hsd]
 rw[hSV,hSO]
 obtain⟨key,hkey⟩:∃k,k=skeyV V.secret:=⟨_,rfl⟩
 have hks:key.size=32:=by rw[hkey];exact skeyV_size _
 rw[<-hkey]at hk⊢
 obtain⟨PV,hPV⟩:∃x,x=parseV key s:=⟨_,rfl⟩
 obtain⟨PE,hPE⟩:∃x,x=parseE key s:=⟨_,rfl⟩
 have hpl:PV.sides.length=32:=by rw[hPV];exact parseV_sides _ _
 have hpa:=λ(W:World) (K:Keep NoB w W)=>supParse_any key s hss W (R.keep K (λx=>x))
 rw[<-hPV,<-hPE]at hpa⊢
 have c0:=h.dev
 have c2:=h.secret
 have hlt:=h.lt
 have hin:=info_super
 have hbz:=built_zero
 have hzl:=zero_len
 obtain⟨cz,hcz⟩:∃cz,cz=(supCells zeroSup).toArray:=⟨_,rfl⟩
 obtain⟨cr,hcr⟩:∃cr,cr=(supCells PV).toArray:=⟨_,rfl⟩
 have hcl:cr.size=35:=by rw[hcr,List.size_toArray,supCells_len PV hpl]
 have hone:cr.all (·.oneCell')=true:=by rw[hcr];exact supCells_one _
 have hcc:cr[0]? =some (.int .i64 PV.count):=by rw[hcr];rfl
 have hsv:supVal PV= .agg cr:=by rw[hcr];rfl
 have hsz:supVal zeroSup= .agg cz:=by rw[hcz];rfl
 rw[hsz]at hin
 rw[<-hcz]at hzl
 rw[hsv]at hpa⊢
 have h35:(Tryz.prog.info? 127).map (·.size)=some cr.size:=by rw[hcl];exact info_super35
 obtain⟨sec,hsec⟩:∃x,x=V.secret:=⟨_,rfl⟩
 rw[<-hsec]at c2 hml hs hmk
 obtain⟨pc,hpc⟩:∃x,x=PV.count:=⟨_,rfl⟩
 rw[<-hpc]at hcc⊢
 have hrem:(c:Int) % 2=(q:Int):=by omega
 have Hin:=Lib.hid hin
 have H35:=Lib.hid h35
 have Hrd:=Lib.hid hrd2
 have Hk:=Lib.hid hk
 have Hml:=Lib.hid hml
 have HM:=Lib.hid hmk
 have Hpa:=Lib.hid hpa
 have HR:=Lib.hid R
 clear hin h35 hrd2 hk hml hpa hPV hPE hkey bM hrd hM hSV hSO hsd hqe hb hd h hcr hcz hbz hsv hsz hpl hmk hsec hpc hq
 go_enter Tryz.func71,Tryz.ntmps71
 go_wp2_with (first|(refine wpList_alloc_row rfl 127 rfl Hin.out ?_;refine wl_world (λw9=>w9.heap[w.heap.size]? =some (.cells cz 127 (0,0))∧Keep NoB w w9) ⟨heap_alloc_new w _,(Keep.refl NoB w).alloc _⟩ ?_;rintro w9 ⟨hX9,K9⟩;have d0:=(K9.cell (p:=⟨B,0,none⟩) hlt (λx=>x)).trans c0;have d2:=(K9.cell (p:=⟨B,2,none⟩) hlt (λx=>x)).trans c2))
 refine(Hrd.out _ K9).mono ?_
 rintro e w1 ⟨rfl,K1⟩
 have hX1:=K1.heap hX9 (λx=>x)
 have K91:=K9.thenN K1
 have d3:=(K91.cell (p:=⟨B,2,none⟩) hlt (λx=>x)).trans c2
 clear K1 K9 hX9 d0 d2 Hrd hrem
 go_wp2_with fail
 have K92:=K91.alloc (.cells #[.string sec] 9)
 refine(mark_any 115 (by decide) _ [sec] _ (HR.out.keep K92 (λx=>x)) (Strs.lit (w:=w1) [sec]) Hml.out (by simp)).mono ?_
 rw[HM.out]
 rintro e w2 ⟨rfl,K2⟩
 have K93:=K92.thenN K2
 go_wp2_with fail
 refine(sum_any M hMs _ (HR.out.keep K93 (λx=>x))).mono ?_
 rw[Hk.out]
 rintro e w3 ⟨rfl,K3⟩
 have K94:=K93.thenN K3
 go_wp2_with fail
 refine(Hpa.out _ K94).mono ?_
 rintro e w4 ⟨rfl,K4⟩
 have K95:=K94.thenN K4
 have hX4:w4.heap[w.heap.size]? =some (.cells cz 127 (0,0)):=K4.heap (K3.heap (K2.heap (((Keep.refl NoB w1).alloc _).heap hX1 (λx=>x)) (λx=>x)) (λx=>x)) (λx=>x)
 clear K91 K92 K93 K94 K2 K3 K4 Hk HM Hml Hpa hX1 d3
 have hne:w.heap.size≠w4.heap.size:=by
  have:=lt_of_heap hX4
  omega
 have Hne:=Lib.hid hne
 clear hne
 by_cases hE:PE=0
 ·have he:errVal PE= .nilIface:=by rw[errVal,if_pos hE]
  rw[he]
  clear he
  go_wp2_with (first|(refine wpList_alloc_row rfl 127 rfl Hin.out ?_;refine wl_world (λw5=>w5.heap[w4.heap.size]? =some (.cells cz 127 (0,0))∧w5.heap[w.heap.size]? =some (.cells cz 127 (0,0))∧Keep NoB w w5) ⟨heap_alloc_new w4 _,((Keep.refl NoB w4).alloc _).heap hX4 (λx=>x),K95.alloc _⟩ ?_;rintro w5 ⟨hY5,hX5,K5⟩)|(refine wpList_store_whole rfl 127 (.tmp 8) (.tmp 32) rfl w4.heap.size 127 cz cr rfl rfl hY5 H35.out 35 hzl hcl hone ?_;refine wl_world (λw6=>w6.heap[w4.heap.size]? =some (.cells cr 127 (0,0))∧w6.heap[w.heap.size]? =some (.cells cz 127 (0,0))∧Keep NoB w w6) ⟨heap_setRow (c':=cr) hY5,(setRow_other _ _ _ _ Hne.out).trans hX5,K5.setRow (g:=w4.heap.size) (.inr (K95.size)) cr⟩ ?_;clear hY5 hX5 K5;rintro w6 ⟨hY6,hX6,K6⟩))
  have y0:∀x:InC (λw9=>w9.heap[w4.heap.size]? =some (.cells cr 127 (0,0))),x.w.cell? ⟨w4.heap.size,0,none⟩=some (.int .i64 pc):=λx=>by rw[cell_of_row _ _ _ _ _ (0,0) x.h];exact hcc
  refine wp_region_take (λw9=>w9.heap[w4.heap.size]? =some (.cells cr 127 (0,0))) [0,1,2,3,4,5,6,7,8] [9,10] (by kernel_rfl) (by kernel_rfl) (λc a d v w h=>by cases d<;>exact h) ?_
  simp only[pickL,List.getElem?_toArray,List.getElem?_cons_succ,List.getElem?_cons_zero]
  refine wpEarlyC_load_part (by rfl) 127 (.tmp 8) rfl w4.heap.size 0 rfl 127 cr (0,0) cr _ (λx=>x.h) (λj v hv=>by rw[Nat.zero_add];exact hv) Tryz.underlying127 rfl H35.out ?_
  repeat(refine wpEarlyC_step (λK hK=> ?_);go_simp;first|(refine⟨_,λ_=>rfl,hK _ ?_⟩;clear hK K)|(refine hK _ ?_;clear hK K))
  refine wpEarlyC_nil ?_
  clear y0
  simp only[wpRowC,pickL,List.getElem?_toArray,List.getElem?_cons_succ,List.getElem?_cons_zero]
  refine⟨hY6,?_⟩
  go_wp2_with (refine wpList_store_whole rfl 127 (.tmp 4) (.tmp 34) rfl w.heap.size 127 cz cr rfl rfl (show w6.drew.heap[w.heap.size]? =_ from hX6) H35.out 35 hzl hcl hone ?_;refine wl_world (λw7=>w7.heap[w.heap.size]? =some (.cells cr 127 (0,0))∧w7.heap[w4.heap.size]? =some (.cells cr 127 (0,0))∧Keep NoB w w7) ⟨heap_setRow (c':=cr) (show w6.drew.heap[w.heap.size]? =_ from hX6),(setRow_other _ _ _ _ (Ne.symm Hne.out)).trans hY6,K6.drew.setRow (g:=w.heap.size) (.inr (Nat.le_refl _)) cr⟩ ?_;clear hY6 hX6 K6;rintro w7 ⟨hX7,hY7,K7⟩)
  refine⟨hY7,?_⟩
  go_wp2_with fail
  refine bodyPost_ret (v:= .tuple #[.agg cr,.bool (pc==(c:Int))]) (results_row_slot rfl _ w7 w.heap.size 127 cr (0,0) _ (.bool (pc==(c:Int))) rfl rfl hX7 Tryz.underlying127 rfl H35.out) rfl ⟨?_,K7⟩
  have hb:(pc==(c:Int))=decide (PE=0∧pc=(c:Int)):=by
   by_cases h:pc=(c:Int)
   ·rw[decide_eq_true ⟨hE,h⟩,h];exact beq_self_eq_true _
   ·rw[decide_eq_false (λh2=>h h2.2)];exact beq_eq_false_iff_ne.2 h
  rw[hb]
 ·have he:errVal PE= .iface 40 (.int .i64 PE):=errVal_one PE hE
  rw[he]
  clear he
  go_wp2_with (first|(refine wpList_alloc_row rfl 127 rfl Hin.out ?_;refine wl_world (λw5=>w5.heap[w4.heap.size]? =some (.cells cz 127 (0,0))∧w5.heap[w.heap.size]? =some (.cells cz 127 (0,0))∧Keep NoB w w5) ⟨heap_alloc_new w4 _,((Keep.refl NoB w4).alloc _).heap hX4 (λx=>x),K95.alloc _⟩ ?_;rintro w5 ⟨hY5,hX5,K5⟩)|(refine wpList_store_whole rfl 127 (.tmp 8) (.tmp 32) rfl w4.heap.size 127 cz cr rfl rfl hY5 H35.out 35 hzl hcl hone ?_;refine wl_world (λw6=>w6.heap[w4.heap.size]? =some (.cells cr 127 (0,0))∧w6.heap[w.heap.size]? =some (.cells cz 127 (0,0))∧Keep NoB w w6) ⟨heap_setRow (c':=cr) hY5,(setRow_other _ _ _ _ Hne.out).trans hX5,K5.setRow (g:=w4.heap.size) (.inr (K95.size)) cr⟩ ?_;clear hY5 hX5 K5;rintro w6 ⟨hY6,hX6,K6⟩))
  have y0:∀x:InC (λw9=>w9.heap[w4.heap.size]? =some (.cells cr 127 (0,0))),x.w.cell? ⟨w4.heap.size,0,none⟩=some (.int .i64 pc):=λx=>by rw[cell_of_row _ _ _ _ _ (0,0) x.h];exact hcc
  refine wp_region_take (λw9=>w9.heap[w4.heap.size]? =some (.cells cr 127 (0,0))) [0,1,2,3,4,5,6,7,8] [9,10] (by kernel_rfl) (by kernel_rfl) (λc a d v w h=>by cases d<;>exact h) ?_
  simp only[pickL,List.getElem?_toArray,List.getElem?_cons_succ,List.getElem?_cons_zero]
  refine wpEarlyC_load_part (by rfl) 127 (.tmp 8) rfl w4.heap.size 0 rfl 127 cr (0,0) cr _ (λx=>x.h) (λj v hv=>by rw[Nat.zero_add];exact hv) Tryz.underlying127 rfl H35.out ?_
  repeat(refine wpEarlyC_step (λK hK=> ?_);go_simp;first|(refine⟨_,λ_=>rfl,hK _ ?_⟩;clear hK K)|(refine hK _ ?_;clear hK K))
  refine wpEarlyC_nil ?_
  clear y0
  simp only[wpRowC,pickL,List.getElem?_toArray,List.getElem?_cons_succ,List.getElem?_cons_zero]
  refine⟨hY6,?_⟩
  go_wp2_with (refine wpList_store_whole rfl 127 (.tmp 4) (.tmp 34) rfl w.heap.size 127 cz cr rfl rfl (show w6.drew.heap[w.heap.size]? =_ from hX6) H35.out 35 hzl hcl hone ?_;refine wl_world (λw7=>w7.heap[w.heap.size]? =some (.cells cr 127 (0,0))∧w7.heap[w4.heap.size]? =some (.cells cr 127 (0,0))∧Keep NoB w w7) ⟨heap_setRow (c':=cr) (show w6.drew.heap[w.heap.size]? =_ from hX6),(setRow_other _ _ _ _ (Ne.symm Hne.out)).trans hY6,K6.drew.setRow (g:=w.heap.size) (.inr (Nat.le_refl _)) cr⟩ ?_;clear hY6 hX6 K6;rintro w7 ⟨hX7,hY7,K7⟩)
  refine⟨hY7,?_⟩
  go_wp2_with fail
  refine bodyPost_ret (v:= .tuple #[.agg cr,.bool false]) (results_row_slot rfl _ w7 w.heap.size 127 cr (0,0) _ (.bool false) rfl rfl hX7 Tryz.underlying127 rfl H35.out) rfl ⟨?_,K7⟩
  rw[decide_eq_false (λh2=>hE h2.1)]
end Go.Proofs.YtnmhgehpddipdaaGreatDoor
namespace Go.Cof
open Go.RowKit Go.Proofs.YtnmhgehpddipdaaGreatDoor
theorem set_join{α:Type}(A D:List α)(k:Nat)(t:α)(hA:A.length=k)(hk:k<D.length):(A++D.drop k).set k t=A++ [t]++D.drop (k+1):=by
 rw[List.set_append_right _ _ (by omega),hA,Nat.sub_self,List.drop_eq_getElem_cons hk,List.set_cons_zero,List.append_assoc]
 rfl
def loadTo(V:VaultV)(l:List (ByteArray×ByteArray)):VaultV:= { V with texts:=l.map (·.1)++V.texts.drop l.length,marks:=l.map (·.2)++V.marks.drop l.length }
theorem loadTo_zero(V:VaultV):loadTo V []=V:=rfl
theorem loadTo_step{V:VaultV}(h:VaultLens V){l:List (ByteArray×ByteArray)}(hl:l.length<32)(p q:ByteArray×ByteArray):
  setMark (setText (setMark (setText (loadTo V l) l.length q.1) l.length q.2) l.length p.1) l.length p.2=loadTo V (l++ [p]):=by
 simp only[setMark,setText,loadTo,List.set_set,List.length_append,List.length_singleton,List.map_append,List.map_cons,List.map_nil]
 rw[set_join _ _ _ _ (by simp) (by rw[h.texts];exact hl),set_join _ _ _ _ (by simp) (by rw[h.marks];exact hl)]
theorem loadTo_step1{V:VaultV}(h:VaultLens V){l:List (ByteArray×ByteArray)}(hl:l.length<32)(p:ByteArray×ByteArray):
  setMark (setText (loadTo V l) l.length p.1) l.length p.2=loadTo V (l++ [p]):=by
 simp only[setMark,setText,loadTo,List.length_append,List.length_singleton,List.map_append,List.map_cons,List.map_nil]
 rw[set_join _ _ _ _ (by simp) (by rw[h.texts];exact hl),set_join _ _ _ _ (by simp) (by rw[h.marks];exact hl)]
theorem loadV_none{secret:ByteArray}{B:List ByteArray}{x:SupV}{k:Nat}(h:pageOf (keyV secret x.epoch) B x.sides k=none)(hk:k<32):loadV secret B x=none:=by
 have h1:=pagesTo_none h 32 hk
 unfold loadV
 rw[h1]
theorem loadV_some{secret:ByteArray}{B:List ByteArray}{x:SupV}{l:List (ByteArray×ByteArray)}(h:pagesTo (keyV secret x.epoch) B x.sides 32=some l):loadV secret B x=if rootV (l.map (·.2))=x.root then some (l.map (·.1),l.map (·.2))else none:=by
 unfold loadV
 rw[h]
theorem pagesTo_marks{key:ByteArray}{B:List ByteArray}{sides:List Bool} :∀(n:Nat) (l:List (ByteArray×ByteArray)),pagesTo key B sides n=some l->∀m∈l.map (·.2),m.size=16:=by
 intro n l h m hm
 obtain⟨p,hp,rfl⟩:=List.mem_map.1 hm
 obtain⟨i,hi⟩:=List.getElem?_of_mem hp
 have hil:i<l.length:=(List.getElem?_eq_some_iff.1 hi).1
 have hl:=pagesTo_len n l h
 have h2:=pagesTo_get n l h i (by omega)
 rw[hi]at h2
 exact pageAt_mark h2
theorem loadTo_all{V:VaultV}(h:VaultLens V){l:List (ByteArray×ByteArray)}(hl:l.length=32):loadTo V l= { V with texts:=l.map (·.1),marks:=l.map (·.2) } :=by
 simp only[loadTo,hl]
 rw[List.drop_of_length_le (by rw[h.texts];exact Nat.le_refl _),List.drop_of_length_le (by rw[h.marks];exact Nat.le_refl _),List.append_nil,List.append_nil]
theorem take8_eq(s:ByteArray):(s.extract 0 8=txt (be64 0))↔(bs s).take 8=be64 0:=by
 constructor
 ·intro h
  have:=congrArg bs h
  rwa [bs_extract,List.drop_zero,bs_txt (be64_bytes 0)]at this
 ·intro h
  apply bs_inj
  rw[bs_extract,List.drop_zero,bs_txt (be64_bytes 0)]
  exact h
end Go.Cof
namespace Go.Proofs.YtnmhgehpddipdaaGreatDoor
open Go.RowKit Go.Cof
theorem devB_ne{w:World}{B D C S:Nat}{V:VaultV}{wv:Value}{d:DevV}(h:VaultAt w B D C V)(hd:DevIs w D S wv d):∀b,DevB D S wv b->b≠B:=by
 rintro b hb rfl
 have hty:∀ {c c':Array Value} {t t':TypeId} {f f':Nat×Nat},w.heap[b]? =some (.cells c t f)->w.heap[b]? =some (.cells c' t' f')->t=t':=λh h'=>by
  rw[h]at h'
  have:=Option.some.inj h'
  simp only[Obj.cells.injEq]at this
  exact this.2.1
 rcases hb with rfl|rfl|hb
 ·obtain⟨c,h2,_⟩:=hd.head;exact absurd (hty h.row h2) (by decide)
 ·obtain⟨c,h2,_⟩:=hd.row;exact absurd (hty h.row h2) (by decide)
 ·rcases hd.waits.2 with⟨hv,_⟩|⟨g,cap,cur,fz,hv,_,hg,_⟩
  ·rw[hv]at hb;cases hb
  ·rw[hv]at hb
   obtain rfl:g=b:=Option.some.inj hb
   exact absurd (hty h.row hg) (by decide)
theorem rounds_ne{w:World}{B D C:Nat}{V:VaultV}(h:VaultAt w B D C V)(R:RoundsVar w):5≠B:=by
 intro e
 have h1:=R 0 (by omega)
 rw[e,h.dev]at h1
 cases h1
def LoadSaid(w':World)(B D C:Nat)(V:VaultV)(r:Option (List ByteArray×List ByteArray))(x:SupV)(e:Ending):Prop:=match r with
 | some p=>e= .returned (.bool true)∧VaultAt w' B D C ⟨V.secret,x,p.1,p.2,V.dead⟩
 | none=>e= .returned (.bool false)∧∃t m,VaultAt w' B D C { V with texts:=t,marks:=m }
def LoadC1(B X:Nat)(sec:ByteArray)(ep:Int)(w:World):Prop:=w.cell? ⟨B,2,none⟩=some (.string sec)∧w.cell? ⟨X,1,none⟩=some (.int .i64 ep)
def LoadC5(B X D k:Nat)(b:Bool)(w:World):Prop:=w.cell? ⟨B,0,none⟩=some (.pointer (some ⟨D,0,none⟩))∧w.cell? ⟨X,2+k,none⟩=some (.bool b)
set_option maxRecDepth 100000
set_option maxHeartbeats 8000000 in
theorem vaultLoad_any{w:World}{B D C S:Nat}{V:VaultV}{wv:Value}{d:DevV}(h:VaultAt w B D C V)(hd:DevIs w D S wv d)(hb:∀i,i<66->(d.now.getD i ⟨#[]⟩).size=256)(hs:V.secret.size<=1000)(x:SupV)(hx:x.sides.length=32)(R:RoundsVar w):
  Calls Tryz.prog 72 #[.pointer (some ⟨B,0,none⟩),supVal x] w λe w'=>LoadSaid w' B D C V (loadV V.secret d.now x) x e∧Keep (OneB B) w w':=by
 obtain⟨cx,hcx⟩:∃cx,cx=(supCells x).toArray:=⟨_,rfl⟩
 have hsv:supVal x= .agg cx:=by rw[hcx];rfl
 rw[hsv]
 have hcl:cx.size=35:=by rw[hcx,List.size_toArray,supCells_len x hx]
 have hc1:cx[1]? =some (.int .i64 x.epoch):=by rw[hcx];rfl
 have hc34:cx[34]? =some (.string x.root):=by
  rw[hcx,supCells,List.getElem?_toArray,List.getElem?_append_right (by simp[hx]),List.length_append,List.length_map,hx];rfl
 have hcs:∀k,k<32->cx[2+k]? =some (.bool (x.sides.getD k false)):=λk hk=>by rw[hcx];exact supCells_side x k (by omega)
 have hne:=devB_ne h hd
 have hRN:=rounds_ne h R
 have hkey:=λ(W:World) (K:Keep NoB w W)=>key_any V.secret x.epoch hs W (R.keep K (λx=>x))
 obtain⟨key,hk⟩:∃k,k=keyV V.secret x.epoch:=⟨_,rfl⟩
 have hks:key.size=32:=by rw[hk];exact keyV_size _ _
 rw[<-hk]at hkey
 have c2:=h.secret
 have hlt:=h.lt
 obtain⟨sec,hsec⟩:∃x,x=V.secret:=⟨_,rfl⟩
 rw[<-hsec]at c2 hkey
 obtain⟨ep,hep⟩:∃e,e=x.epoch:=⟨_,rfl⟩
 rw[<-hep]at hkey hc1
 have Hkey:=Lib.hid hkey
 have Hb:=Lib.hid hb
 have Hcs:=Lib.hid hcs
 have Hk:=Lib.hid hk
 have Hd:=Lib.hid hd
 have HV:=Lib.hid h
 have HR:=Lib.hid R
 have Hne:=Lib.hid hne
 have HRN:=Lib.hid hRN
 have Hcx:=Lib.hid hcx
 clear hkey hb hcs hk hd h R hne hRN hcx hsv hsec hep hs
 go_enter Tryz.func72,Tryz.ntmps72
 go_wp2_with fail
 obtain⟨X,hX⟩:∃X,X=w.heap.size:=⟨_,rfl⟩
 have hX0:=heap_alloc_new w (.cells cx 127)
 have KX:Keep NoB w (w.alloc (.cells cx 127)):=(Keep.refl _ _).alloc _
 obtain⟨w1,hw1⟩:∃w1,w1=w.alloc (.cells cx 127):=⟨_,rfl⟩
 rw[<-hw1]at hX0 KX⊢
 rw[<-hX]at hX0⊢
 have HX:=Lib.hid hX
 clear hw1 hX
 have L1:LoadC1 B X sec ep w1:=⟨(KX.cell (p:=⟨B,2,none⟩) hlt (λx=>x)).trans c2,by rw[cell_of_row _ _ _ _ _ (0,0) hX0];exact hc1⟩
 have l0:∀x:InC (LoadC1 B X sec ep),x.w.cell? ⟨B,2,none⟩=some (.string sec):=λx=>x.h.1
 have l1:∀x:InC (LoadC1 B X sec ep),x.w.cell? ⟨X,1,none⟩=some (.int .i64 ep):=λx=>x.h.2
 refine wp_region_mix (LoadC1 B X sec ep) [(true,0),(true,1),(true,2),(true,3),(true,4),(true,5),(false,6),(false,7)] (by kernel_rfl) (by kernel_rfl) (λc a d v w h=>by cases d<;>exact h) ?_
 simp only[wpMixC,pickL,List.getElem?_toArray,List.getElem?_cons_succ,List.getElem?_cons_zero]
 repeat(refine wpEarlyC_step (λK hK=> ?_);go_simp;first|(refine⟨_,λ_=>rfl,hK _ ?_⟩;clear hK K;refine wpEarlyC_nil ?_)|(refine hK _ ?_;clear hK K;refine wpEarlyC_nil ?_))
 clear l0 l1
 refine⟨L1,?_⟩
 go_wp2_with fail
 refine(Hkey.out _ KX.drew).mono ?_
 rintro e w2 ⟨rfl,K2⟩
 have L2:LoadC1 B X sec ep w2:=⟨(K2.cell (p:=⟨B,2,none⟩) (by have:=KX.size;show B<w1.heap.size;omega) (λx=>x)).trans L1.1,(K2.cell (p:=⟨X,1,none⟩) (lt_of_heap hX0) (λx=>x)).trans L1.2⟩
 have hX2:=K2.heap (show w1.drew.heap[X]? =_ from hX0) (λx=>x)
 have K12:=KX.drew.thenN K2
 go_wp2_with fail
 refine⟨L2,?_⟩
 clear L1 L2 K2 hX0 KX Hkey c2 hc1
 go_wp2_with fail
 obtain⟨f,hf⟩:∃f:Nat->Option (ByteArray×ByteArray),f=λk=>pageOf key d.now x.sides k:=⟨_,rfl⟩
 have Hf:=Lib.hid hf
 clear hf
 go_loopw [20] (λiv wr=>∃(k:Nat) (l:List (ByteArray×ByteArray)),iv= .int .i64 k∧k<=32∧Hid (pagesTo key d.now x.sides k=some l∧l.length=k)∧Hid (VaultAt wr B D C (loadTo V l))∧Keep (OneB B) w2 wr) (λiv _=>32-(intOf iv).toNat)
 case atStart=>exact⟨0,[],rfl,by omega,Lib.hid ⟨rfl,rfl⟩,Lib.hid (by rw[loadTo_zero];exact HV.out.keep K12 (λx=>x)),Keep.refl _ _⟩
 case round=>
  obtain⟨k,l,rfl,hk,hl,hV,K⟩:=hrel
  obtain⟨wo,rfl⟩:∃wo,wo=wr:=⟨_,rfl⟩
  have KK:Keep (OneB B) w wo:=(K12.ofN).then K
  have hBX:B≠X:=by rw[HX.out];omega
  have hd2:DevIs wo D S wv d:=(Hd.out.keep KK (λb hb hB=>Hne.out b hb hB))
  have hlen:k<=32:=hk
  by_cases hlt32:k<32
  ·have j1:(k:Int)<32:=by omega
   have j0:(0:Int)<=k:=by omega
   obtain⟨sd,hsd⟩:∃b,b=x.sides.getD k false:=⟨_,rfl⟩
   obtain⟨s,hss⟩:∃s,s=d.now.getD (placeN k sd) ⟨#[]⟩:=⟨_,rfl⟩
   have hsz:s.size=256:=by rw[hss];exact Hb.out _ (placeN_lt hlt32 sd)
   have hpl:=λ(W:World)=>vaultPlace_any k sd hlt32 W
   have hrd:∀(W:World),Keep NoB wo W->Calls Tryz.prog 138 #[.pointer (some ⟨D,0,none⟩),.int .i64 ((placeN k sd:Nat):Int)] W λe w'=>e= .returned (.tuple #[.string s,.nilIface])∧Keep NoB W w':=by
    intro W K;rw[hss];exact read_at (hd2.keep K (λ_ _ x=>x)) _ (placeN_lt hlt32 sd)
   have hR:=HR.out.keep KK HRN.out
   have hm0:=λ(W:World) (K:Keep (OneB B) wo W)=>pageMark_any k 0 ⟨#[]⟩ (by decide) W (hR.keep K HRN.out)
   have hX3:wo.heap[X]? =some (.cells cx 127 (0,0)):=K.heap hX2 (λe=>hBX (Eq.symm e))
   have L5:LoadC5 B X D k sd wo:=⟨hV.out.dev,by
    have:wo.cell? ⟨X,2+k,none⟩=cx[2+k]? :=cell_of_row _ _ _ _ _ (0,0) hX3
    rw[hsd,<-Hcs.out k hlt32];exact this⟩
   have Hpl:=Lib.hid hpl
   have Hrd:=Lib.hid hrd
   have Hm0:=Lib.hid hm0
   have Hsd:=Lib.hid hsd
   have Hss:=Lib.hid hss
   have HX3:=Lib.hid hX3
   have HBX:=Lib.hid hBX
   have HKK:=Lib.hid KK
   have HRo:=Lib.hid hR
   have Hd2:=Lib.hid hd2
   have hBlt:B<wo.heap.size:=hV.out.lt
   have hXlt:X<wo.heap.size:=lt_of_heap hX3
   clear hpl hrd hm0 hsd hss hX3 hBX KK hR hd2
   have l0:∀x:InC (LoadC5 B X D k sd),x.w.cell? ⟨B,0,none⟩=some (.pointer (some ⟨D,0,none⟩)):=λx=>x.h.1
   have l1:∀x:InC (LoadC5 B X D k sd),x.w.cell? ⟨X,2+k,none⟩=some (.bool sd):=λx=>x.h.2
   go_wp2_with fail
   refine wp_region_mix (LoadC5 B X D k sd) [(true,0),(true,1),(true,2),(true,3),(true,4),(true,5),(true,6),(true,7),(true,8),(false,9),(false,10),(true,11),(true,12),(true,13),(true,14),(false,15)] (by kernel_rfl) (by kernel_rfl) (λc a d v w h=>by cases d<;>exact h) ?_
   simp only[wpMixC,pickL,List.getElem?_toArray,List.getElem?_cons_succ,List.getElem?_cons_zero]
   repeat(refine wpEarlyC_step (λK hK=> ?_);go_simp;first|(refine⟨_,λ_=>rfl,hK _ ?_⟩;clear hK K;refine wpEarlyC_nil ?_)|(refine hK _ ?_;clear hK K;refine wpEarlyC_nil ?_))
   clear l0 l1
   refine⟨L5,?_⟩
   go_wp2_with fail
   refine(Hpl.out _).mono ?_
   rintro e w3 ⟨rfl,hw3⟩
   subst hw3
   go_wp2_with fail
   refine⟨L5,?_⟩
   go_wp2_with fail
   refine(Hrd.out _ (Keep.refl _ _).drew).mono ?_
   rintro e w4 ⟨rfl,K4⟩
   have K4':Keep NoB wo w4:=((Keep.refl NoB wo).drew).thenN K4
   have L6:LoadC5 B X D k sd w4:=⟨(K4'.cell (p:=⟨B,0,none⟩) hBlt (λx=>x)).trans L5.1,(K4'.cell (p:=⟨X,2+k,none⟩) hXlt (λx=>x)).trans L5.2⟩
   clear L5 K4 Hpl Hrd
   go_wp2_with fail
   repeat(refine wpEarlyC_step (λK hK=> ?_);go_simp;first|(refine⟨_,λ_=>rfl,hK _ ?_⟩;clear hK K;refine wpEarlyC_nil ?_)|(refine hK _ ?_;clear hK K;refine wpEarlyC_nil ?_))
   refine⟨L6,?_⟩
   clear L6
   go_wp2_with fail
   have hV4:VaultAt w4 B D C (loadTo V l):=hV.out.keep K4' (λx=>x)
   obtain⟨m0,hm0⟩:∃m,m=txt (pmarkP k 0 (bs ⟨#[]⟩)):=⟨_,rfl⟩
   have hmk:=Hm0.out
   rw[<-hm0]at hmk
   have Hmk:=Lib.hid hmk
   have HM0:=Lib.hid hm0
   clear hmk hm0 Hm0
   refine wp_region_mix (λ_=>True) [(true,0),(true,1),(true,2),(true,3),(true,4),(true,6),(true,7),(true,10),(true,11),(false,5),(true,8),(false,9),(true,12),(false,13)] (by kernel_rfl) (by kernel_rfl) (λc a d v w h=>by cases d<;>exact h) ?_
   simp only[wpMixC,pickL,List.getElem?_toArray,List.getElem?_cons_succ,List.getElem?_cons_zero]
   repeat(refine wpEarlyC_step (λK hK=> ?_);go_simp;first|(refine⟨_,λ_=>rfl,hK _ ?_⟩;clear hK K;refine wpEarlyC_nil ?_)|(refine hK _ ?_;clear hK K;refine wpEarlyC_nil ?_))
   refine⟨trivial,?_⟩
   go_wp2_with fail
   refine(Hmk.out _ (K4'.ofN.drew)).mono ?_
   rintro e w5 ⟨rfl,K5⟩
   have hV5:VaultAt w5 B D C (loadTo V l):=hV4.keep ((Keep.refl NoB w4).drew.thenN K5) (λx=>x)
   have K45:Keep NoB w4 w5:=(Keep.refl NoB w4).drew.thenN K5
   have ct:=hV5.text k hlt32
   have ft:=hV5.free (38+k)
   clear K5 hV4
   go_wp2_with fail
   repeat(refine wpEarlyC_step (λK hK=> ?_);go_simp;first|(refine⟨_,λ_=>rfl,hK _ ?_⟩;clear hK K;refine wpEarlyC_nil ?_)|(refine hK _ ?_;clear hK K;refine wpEarlyC_nil ?_))
   refine⟨trivial,?_⟩
   go_wp2_with fail
   have hV6:=hV5.setText k hlt32 ⟨#[]⟩
   have K6:Keep (OneB B) w4 (w5.setCell ⟨B,38+k,none⟩ (.string ⟨#[]⟩)):=(K45.ofN (S:=OneB B)).set1 (38+k) _
   obtain⟨w6,hw6⟩:∃w6,w6=w5.setCell ⟨B,38+k,none⟩ (.string ⟨#[]⟩):=⟨_,rfl⟩
   rw[<-hw6]at hV6 K6⊢
   have cm:=hV6.mark k hlt32
   have fm:=hV6.free (70+k)
   clear hw6 ct ft hV5 K45
   repeat(refine wpEarlyC_step (λK hK=> ?_);go_simp;first|(refine⟨_,λ_=>rfl,hK _ ?_⟩;clear hK K;refine wpEarlyC_nil ?_)|(refine hK _ ?_;clear hK K;refine wpEarlyC_nil ?_))
   refine⟨trivial,?_⟩
   go_wp2_with fail
   have hV7:=hV6.setMark k hlt32 m0
   have K7:Keep (OneB B) w4 (w6.setCell ⟨B,70+k,none⟩ (.string m0)):=K6.set1 (70+k) _
   obtain⟨w7,hw7⟩:∃w7,w7=w6.setCell ⟨B,70+k,none⟩ (.string m0):=⟨_,rfl⟩
   rw[<-hw7]at hV7 K7⊢
   clear hw7 cm fm hV6 K6 Hmk
   have K47:Keep (OneB B) wo w7:=K4'.ofN.then K7
   obtain⟨Z,hZ⟩:∃Z,Z=txt (be64 (u64n 0)):=⟨_,rfl⟩
   have hnum:=λW=>num_int 0 W
   rw[<-hZ]at hnum
   have h8:(8:Int)<=s.size:=by omega
   obtain⟨Bq,hBq⟩:∃b,b=sameB (s.extract 0 8) Z:=⟨_,rfl⟩
   have jq:=hBq.symm
   unfold sameB at jq
   have HBq:=Lib.hid hBq
   have HZ:=Lib.hid hZ
   have Hnum:=Lib.hid hnum
   clear hBq hZ hnum
   refine wp_region_mix (λ_=>True) [(true,0),(true,1),(false,2),(false,3)] (by kernel_rfl) (by kernel_rfl) (λc a d v w h=>by cases d<;>exact h) ?_
   simp only[wpMixC,pickL,List.getElem?_toArray,List.getElem?_cons_succ,List.getElem?_cons_zero]
   repeat(refine wpEarlyC_step (λK hK=> ?_);go_simp;first|(refine⟨_,λ_=>rfl,hK _ ?_⟩;clear hK K;refine wpEarlyC_nil ?_)|(refine hK _ ?_;clear hK K;refine wpEarlyC_nil ?_))
   refine⟨trivial,?_⟩
   go_wp2_with fail
   refine(Hnum.out _).mono ?_
   rintro e w8 ⟨rfl,K8⟩
   have K48:Keep (OneB B) wo w8:=K47.drew.thenN K8
   have hV8:VaultAt w8 B D C (setMark (setText (loadTo V l) k ⟨#[]⟩) k m0):=hV7.keep ((Keep.refl NoB w7).drew.thenN K8) (λx=>x)
   clear hV7 K47 K8 K7 K4'
   have hP:pageOf key d.now x.sides k=pageAt key k s:=by rw[Hss.out,Hsd.out];rfl
   have HP:=Lib.hid hP
   clear hP
   cases Bq with
   | true=>
    have hpg:pageAt key k s=some (⟨#[]⟩,m0):=by
     have h1:s.extract 0 8=Z:=by
      by_cases h:s.extract 0 8=Z
      ·exact h
      ·have:=toList_ne h;rw[<-HBq.out]at this;cases this
     rw[HZ.out]at h1
     rw[pageAt,if_pos ((take8_eq s).1 h1),HM0.out]
     rfl
    have Hpg:=Lib.hid hpg
    clear hpg
    go_wp2_with fail
    refine⟨trivial,?_⟩
    go_wp2_with fail
    refine⟨⟨k+1,l++ [(⟨#[]⟩,m0)],by go_num,by omega,Lib.hid ⟨?_,by rw[List.length_append,hl.out.2];rfl⟩,Lib.hid ?_,K.then K48⟩,by simp[intOf];omega⟩
    ·rw[pagesTo,hl.out.1,HP.out,Hpg.out]
    ·have h:=loadTo_step1 HV.out.lens (l:=l) (by rw[hl.out.2];exact hlt32) (⟨#[]⟩,m0)
     rw[hl.out.2]at h
     rw[<-h]
     exact hV8
   | false=>
    have hn8:¬(bs s).take 8=be64 0:=by
     intro h
     have h1:=(take8_eq s).2 h
     have h2:sameB (s.extract 0 8) Z=true:=by rw[HZ.out,show u64n 0=0 from rfl,<-h1];exact toList_same _
     rw[<-HBq.out]at h2
     cases h2
    have Hn8:=Lib.hid hn8
    clear hn8
    go_wp2_with fail
    refine⟨trivial,?_⟩
    by_cases hop:openB (bs key) k (bs s)
    ·have hopn:=λ(W:World) (K:Keep (OneB B) wo W)=>open_ok key k s hks (by omega) (by omega) hop W (HRo.out.keep K HRN.out)
     obtain⟨vr,hvr⟩:∃v,v=openVer (bs s):=⟨_,rfl⟩
     obtain⟨tx,htx⟩:∃t,t=txt (openText (bs key) (bs s)):=⟨_,rfl⟩
     rw[<-hvr,<-htx]at hopn
     have htl:tx.size<=1000:=by
      rw[htx,txt_size,openText,List.length_take];omega
     have hpg:pageAt key k s=some (tx,pmarkV k vr tx):=by rw[pageAt,if_neg Hn8.out,if_pos hop,htx,hvr]
     have hmk:=λ(W:World) (K:Keep (OneB B) wo W)=>pageMark_any k vr tx htl W (HRo.out.keep K HRN.out)
     obtain⟨m1,hm1⟩:∃m,m=pmarkV k vr tx:=⟨_,rfl⟩
     have hmk2:∀(W:World),Keep (OneB B) wo W->Calls Tryz.prog 74 #[.int .i64 k,.int .i64 vr,.string tx] W λe w'=>e= .returned (.string m1)∧Keep NoB W w':=by
      intro W K;rw[hm1];exact hmk W K
     rw[<-hm1]at hpg
     have Hpg:=Lib.hid hpg
     have Hop:=Lib.hid hopn
     have Hmk:=Lib.hid hmk2
     clear hpg hopn hmk hmk2 hm1 hvr htx hop
     go_wp2_with fail
     refine(Hop.out _ K48).mono ?_
     rintro e w9 ⟨rfl,K9⟩
     have K49:=K48.thenN K9
     have hV9:=hV8.keep K9 (λx=>x)
     clear K48 K9 hV8 Hop
     go_wp2_with fail
     refine wp_region_mix (λ_=>True) [(true,0),(true,1),(true,2),(true,3),(true,4),(true,5),(true,6),(true,7),(true,9),(true,10),(true,13),(true,14),(false,8),(true,11),(false,12),(true,15),(false,16)] (by kernel_rfl) (by kernel_rfl) (λc a d v w h=>by cases d<;>exact h) ?_
     simp only[wpMixC,pickL,List.getElem?_toArray,List.getElem?_cons_succ,List.getElem?_cons_zero]
     repeat(refine wpEarlyC_step (λK hK=> ?_);go_simp;first|(refine⟨_,λ_=>rfl,hK _ ?_⟩;clear hK K;refine wpEarlyC_nil ?_)|(refine hK _ ?_;clear hK K;refine wpEarlyC_nil ?_))
     refine⟨trivial,?_⟩
     go_wp2_with fail
     refine(Hmk.out _ K49.drew).mono ?_
     rintro e w10 ⟨rfl,K10⟩
     have hV10:=hV9.keep ((Keep.refl NoB w9).drew.thenN K10) (λx=>x)
     have K50:=K49.drew.thenN K10
     have ct:=hV10.text k hlt32
     have ft:=hV10.free (38+k)
     clear K10 hV9 K49 Hmk
     go_wp2_with fail
     repeat(refine wpEarlyC_step (λK hK=> ?_);go_simp;first|(refine⟨_,λ_=>rfl,hK _ ?_⟩;clear hK K;refine wpEarlyC_nil ?_)|(refine hK _ ?_;clear hK K;refine wpEarlyC_nil ?_))
     refine⟨trivial,?_⟩
     go_wp2_with fail
     have hV11:=hV10.setText k hlt32 tx
     have K11:Keep (OneB B) wo (w10.setCell ⟨B,38+k,none⟩ (.string tx)):=K50.set1 (38+k) _
     obtain⟨w11,hw11⟩:∃w11,w11=w10.setCell ⟨B,38+k,none⟩ (.string tx):=⟨_,rfl⟩
     rw[<-hw11]at hV11 K11⊢
     have cm:=hV11.mark k hlt32
     have fm:=hV11.free (70+k)
     clear hw11 ct ft hV10 K50
     repeat(refine wpEarlyC_step (λK hK=> ?_);go_simp;first|(refine⟨_,λ_=>rfl,hK _ ?_⟩;clear hK K;refine wpEarlyC_nil ?_)|(refine hK _ ?_;clear hK K;refine wpEarlyC_nil ?_))
     refine⟨trivial,?_⟩
     go_wp2_with fail
     have hV12:=hV11.setMark k hlt32 m1
     have K12':Keep (OneB B) wo (w11.setCell ⟨B,70+k,none⟩ (.string m1)):=K11.set1 (70+k) _
     refine⟨⟨k+1,l++ [(tx,m1)],by go_num,by omega,Lib.hid ⟨?_,by rw[List.length_append,hl.out.2];rfl⟩,Lib.hid ?_,K.then K12'⟩,by simp[intOf];omega⟩
     ·rw[pagesTo,hl.out.1,HP.out,Hpg.out]
     ·have h:=loadTo_step HV.out.lens (l:=l) (by rw[hl.out.2];exact hlt32) (tx,m1) (⟨#[]⟩,m0)
      rw[hl.out.2]at h
      rw[<-h]
      exact hV12
    ·have hopn:=λ(W:World) (K:Keep (OneB B) wo W)=>open_bad key k s hks (by omega) (by omega) hop W (HRo.out.keep K HRN.out)
     have hpg:pageAt key k s=none:=by rw[pageAt,if_neg Hn8.out,if_neg hop]
     have hno:loadV V.secret d.now x=none:=loadV_none (by rw[<-Hk.out,HP.out,hpg]) hlt32
     have Hno:=Lib.hid hno
     have Hop:=Lib.hid hopn
     clear hpg hopn hop hno
     go_wp2_with fail
     refine(Hop.out _ K48).mono ?_
     rintro e w9 ⟨rfl,K9⟩
     go_wp2_with fail
     go_ret
     refine⟨?_,HKK.out.then (K48.thenN K9)⟩
     rw[Hno.out]
     exact⟨rfl,_,_,hV8.keep K9 (λx=>x)⟩
  ·obtain rfl:k=32:=by omega
   have j1:¬((32:Nat):Int)<32:=by omega
   have hls:l.length=32:=hl.out.2
   have hVA:=loadTo_all HV.out.lens hls
   have hVo:=hV.out
   rw[hVA]at hVo
   obtain⟨ts,hts⟩:∃t,t=l.map (·.1):=⟨_,rfl⟩
   obtain⟨ms,hms⟩:∃t,t=l.map (·.2):=⟨_,rfl⟩
   have hmsl:ms.length=32:=by rw[hms,List.length_map,hls]
   have hms16:∀m∈ms,m.size=16:=by rw[hms];exact pagesTo_marks 32 l hl.out.1
   have hload:loadV V.secret d.now x=if rootV ms=x.root then some (ts,ms)else none:=by
    rw[loadV_some (by rw[<-Hk.out];exact hl.out.1),hts,hms]
   rw[<-hts,<-hms]at hVo
   have T:Strs wo (.slice (some ⟨B,70,none⟩) 32 32) ms:= .inr ⟨B,70,32,by rw[hmsl],hVo.lt,λi hi=>hVo.mark i (by omega)⟩
   have hroot:=treeRoot_any (some ⟨B,70,none⟩) 32 32 ms wo (HR.out.keep KK HRN.out) T (Nat.le_refl _) (by omega)
   have hE:rootE ms=0:=by rw[rootE,if_pos (rightB_true.2 ⟨hmsl,hms16⟩)]
   rw[hE]at hroot
   obtain⟨rt,hrt⟩:∃r,r=rootV ms:=⟨_,rfl⟩
   rw[<-hrt]at hroot hload
   have hroot2:Calls Tryz.prog 143 #[.slice (some ⟨B,70,none⟩) 32 32] wo λe w'=>e= .returned (.tuple #[.string rt,.nilIface])∧Keep NoB wo w':=hroot
   have hX3:wo.heap[X]? =some (.cells cx 127 (0,0)):=K.heap hX2 (λe=>hBX (Eq.symm e))
   have Hroot:=Lib.hid hroot2
   have Hload:=Lib.hid hload
   have HVo:=Lib.hid hVo
   have HX3:=Lib.hid hX3
   have HKK:=Lib.hid KK
   have Hms:=Lib.hid hmsl
   clear hroot hroot2 hload hrt hE T hms16 hts hms hVA hls hV hX3 KK hd2 hmsl hVo
   go_wp2_with fail
   refine Hroot.out.mono ?_
   rintro e w3 ⟨rfl,K3⟩
   have hX4:=K3.heap HX3.out (λx=>x)
   have hV4:=HVo.out.keep K3 (λx=>x)
   have c34:w3.cell? ⟨X,34,none⟩=some (.string x.root):=by rw[cell_of_row _ _ _ _ _ (0,0) hX4];exact hc34
   by_cases heq:rt=x.root
   ·have jq:=toList_same rt
    unfold sameB at jq
    rw[<-heq]at c34
    have Heq:=Lib.hid heq
    have h35:(Tryz.prog.info? 127).map (·.size)=some cx.size:=by rw[hcl];exact info_super35
    have hone:cx.all (·.oneCell')=true:=by rw[Hcx.out];exact supCells_one _
    have hBl:3+cx.size<=(vaultCells D C { V with texts:=ts,marks:=ms }).toArray.size:=by rw[hcl,List.size_toArray,vaultCells_len hV4.lens];omega
    have H35:=Lib.hid h35
    have Hone:=Lib.hid hone
    have HBl:=Lib.hid hBl
    clear heq h35 hone hBl
    go_wp2_with (first|(refine wpList_load_row rfl 127 (.tmp 3) rfl X rfl 127 cx (0,0) _ hX4 Tryz.underlying127 rfl H35.out ?_)|(refine wpList_store_part rfl 127 (.tmp 100) (.tmp 98) rfl B 3 130 (vaultCells D C { V with texts:=ts,marks:=ms }).toArray cx rfl rfl hV4.row H35.out HBl.out Hone.out ?_))
    go_ret
    have hV5:=hV4.setNow (x:=x) hx
    refine⟨?_,(HKK.out.thenN K3).setRow (g:=B) (.inl rfl) _⟩
    rw[Hload.out,if_pos Heq.out]
    refine⟨rfl,?_⟩
    rw[<-Hcx.out]at hV5
    exact hV5
   ·have jq:=toList_ne heq
    unfold sameB at jq
    have Hno:=Lib.hid heq
    clear heq
    go_wp2_with fail
    go_ret
    refine⟨?_,HKK.out.thenN K3⟩
    rw[Hload.out,if_neg Hno.out]
    exact⟨rfl,_,_,hV4⟩
end Go.Proofs.YtnmhgehpddipdaaGreatDoor
namespace Go.Cof
open Go.RowKit Go.Proofs.YtnmhgehpddipdaaGreatDoor
def startV(secret:ByteArray):VaultV:=⟨secret,⟨0,1,List.replicate 32 false,⟨#[]⟩⟩,List.replicate 32 ⟨#[]⟩,List.replicate 32 ⟨#[]⟩,false⟩
theorem startV_lens(secret:ByteArray):VaultLens (startV secret):=⟨List.length_replicate,List.length_replicate,List.length_replicate⟩
def blotV(secret:ByteArray)(t m:List ByteArray):VaultV:= { startV secret with texts:=t,marks:=m }
theorem vaultAt_eq(secret:ByteArray)(B:List ByteArray)(c:Int):vaultAt secret B c=if superOk secret B c=true then(loadV secret B (superVal secret B c)).map λp=>⟨secret,superVal secret B c,p.1,p.2,false⟩else none:=by
 unfold vaultAt
 rw[superV_eq]
 by_cases h:superOk secret B c=true
 ·rw[if_pos h,if_pos h]
 ·rw[if_neg h,if_neg h]
def freshPages(k:Nat):List (ByteArray×ByteArray):=(List.range k).map λ(i:Nat)=>((⟨#[]⟩:ByteArray),pmarkV (i:Int) 0 ⟨#[]⟩)
theorem freshPages_succ(k:Nat):freshPages (k+1)=freshPages k++ [(⟨#[]⟩,pmarkV k 0 ⟨#[]⟩)]:=by simp[freshPages,List.range_succ]
theorem freshPages_len(k:Nat):(freshPages k).length=k:=by simp[freshPages]
theorem fresh_all(secret:ByteArray)(t m:List ByteArray)(h:VaultLens (blotV secret t m)):loadTo (blotV secret t m) (freshPages 32)=freshV secret:=by
 rw[loadTo_all h (freshPages_len 32)]
 have e1:(freshPages 32).map (·.1)=List.replicate 32 ⟨#[]⟩:=by
  rw[freshPages,List.map_map]
  apply List.ext_getElem (by simp)
  intro i h1 h2
  rw[List.getElem_map,List.getElem_replicate]
  rfl
 have e2:(freshPages 32).map (·.2)=(List.range 32).map λ(i:Nat)=>pmarkV (i:Int) 0 ⟨#[]⟩:=by rw[freshPages,List.map_map];rfl
 rw[e1,e2]
 rfl
end Go.Cof
namespace Go.Proofs.YtnmhgehpddipdaaGreatDoor
open Go.RowKit Go.Cof
set_option maxRecDepth 100000
theorem built_start:Tryz.prog.built 127 [(1,.int .i64 1)]=some (supCells ⟨0,1,List.replicate 32 false,⟨#[]⟩⟩).toArray:=by kernel_rfl
theorem built_vault(D C:Nat)(secret:ByteArray):Tryz.prog.built 130 [(0,.pointer (some ⟨D,0,none⟩)),(1,.pointer (some ⟨C,0,none⟩)),(2,.string secret),(3,.agg (supCells ⟨0,1,List.replicate 32 false,⟨#[]⟩⟩).toArray)]=some (vaultCells D C (startV secret)).toArray:=by kernel_rfl
def OpenSaid(w w':World)(D C:Nat)(n:Nat)(r:Option (VaultV×Int))(e:Ending):Prop:=match r with
 | some p=>∃B,e= .returned (.tuple #[.pointer (some ⟨B,0,none⟩),.nilIface])∧w.heap.size<=B∧VaultAt w' B D C p.1∧CountAt w' C p.2
 | none=>e= .returned (.tuple #[.pointer none,errVal 15])∧CountAt w' C n
def OpenMid(w wx:World)(B D C:Nat)(secret:ByteArray)(blocks:List ByteArray)(n:Nat)(bv:Value):Prop:=
 ∃(b:Bool) (V':VaultV),bv= .bool b∧VaultAt wx B D C V'∧Keep NoB w wx∧(b=true->vaultAt secret blocks ((n+1:Nat):Int)=some V')∧(b=false->vaultAt secret blocks ((n+1:Nat):Int)=none∧∃t m,V'=blotV secret t m)
set_option maxHeartbeats 8000000 in
theorem vaultOpen_any{w:World}{D C S:Nat}{wv:Value}{d:DevV}(hd:DevIs w D S wv d)(hb:∀i,i<66->(d.now.getD i ⟨#[]⟩).size=256)(n:Nat)(hn:n<1000000000)(hc:CountAt w C n)(secret:ByteArray)(hs:secret.size=16)(R:RoundsVar w):
  Calls Tryz.prog 31 #[.pointer (some ⟨D,0,none⟩),.pointer (some ⟨C,0,none⟩),.string secret] w λe w'=>OpenSaid w w' D C n (openV secret d.now n) e∧Keep (OneB C) w w':=by
 have hs2:(secret.size:Int)=16:=by omega
 have hDlt:D<w.heap.size:=by obtain⟨c,h2,_⟩:=hd.head;exact lt_of_heap h2
 have hClt:C<w.heap.size:=lt_of_heap hc
 obtain⟨cs,hcs⟩:∃cs,cs=(supCells ⟨0,1,List.replicate 32 false,⟨#[]⟩⟩).toArray:=⟨_,rfl⟩
 obtain⟨cv,hcv⟩:∃cv,cv=(vaultCells D C (startV secret)).toArray:=⟨_,rfl⟩
 have hbs:=built_start
 have hbv:=built_vault D C secret
 rw[<-hcs]at hbs hbv
 rw[<-hcv]at hbv
 have Hbs:=Lib.hid hbs
 have Hbv:=Lib.hid hbv
 have Hcv:=Lib.hid hcv
 have Hd:=Lib.hid hd
 have Hb:=Lib.hid hb
 have Hc:=Lib.hid hc
 have HR:=Lib.hid R
 have Hs:=Lib.hid hs
 clear hbs hbv hcs hcv hd hb hc R hs
 go_enter Tryz.func31,Tryz.ntmps31
 go_wp2_with (first|(refine wpList_build_is rfl 127 #[(1,.const (.int .i64 1))] rfl cs (by simp only[List.map_toArray,List.map_cons,List.map_nil,List.toList_toArray];exact Hbs.out) ?_)|(refine wpList_build_is rfl 130 #[(0,.tmp 27),(1,.tmp 28),(2,.tmp 29),(3,.tmp 30)] rfl cv (by simp only[List.map_toArray,List.map_cons,List.map_nil,List.toList_toArray];refine Eq.trans (congrArg (λl=>Tryz.prog.built 130 l) ?_) Hbv.out;rfl) ?_))
 obtain⟨B,hB⟩:∃B,B=w.heap.size:=⟨_,rfl⟩
 have hV1:VaultAt (w.alloc (.cells cv 130)) B D C (startV secret):=⟨by rw[hB,<-Hcv.out];exact heap_alloc_new w _,startV_lens _⟩
 have K1:Keep NoB w (w.alloc (.cells cv 130)):=(Keep.refl _ _).alloc _
 obtain⟨w1,hw1⟩:∃w1,w1=w.alloc (.cells cv 130):=⟨_,rfl⟩
 rw[<-hw1]at hV1 K1⊢
 rw[<-hB]
 have HB:=Lib.hid hB
 clear hw1 hB
 refine(get_any (Hc.out.keep K1 (λx=>x))).mono ?_
 rintro e w2 ⟨rfl,hw⟩
 subst hw
 have hn1:IntKind.i64.wrap ((n:Int)+1)=((n+1:Nat):Int):=by rw[IntWalk.i64_in _ (by omega)];omega
 have hn2:(n:Int)+1=((n+1:Nat):Int):=by omega
 have hsup:=vaultSuper_any hV1 (Hd.out.keep K1 (λ_ _ x=>x)) (λi hi=>by have:=Hb.out i hi;omega) (by show secret.size<=1000;have:=Hs.out;omega) (n+1) (HR.out.keep K1 (λx=>x))
 obtain⟨ok,hok⟩:∃b,b=superOk (startV secret).secret d.now ((n+1:Nat):Int):=⟨_,rfl⟩
 obtain⟨x1,hx1⟩:∃b,b=superVal (startV secret).secret d.now ((n+1:Nat):Int):=⟨_,rfl⟩
 have hxs:x1.sides.length=32:=by rw[hx1];exact superVal_sides _ _ _
 rw[<-hok,<-hx1,<-hn2]at hsup
 obtain⟨c1,hc1⟩:∃c,c=(supCells x1).toArray:=⟨_,rfl⟩
 have hsv:supVal x1= .agg c1:=by rw[hc1];rfl
 have hcl:c1.size=35:=by rw[hc1,List.size_toArray,supCells_len x1 hxs]
 have hone:c1.all (·.oneCell')=true:=by rw[hc1];exact supCells_one _
 rw[hsv]at hsup
 have hin:=info_super
 have hzl:=zero_len
 obtain⟨cz,hcz⟩:∃cz,cz=(supCells zeroSup).toArray:=⟨_,rfl⟩
 have hsz:supVal zeroSup= .agg cz:=by rw[hcz];rfl
 rw[hsz]at hin
 rw[<-hcz]at hzl
 have h35:(Tryz.prog.info? 127).map (·.size)=some c1.size:=by rw[hcl];exact info_super35
 have Hin:=Lib.hid hin
 have H35:=Lib.hid h35
 have Hsv:=Lib.hid hsv
 have Hone:=Lib.hid hone
 have Hzl:=Lib.hid hzl
 have Hsup:=Lib.hid hsup
 have Hok:=Lib.hid hok
 have Hx1:=Lib.hid hx1
 clear hn1 hn2 hsup hok hx1 hc1 hsv hin hcz hsz h35 hone hzl
 go_wp2_with fail
 refine Hsup.out.mono ?_
 rintro e w3 ⟨rfl,K3⟩
 go_upto_region 6 with(first|(refine wpList_alloc_row rfl 127 rfl Hin.out ?_;refine wl_world (λw5=>w5.heap[w3.heap.size]? =some (.cells cz 127 (0,0))∧Keep NoB w3 w5) ⟨heap_alloc_new w3 _,(Keep.refl NoB w3).alloc _⟩ ?_;rintro w5 ⟨hY5,K5⟩)|(refine wpList_store_whole rfl 127 (.tmp 10) (.tmp 40) rfl w3.heap.size 127 cz c1 rfl rfl hY5 H35.out 35 Hzl.out hcl Hone.out ?_;refine wl_world (λw6=>w6.heap[w3.heap.size]? =some (.cells c1 127 (0,0))∧Keep NoB w3 w6) ⟨heap_setRow (c':=c1) hY5,K5.setRow (g:=w3.heap.size) (.inr (Nat.le_refl _)) c1⟩ ?_;clear hY5 K5;rintro w6 ⟨hY6,K6⟩))
 have K36:=K3.thenN K6
 have hV6:=hV1.keep K36 (λx=>x)
 have K06:=K1.thenN K36
 go_cut [47] (λbv wx=>OpenMid w wx B D C secret d.now n bv)
 case first=>
  cases ok with
  | true=>
   have hld:=vaultLoad_any hV6 (Hd.out.keep K06 (λ_ _ x=>x)) Hb.out (by show secret.size<=1000;have:=Hs.out;omega) x1 hxs (HR.out.keep K06 (λx=>x))
   rw[Hsv.out]at hld
   have Hld:=Lib.hid hld
   clear hld
   go_wp2_with (first|(refine wpList_load_row_w (by rfl) 127 (.tmp 10) rfl w3.heap.size rfl 127 c1 (0,0) _ hY6 Tryz.underlying127 rfl H35.out ?_))
   refine Hld.out.mono ?_
   rintro e w7 ⟨hsd,K7⟩
   have hsd2:LoadSaid w7 B D C (startV secret) (loadV secret d.now x1) x1 e:=hsd
   have K07:Keep NoB w w7:=K06.trans K7 (λi hi hs=>by have h1:i=B:=hs;have h2:=HB.out;omega)
   have hva:=vaultAt_eq secret d.now ((n+1:Nat):Int)
   rw[if_pos (show superOk secret d.now ((n+1:Nat):Int)=true from Hok.out.symm),show superVal secret d.now ((n+1:Nat):Int)=x1 from Hx1.out.symm]at hva
   cases hl:loadV secret d.now x1 with
   | some p=>
    rw[hl]at hsd2 hva
    obtain⟨rfl,hV7⟩:=hsd2
    have Hva:=Lib.hid hva
    clear hl hsd hva
    go_wp2_with fail
    go_meet
    case rel=>exact⟨true,_,rfl,hV7,K07,λ_=>Hva.out,λh=>by cases h⟩
   | none=>
    rw[hl]at hsd2 hva
    obtain⟨rfl,t,m,hV7⟩:=hsd2
    have Hva:=Lib.hid hva
    clear hl hsd hva
    go_wp2_with fail
    go_meet
    case rel=>exact⟨false,_,rfl,hV7,K07,(λh=>by cases h),λ_=>⟨Hva.out,t,m,rfl⟩⟩
  | false=>
   go_wp2_with fail
   go_meet
   case rel=>
    refine⟨false,_,rfl,hV6,K06,(λh=>by cases h),λ_=>⟨?_,_,_,rfl⟩⟩
    rw[vaultAt_eq,if_neg]
    intro h2
    rw[show superOk secret d.now ((n+1:Nat):Int)=false from Hok.out.symm]at h2
    cases h2
 case rest=>
  obtain⟨b,V',rfl,hV,K9,ht,hf⟩:=hcut
  clear hV6 K36 K06 hY6 K6 K3 Hsup
  cases b with
  | true=>
   have hva:=ht rfl
   have hop:openV secret d.now n=some (V',((n:Int)+1)):=by
    unfold openV
    rw[show(n:Int)+1=((n+1:Nat):Int)by omega,hva]
   have Hop:=Lib.hid hop
   have hra:=raise_yes (Hc.out.keep K9 (λx=>x)) ((n:Int)+1) (by omega)
   have Hra:=Lib.hid hra
   clear ht hf hva hop hra
   go_wp2_with fail
   refine Hra.out.mono ?_
   rintro e w5 ⟨rfl,hC5,K5⟩
   go_wp2_with fail
   go_ret2
   refine⟨?_,K9.ofN.then K5⟩
   rw[Hop.out]
   exact⟨B,rfl,by have:=HB.out;omega,hV.keep K5 (λe=>by have h1:B=C:=e;have h2:=HB.out;omega),hC5⟩
  | false=>
   obtain⟨hva,t,m,rfl⟩:=hf rfl
   have Hva:=Lib.hid hva
   clear ht hf hva
   by_cases hn0:n=0
   ·have jn:((n:Int)==0)=true:=by rw[hn0];rfl
    have hop:openV secret d.now n=some (freshV secret,(n:Int)):=by
     unfold openV
     rw[show(n:Int)+1=((n+1:Nat):Int)by omega,Hva.out,if_pos (by omega),hn0]
     rfl
    have Hop:=Lib.hid hop
    have hcount:∀W,Keep NoB w W->CountAt W C n:=λW K=>Hc.out.keep K (λx=>x)
    have Hcount:=Lib.hid hcount
    have HVc:=Lib.hid hV
    have hlens:=hV.lens
    have Hlens:=Lib.hid hlens
    clear hop hcount hV hlens hn0
    go_wp2_with fail
    go_loopw [55] (λiv wr=>∃k:Nat,iv= .int .i64 k∧k<=32∧Hid (VaultAt wr B D C (loadTo (blotV secret t m) (freshPages k)))∧Keep NoB w wr) (λiv _=>32-(intOf iv).toNat)
    case atStart=>exact⟨0,rfl,by omega,Lib.hid HVc.out,K9⟩
    case round=>
     obtain⟨k,rfl,hk,hVr,K⟩:=hrel
     obtain⟨wo,rfl⟩:∃wo,wo=wr:=⟨_,rfl⟩
     by_cases hlt32:k<32
     ·have j1:(k:Int)<32:=by omega
      obtain⟨m0,hm0⟩:∃m,m=pmarkV k 0 ⟨#[]⟩:=⟨_,rfl⟩
      have hmk:∀W,Keep NoB wo W->Calls Tryz.prog 74 #[.int .i64 k,.int .i64 0,.string ⟨#[]⟩] W λe w'=>e= .returned (.string m0)∧Keep NoB W w':=by
       intro W KW;rw[hm0];exact pageMark_any k 0 ⟨#[]⟩ (by decide) W (HR.out.keep (K.thenN KW) (λx=>x))
      have Hmk:=Lib.hid hmk
      have HM0:=Lib.hid hm0
      clear hmk hm0
      go_wp2_with fail
      refine wp_region_mix (λ_=>True) [(true,0),(true,1),(true,2),(true,3),(true,4),(true,6),(true,7),(true,10),(true,11),(false,5),(true,8),(false,9),(true,12),(false,13)] (by kernel_rfl) (by kernel_rfl) (λc a d v w h=>by cases d<;>exact h) ?_
      simp only[wpMixC,pickL,List.getElem?_toArray,List.getElem?_cons_succ,List.getElem?_cons_zero]
      repeat(refine wpEarlyC_step (λK hK=> ?_);go_simp;first|(refine⟨_,λ_=>rfl,hK _ ?_⟩;clear hK K;refine wpEarlyC_nil ?_)|(refine hK _ ?_;clear hK K;refine wpEarlyC_nil ?_))
      refine⟨trivial,?_⟩
      go_wp2_with fail
      refine(Hmk.out _ ((Keep.refl NoB wo).drew)).mono ?_
      rintro e w5 ⟨rfl,K5⟩
      have K45:Keep NoB wo w5:=(Keep.refl NoB wo).drew.thenN K5
      have hV5:=hVr.out.keep K45 (λx=>x)
      have ct:=hV5.text k hlt32
      have ft:=hV5.free (38+k)
      clear K5
      go_wp2_with fail
      repeat(refine wpEarlyC_step (λK hK=> ?_);go_simp;first|(refine⟨_,λ_=>rfl,hK _ ?_⟩;clear hK K;refine wpEarlyC_nil ?_)|(refine hK _ ?_;clear hK K;refine wpEarlyC_nil ?_))
      refine⟨trivial,?_⟩
      go_wp2_with fail
      have hV6:=hV5.setText k hlt32 ⟨#[]⟩
      have K6:Keep (OneB B) wo (w5.setCell ⟨B,38+k,none⟩ (.string ⟨#[]⟩)):=(K45.ofN (S:=OneB B)).set1 (38+k) _
      obtain⟨w6,hw6⟩:∃w6,w6=w5.setCell ⟨B,38+k,none⟩ (.string ⟨#[]⟩):=⟨_,rfl⟩
      rw[<-hw6]at hV6 K6⊢
      have cm:=hV6.mark k hlt32
      have fm:=hV6.free (70+k)
      clear hw6 ct ft hV5 K45
      repeat(refine wpEarlyC_step (λK hK=> ?_);go_simp;first|(refine⟨_,λ_=>rfl,hK _ ?_⟩;clear hK K;refine wpEarlyC_nil ?_)|(refine hK _ ?_;clear hK K;refine wpEarlyC_nil ?_))
      refine⟨trivial,?_⟩
      go_wp2_with fail
      have hV7:=hV6.setMark k hlt32 m0
      have K7:Keep (OneB B) wo (w6.setCell ⟨B,70+k,none⟩ (.string m0)):=K6.set1 (70+k) _
      refine⟨⟨k+1,by go_num,by omega,Lib.hid ?_,K.trans K7 (λi hi hs=>by have h1:i=B:=hs;have h2:=HB.out;omega)⟩,by simp[intOf];omega⟩
      have h:=loadTo_step1 Hlens.out (l:=freshPages k) (by rw[freshPages_len];exact hlt32) (⟨#[]⟩,m0)
      rw[freshPages_len,HM0.out,<-freshPages_succ]at h
      rw[<-h,<-HM0.out]
      exact hV7
     ·obtain rfl:k=32:=by omega
      have hVf:=hVr.out
      rw[fresh_all secret t m Hlens.out]at hVf
      have HVf:=Lib.hid hVf
      clear hVf hVr
      go_wp2_with fail
      go_ret2
      refine⟨?_,K.ofN⟩
      rw[Hop.out]
      exact⟨B,rfl,by have:=HB.out;omega,HVf.out,Hcount.out _ K⟩
   ·have jn:((n:Int)==0)=false:=by simp;omega
    have hsup:=vaultSuper_any hV (Hd.out.keep K9 (λ_ _ x=>x)) (λi hi=>by have:=Hb.out i hi;omega) (by show secret.size<=1000;have:=Hs.out;omega) n (HR.out.keep K9 (λx=>x))
    obtain⟨ok2,hok2⟩:∃b,b=superOk (blotV secret t m).secret d.now (n:Int):=⟨_,rfl⟩
    obtain⟨x2,hx2⟩:∃b,b=superVal (blotV secret t m).secret d.now (n:Int):=⟨_,rfl⟩
    have hxs2:x2.sides.length=32:=by rw[hx2];exact superVal_sides _ _ _
    rw[<-hok2,<-hx2]at hsup
    obtain⟨c2,hc2⟩:∃c,c=(supCells x2).toArray:=⟨_,rfl⟩
    have hsv:supVal x2= .agg c2:=by rw[hc2];rfl
    have hcl2:c2.size=35:=by rw[hc2,List.size_toArray,supCells_len x2 hxs2]
    have hone:c2.all (·.oneCell')=true:=by rw[hc2];exact supCells_one _
    rw[hsv]at hsup
    have h35:(Tryz.prog.info? 127).map (·.size)=some c2.size:=by rw[hcl2];exact info_super35
    have hno:vaultAt secret d.now n=none->openV secret d.now n=none:=λh=>by
     unfold openV
     rw[show(n:Int)+1=((n+1:Nat):Int)by omega,Hva.out,if_neg (by omega),h]
     rfl
    have hyes:∀v,vaultAt secret d.now n=some v->openV secret d.now n=some (v,(n:Int)):=λv h=>by
     unfold openV
     rw[show(n:Int)+1=((n+1:Nat):Int)by omega,Hva.out,if_neg (by omega),h]
     rfl
    have Hno:=Lib.hid hno
    have Hyes:=Lib.hid hyes
    have H35b:=Lib.hid h35
    have Hsv2:=Lib.hid hsv
    have Hone2:=Lib.hid hone
    have Hsup2:=Lib.hid hsup
    have Hok2:=Lib.hid hok2
    have Hx2:=Lib.hid hx2
    clear hno hyes hsup hok2 hx2 hc2 hsv h35 hone hn0
    go_wp2_with fail
    refine Hsup2.out.mono ?_
    rintro e w4 ⟨rfl,K4⟩
    go_upto_region 16 with(first|(refine wpList_alloc_row rfl 127 rfl Hin.out ?_;refine wl_world (λw5=>w5.heap[w4.heap.size]? =some (.cells cz 127 (0,0))∧Keep NoB w4 w5) ⟨heap_alloc_new w4 _,(Keep.refl NoB w4).alloc _⟩ ?_;rintro w5 ⟨hY5,K5⟩)|(refine wpList_store_whole rfl 127 (.tmp 13) (.tmp 76) rfl w4.heap.size 127 cz c2 rfl rfl hY5 H35b.out 35 Hzl.out hcl2 Hone2.out ?_;refine wl_world (λw6=>w6.heap[w4.heap.size]? =some (.cells c2 127 (0,0))∧Keep NoB w4 w6) ⟨heap_setRow (c':=c2) hY5,K5.setRow (g:=w4.heap.size) (.inr (Nat.le_refl _)) c2⟩ ?_;clear hY5 K5;rintro w6 ⟨hY6,K6⟩))
    have K46:=K4.thenN K6
    have hV6:=hV.keep K46 (λx=>x)
    have K06:=K9.thenN K46
    have hva:=vaultAt_eq secret d.now (n:Int)
    cases ok2 with
    | true=>
     rw[if_pos (show superOk secret d.now (n:Int)=true from Hok2.out.symm),show superVal secret d.now (n:Int)=x2 from Hx2.out.symm]at hva
     have hld:=vaultLoad_any hV6 (Hd.out.keep K06 (λ_ _ x=>x)) Hb.out (by show secret.size<=1000;have:=Hs.out;omega) x2 hxs2 (HR.out.keep K06 (λx=>x))
     rw[Hsv2.out]at hld
     have Hld:=Lib.hid hld
     have Hva2:=Lib.hid hva
     clear hld hva
     go_wp2_with (first|(refine wpList_load_row_w (by rfl) 127 (.tmp 13) rfl w4.heap.size rfl 127 c2 (0,0) _ hY6 Tryz.underlying127 rfl H35b.out ?_))
     refine Hld.out.mono ?_
     rintro e w7 ⟨hsd,K7⟩
     have hsd2:LoadSaid w7 B D C (blotV secret t m) (loadV secret d.now x2) x2 e:=hsd
     have K07:Keep NoB w w7:=K06.trans K7 (λi hi hs=>by have h1:i=B:=hs;have h2:=HB.out;omega)
     have hva:=Hva2.out
     cases hl:loadV secret d.now x2 with
     | some p=>
      rw[hl]at hsd2 hva
      obtain⟨rfl,hV7⟩:=hsd2
      have hop:=Hyes.out _ hva
      have Hop:=Lib.hid hop
      clear hl hsd hva hop
      go_wp2_with fail
      go_ret2
      refine⟨?_,K07.ofN⟩
      rw[Hop.out]
      exact⟨B,rfl,by have:=HB.out;omega,hV7,Hc.out.keep K07 (λx=>x)⟩
     | none=>
      rw[hl]at hsd2 hva
      obtain⟨rfl,t2,m2,hV7⟩:=hsd2
      have hop:=Hno.out hva
      have Hop:=Lib.hid hop
      clear hl hsd hva hop
      go_wp2_with fail
      go_ret2
      refine⟨?_,K07.ofN⟩
      rw[Hop.out]
      exact⟨rfl,Hc.out.keep K07 (λx=>x)⟩
    | false=>
     rw[if_neg (by intro h2;rw[show superOk secret d.now (n:Int)=false from Hok2.out.symm]at h2;cases h2)]at hva
     have hop:=Hno.out hva
     have Hop:=Lib.hid hop
     clear hva hop
     go_wp2_with fail
     go_ret2
     refine⟨?_,K06.ofN⟩
     rw[Hop.out]
     exact⟨rfl,Hc.out.keep K06 (λx=>x)⟩
end Go.Proofs.YtnmhgehpddipdaaGreatDoor
namespace Go.Cof
open Go.RowKit Go.Proofs.YtnmhgehpddipdaaGreatDoor
theorem tellTo_take_step{key:ByteArray}{ver:Int}{W:List (Nat×ByteArray)}{st0 st:TellSt}{k:Nat}{p:Nat×ByteArray}(h:tellTo key ver (W.take k) st0=(st,true))(hp:W[k]? =some p)(hf:st.dev.fuse≠0):tellTo key ver (W.take (k+1)) st0=(tellStep key ver st p,true):=by
 have hk:=List.getElem?_eq_some_iff.1 hp
 rw[List.take_succ_eq_append_getElem hk.1,hk.2,tellTo_append,h,if_pos rfl,tellTo,if_neg hf]
 rfl
theorem tellTo_stop{key:ByteArray}{ver:Int}{W:List (Nat×ByteArray)}{st0 st:TellSt}{k:Nat}{p:Nat×ByteArray}(h:tellTo key ver (W.take k) st0=(st,true))(hp:W[k]? =some p)(hf:st.dev.fuse=0):tellTo key ver W st0=(st,false):=by
 have hk:=List.getElem?_eq_some_iff.1 hp
 have e:W=W.take k++p::W.drop (k+1):=by
  rw[<-hk.2,<-List.drop_eq_getElem_cons hk.1,List.take_append_drop]
 rw[e,tellTo_append,h,if_pos rfl,tellTo,if_pos hf]
theorem tellTo_wait{key:ByteArray}{ver:Int} :∀(W:List (Nat×ByteArray)) (st:TellSt),(tellTo key ver W st).1.dev.wait.length<=st.dev.wait.length+W.length
 | [],st=>Nat.le_refl _
 | p::W,st=>by
  rw[tellTo]
  split
  ·simp
  ·have h:=tellTo_wait (key:=key) (ver:=ver) W (tellStep key ver st p)
   have e:(tellStep key ver st p).dev.wait.length=st.dev.wait.length+1:=by simp[tellStep,DevV.put]
   rw[e]at h
   simp only[List.length_cons]
   omega
theorem tellTo_marks16{key:ByteArray}{ver:Int} :∀(W:List (Nat×ByteArray)) (st:TellSt),(∀m∈st.marks,m.size=16)->∀m∈(tellTo key ver W st).1.marks,m.size=16
 | [],st,h=>h
 | p::W,st,h=>by
  rw[tellTo]
  split
  ·exact h
  ·refine tellTo_marks16 (key:=key) (ver:=ver) W _ λm hm=> ?_
   simp only[tellStep]at hm
   rcases List.mem_or_eq_of_mem_set hm with hm|rfl
   ·exact h m hm
   ·exact pmarkV_size _ _ _
theorem tell1V_stop{secret:ByteArray}{x0:SupV}{marks:List ByteArray}{d:DevV}{W:List (Nat×ByteArray)}{st:TellSt}(h:tellTo (keyV secret x0.epoch) x0.count W ⟨x0.sides,marks,d⟩=(st,false)):tell1V secret x0 marks d W=⟨14,⟨x0.count,x0.epoch,st.sides,rootV st.marks⟩,st.marks,st.dev⟩:=by
 unfold tell1V
 simp only[h]
 rfl
section
variable {secret:ByteArray}{x0:SupV}{marks:List ByteArray}{d:DevV}{W:List (Nat×ByteArray)}{st:TellSt}(h:tellTo (keyV secret x0.epoch) x0.count W ⟨x0.sides,marks,d⟩=(st,true))
include h
theorem tell1V_a(h1:st.dev.fuse=0):tell1V secret x0 marks d W=⟨14,⟨x0.count,x0.epoch,st.sides,rootV st.marks⟩,st.marks,st.dev⟩:=by
 unfold tell1V
 simp only[h]
 rw[if_neg (by decide),if_pos h1]
theorem tell1V_b(h1:st.dev.fuse≠0)(h2:supMay (skeyV secret) ⟨x0.count,x0.epoch,st.sides,rootV st.marks⟩=false):tell1V secret x0 marks d W=⟨1,⟨x0.count,x0.epoch,st.sides,rootV st.marks⟩,st.marks,st.dev.sync⟩:=by
 unfold tell1V
 simp only[h]
 rw[if_neg (by decide),if_neg h1,if_pos h2]
theorem tell1V_c(h1:st.dev.fuse≠0)(h2:supMay (skeyV secret) ⟨x0.count,x0.epoch,st.sides,rootV st.marks⟩=true)(h3:st.dev.sync.fuse=0):tell1V secret x0 marks d W=⟨14,⟨x0.count,x0.epoch,st.sides,rootV st.marks⟩,st.marks,st.dev.sync⟩:=by
 unfold tell1V
 simp only[h]
 rw[if_neg (by decide),if_neg h1,if_neg (by rw[h2];decide),if_pos h3]
theorem tell1V_d(h1:st.dev.fuse≠0)(h2:supMay (skeyV secret) ⟨x0.count,x0.epoch,st.sides,rootV st.marks⟩=true)(h3:st.dev.sync.fuse≠0)(h4:(st.dev.sync.put (x0.count % 2).toNat (supW (skeyV secret) ⟨x0.count,x0.epoch,st.sides,rootV st.marks⟩)).fuse=0):
  tell1V secret x0 marks d W=⟨14,⟨x0.count,x0.epoch,st.sides,rootV st.marks⟩,st.marks,st.dev.sync.put (x0.count % 2).toNat (supW (skeyV secret) ⟨x0.count,x0.epoch,st.sides,rootV st.marks⟩)⟩:=by
 unfold tell1V
 simp only[h]
 rw[if_neg (by decide),if_neg h1,if_neg (by rw[h2];decide),if_neg h3,if_pos h4]
theorem tell1V_e(h1:st.dev.fuse≠0)(h2:supMay (skeyV secret) ⟨x0.count,x0.epoch,st.sides,rootV st.marks⟩=true)(h3:st.dev.sync.fuse≠0)(h4:(st.dev.sync.put (x0.count % 2).toNat (supW (skeyV secret) ⟨x0.count,x0.epoch,st.sides,rootV st.marks⟩)).fuse≠0):
  tell1V secret x0 marks d W=⟨0,⟨x0.count,x0.epoch,st.sides,rootV st.marks⟩,st.marks,(st.dev.sync.put (x0.count % 2).toNat (supW (skeyV secret) ⟨x0.count,x0.epoch,st.sides,rootV st.marks⟩)).sync⟩:=by
 unfold tell1V
 simp only[h]
 rw[if_neg (by decide),if_neg h1,if_neg (by rw[h2];decide),if_neg h3,if_neg h4]
end
end Go.Cof
namespace Go.Proofs.YtnmhgehpddipdaaGreatDoor
open Go.RowKit Go.Cof
theorem moved_refl(w:World)(wv:Value):Moved w wv wv:= .inl rfl
theorem moved_trans{w w1:World}{a b c:Value}(h:Moved w a b)(k:Moved w1 b c)(hs:w.heap.size<=w1.heap.size):Moved w a c:=by
 rcases k with k|k
 ·rcases h with h|h
  ·exact .inl (k.trans h)
  ·exact .inr λx hx=>h x (k▸hx)
 ·exact .inr λx hx=>Nat.le_trans hs (k x hx)
theorem devB_old{w:World}{D S:Nat}{wv wv':Value}(h:Moved w wv wv'):∀i,i<w.heap.size->DevB D S wv' i->DevB D S wv i:=by
 rintro i hi (hb|hb|hb)
 ·exact .inl hb
 ·exact .inr (.inl hb)
 ·rcases h with h|h
  ·exact .inr (.inr (h▸hb))
  ·have:=h i hb;omega
section
variable {w:World}{D S:Nat}{wv:Value}{d:DevV}
theorem devWrite_yes(h:DevIs w D S wv d)(k:Nat)(s:ByteArray)(hk:k<66)(hs:s.size<=256)(hf:d.fuse≠0)(hw:d.wait.length<1000000):
  Calls Tryz.prog 159 #[.pointer (some ⟨D,0,none⟩),.int .i64 k,.string s] w λe w'=>e= .returned .nilIface∧(∃wv',DevIs w' D S wv' (d.put k s)∧Moved w wv wv')∧Keep (DevB D S wv) w w':=
 (write_ok h k s hk hs hf hw).mono λ_ _ ⟨he,⟨wv',hd,hm⟩,hK⟩=>⟨he,⟨wv',hd,hm⟩,hK⟩
theorem devWrite_no(h:DevIs w D S wv d)(k:Nat)(s:ByteArray)(hk:k<66)(hs:s.size<=256)(hf:d.fuse=0):
  Calls Tryz.prog 159 #[.pointer (some ⟨D,0,none⟩),.int .i64 k,.string s] w λe w'=>e= .returned (.iface 40 (.int .i64 14))∧DevIs w' D S wv d∧Keep (DevB D S wv) w w':=by
 have h':DevAt w D S wv d.sure d.wait 0:=by have:=h;rw[DevIs,hf]at this;exact this
 refine(write_spent h' k s hk hs).mono λ_ _ ⟨he,hd,hK⟩=>⟨he,?_,hK.mono λi _ hi=> .inl hi⟩
 rw[DevIs,hf];exact hd
theorem devSync_yes(h:DevIs w D S wv d)(hf:d.fuse≠0):
  Calls Tryz.prog 160 #[.pointer (some ⟨D,0,none⟩)] w λe w'=>e= .returned .nilIface∧DevIs w' D S (.slice none 0 0) d.sync∧Keep (DevB D S wv) w w':=sync_ok h hf
theorem devSync_no(h:DevIs w D S wv d)(hf:d.fuse=0):
  Calls Tryz.prog 160 #[.pointer (some ⟨D,0,none⟩)] w λe w'=>e= .returned (.iface 40 (.int .i64 14))∧DevIs w' D S wv d∧Keep (DevB D S wv) w w':=by
 have h':DevAt w D S wv d.sure d.wait 0:=by have:=h;rw[DevIs,hf]at this;exact this
 refine(sync_spent h').mono λ_ _ ⟨he,hd,hK⟩=>⟨he,?_,hK.mono λi _ hi=> .inl hi⟩
 rw[DevIs,hf];exact hd
end
def SupRow(w:World)(X:Nat)(x:SupV):Prop:=w.heap[X]? =some (.cells (supCells x).toArray 127 (0,0))∧x.sides.length=32
def MarkRow(w:World)(K:Nat)(l:List ByteArray):Prop:=w.heap[K]? =some (.cells (l.map Value.string).toArray 128 (0,0))∧l.length=32
section
variable {w w':World}{X K:Nat}{x:SupV}{l:List ByteArray}
theorem SupRow.keep(h:SupRow w X x){S:Nat->Prop}(hk:Keep S w w')(hn:¬S X):SupRow w' X x:=⟨hk.heap h.1 hn,h.2⟩
theorem MarkRow.keep(h:MarkRow w K l){S:Nat->Prop}(hk:Keep S w w')(hn:¬S K):MarkRow w' K l:=⟨hk.heap h.1 hn,h.2⟩
theorem SupRow.count(h:SupRow w X x):w.cell? ⟨X,0,none⟩=some (.int .i64 x.count):=by rw[cell_of_row _ _ _ _ _ (0,0) h.1];rfl
theorem SupRow.side(h:SupRow w X x)(i:Nat)(hi:i<32):w.cell? ⟨X,2+i,none⟩=some (.bool (x.sides.getD i false)):=by
 rw[cell_of_row _ _ _ _ _ (0,0) h.1];exact supCells_side x i (by rw[h.2];exact hi)
theorem SupRow.root(h:SupRow w X x):w.cell? ⟨X,34,none⟩=some (.string x.root):=by
 rw[cell_of_row _ _ _ _ _ (0,0) h.1,supCells,List.getElem?_toArray,List.getElem?_append_right (by simp[h.2]),List.length_append,List.length_map,h.2];rfl
theorem SupRow.free(h:SupRow w X x)(i:Nat):w.frozen? ⟨X,i,none⟩=false:=Lib.frozen_of_heap h.1 i
theorem SupRow.setSide(h:SupRow w X x)(i:Nat)(hi:i<32)(b:Bool):SupRow (w.setCell ⟨X,2+i,none⟩ (.bool b)) X { x with sides:=x.sides.set i b } :=by
 refine⟨?_,by simp[h.2]⟩
 rw[heap_setCell_row h.1]
 obtain⟨c,e,sd,r⟩:=x
 rw[supCells_set c e sd r i b (by have:=h.2;simp only at this;omega)]
theorem SupRow.setRoot(h:SupRow w X x)(s:ByteArray):SupRow (w.setCell ⟨X,34,none⟩ (.string s)) X { x with root:=s } :=by
 refine⟨?_,h.2⟩
 rw[heap_setCell_row h.1,List.setIfInBounds_toArray,supCells,List.set_append_right _ _ (by simp[h.2]),List.length_append,List.length_map,h.2]
 rfl
theorem MarkRow.cell(h:MarkRow w K l)(i:Nat)(hi:i<32):w.cell? ⟨K,i,none⟩=some (.string (l.getD i ⟨#[]⟩)):=by
 rw[cell_of_row _ _ _ _ _ (0,0) h.1,List.getElem?_toArray,List.getElem?_map,List.getElem?_eq_getElem (by rw[h.2];exact hi)]
 simp[List.getD_eq_getElem?_getD,h.2,hi]
theorem MarkRow.free(h:MarkRow w K l)(i:Nat):w.frozen? ⟨K,i,none⟩=false:=Lib.frozen_of_heap h.1 i
theorem MarkRow.set(h:MarkRow w K l)(i:Nat)(s:ByteArray):MarkRow (w.setCell ⟨K,i,none⟩ (.string s)) K (l.set i s):=by
 refine⟨?_,by simp[h.2]⟩
 rw[heap_setCell_row h.1,List.setIfInBounds_toArray,List.map_set]
theorem MarkRow.strs(h:MarkRow w K l):Strs w (.slice (some ⟨K,0,none⟩) 32 32) l:= .inr ⟨K,0,32,by rw[h.2],lt_of_heap h.1,λi hi=>by rw[Nat.zero_add];exact h.cell i (by rw[<-h.2];exact hi)⟩
end
def TellB(D S:Nat)(wv:Value)(X K:Nat):Nat->Prop:=λb=>DevB D S wv b∨b=X∨b=K
structure TellEnv(w:World)(B D C S:Nat)(V:VaultV)(wv:Value)(I VB EB X MB:Nat)(mo:Option Nat)(K:Nat)(o:Obj)(W:List (Nat×ByteArray))(x:SupV):Prop where
 vault:VaultAt w B D C V
 ids:∃p c,w.cell? ⟨I,0,none⟩=some (.slice p W.length c)∧Nums w (.slice p W.length c) (W.map λp=>(p.1:Int))∧(∀b,(Value.slice p W.length c).ownBlock=some b->¬TellB D S wv X K b)
 v:w.cell? ⟨VB,0,none⟩=some (.pointer (some ⟨B,0,none⟩))
 epoch:w.cell? ⟨EB,0,none⟩=some (.int .i64 x.epoch)
 map:w.cell? ⟨MB,0,none⟩=some (.map mo)
 obj:HasMap mo o w
 look:∀w':World,HasMap mo o w'->∀p∈W,(Instr.lookup 96 (.map mo) (.int .i64 (p.1:Int)) false).run Tryz.prog w'= .ok (.string p.2) w'
 apart:∀b,b=B∨b=I∨b=VB∨b=EB∨b=MB∨mo=some b->¬TellB D S wv X K b
 devs:∀b,DevB D S wv b->b≠X∧b≠K
 xk:X≠K
 small:∀p∈W,p.1<32∧p.2.size<=200
def TellC19(B VB X:Nat)(sec:ByteArray)(cx:Array Value)(w:World):Prop:=w.cell? ⟨VB,0,none⟩=some (.pointer (some ⟨B,0,none⟩))∧w.cell? ⟨B,2,none⟩=some (.string sec)∧w.heap[X]? =some (.cells cx 127 (0,0))
def TellC22(B D VB X:Nat)(ver:Int)(w:World):Prop:=w.cell? ⟨VB,0,none⟩=some (.pointer (some ⟨B,0,none⟩))∧w.cell? ⟨B,0,none⟩=some (.pointer (some ⟨D,0,none⟩))∧w.cell? ⟨X,0,none⟩=some (.int .i64 ver)
def TellC8(B D VB X id:Nat)(b:Bool)(w:World):Prop:=w.cell? ⟨VB,0,none⟩=some (.pointer (some ⟨B,0,none⟩))∧w.cell? ⟨B,0,none⟩=some (.pointer (some ⟨D,0,none⟩))∧w.cell? ⟨X,2+id,none⟩=some (.bool b)
def Tell1Said(w w':World)(D S:Nat)(wv:Value)(X K:Nat)(t:Told1)(e:Ending):Prop:=
 e= .returned (errVal t.err)∧(∃wv',DevIs w' D S wv' t.dev∧Moved w wv wv')∧(t.err=0->SupRow w' X t.x∧MarkRow w' K t.marks)
def TellC(B D VB EB X MB:Nat)(mo:Option Nat)(sec:ByteArray)(ep ver:Int)(o:Obj)(w:World):Prop:=
 w.cell? ⟨VB,0,none⟩=some (.pointer (some ⟨B,0,none⟩))∧w.cell? ⟨B,0,none⟩=some (.pointer (some ⟨D,0,none⟩))∧w.cell? ⟨B,2,none⟩=some (.string sec)∧w.cell? ⟨EB,0,none⟩=some (.int .i64 ep)∧w.cell? ⟨X,0,none⟩=some (.int .i64 ver)∧w.cell? ⟨MB,0,none⟩=some (.map mo)∧HasMap mo o w
theorem TellEnv.cls{w w':World}{B D C S:Nat}{V:VaultV}{wv:Value}{I VB EB X MB:Nat}{mo:Option Nat}{K:Nat}{o:Obj}{W:List (Nat×ByteArray)}{x y:SupV}(h:TellEnv w B D C S V wv I VB EB X MB mo K o W x)(hk:Keep (TellB D S wv X K) w w')(hx:SupRow w' X y):TellC B D VB EB X MB mo V.secret x.epoch y.count o w':=by
 have cl:∀(b i:Nat) (v:Value),(b=B∨b=I∨b=VB∨b=EB∨b=MB∨mo=some b)->w.cell? ⟨b,i,none⟩=some v->w'.cell? ⟨b,i,none⟩=some v:=λb i v hb hv=>(hk.cell (p:=⟨b,i,none⟩) (block_lt_of_cell hv) (h.apart b hb)).trans hv
 exact⟨cl _ _ _ (by simp) h.v,cl _ _ _ (by simp) h.vault.dev,cl _ _ _ (by simp) h.vault.secret,cl _ _ _ (by simp) h.epoch,hx.count,cl _ _ _ (by simp) h.map,h.obj.keep hk (λb hb=>h.apart b (by simp[hb]))⟩
set_option maxRecDepth 100000
set_option maxHeartbeats 8000000 in
theorem tell1_any{w:World}{B D C S:Nat}{V:VaultV}{wv:Value}{I VB EB X MB:Nat}{mo:Option Nat}{K:Nat}{o:Obj}{W:List (Nat×ByteArray)}{x:SupV}{ms:List ByteArray}{d:DevV}(h:TellEnv w B D C S V wv I VB EB X MB mo K o W x)(hd:DevIs w D S wv d)(hx:SupRow w X x)(hm:MarkRow w K ms)(hms:∀m∈ms,m.size=16)
  (hw:d.wait.length+W.length<900000) (hs:V.secret.size<=1000) (hv1:1<=x.count) (hv2:x.count<=1099511627776) (hWl:W.length<=1000) (R:RoundsVar w) (hR:¬TellB D S wv X K 5):
  Calls Tryz.prog 157 #[.pointer (some ⟨I,0,none⟩),.pointer (some ⟨VB,0,none⟩),.pointer (some ⟨EB,0,none⟩),.pointer (some ⟨X,0,none⟩),.pointer (some ⟨MB,0,none⟩),.pointer (some ⟨K,0,none⟩)] w λe w'=>Tell1Said w w' D S wv X K (tell1V V.secret x ms d W) e∧Keep (TellB D S wv X K) w w':=by
 obtain⟨pi,ci,hci,hids,hidb⟩:=h.ids
 obtain⟨n,hn⟩:∃n,n=W.length:=⟨_,rfl⟩
 rw[<-hn]at hci hids hidb hw hWl
 obtain⟨ver,hver⟩:∃v,v=x.count:=⟨_,rfl⟩
 obtain⟨ep,hep⟩:∃v,v=x.epoch:=⟨_,rfl⟩
 obtain⟨sec,hsec⟩:∃v,v=V.secret:=⟨_,rfl⟩
 obtain⟨key,hkey⟩:∃k,k=keyV sec ep:=⟨_,rfl⟩
 have hks:key.size=32:=by rw[hkey];exact keyV_size _ _
 have hka:∀W',Keep (TellB D S wv X K) w W'->Calls Tryz.prog 140 #[.string sec,.int .i64 ep] W' λe w'=>e= .returned (.string key)∧Keep NoB W' w':=by
  intro W' KW;rw[hkey];exact key_any sec ep (by rw[hsec];exact hs) W' (R.keep KW hR)
 have Hka:=Lib.hid hka
 have Hn:=Lib.hid hn
 have Hver:=Lib.hid hver
 have Hep:=Lib.hid hep
 have Hsec:=Lib.hid hsec
 have Hkey:=Lib.hid hkey
 have HE:=Lib.hid h
 have Hd:=Lib.hid hd
 have Hx:=Lib.hid hx
 have Hm:=Lib.hid hm
 have Hms:=Lib.hid hms
 have HRw:=Lib.hid R
 have HRn:=Lib.hid hR
 have Hids:=Lib.hid hids
 have Hidb:=Lib.hid hidb
 have Hs:=Lib.hid hs
 have hver1:1<=ver:=by rw[hver];exact hv1
 have hver2:ver<=1099511627776:=by rw[hver];exact hv2
 clear hka hn hver hep hsec hkey h hd hx hm hms R hR hids hidb hs hv1 hv2
 go_enter Tryz.func157,Tryz.ntmps157
 go_wp2_with fail
 go_loopw [19] (λiv wr=>∃(k:Nat) (st:TellSt) (wvr:Value),iv= .int .i64 k∧k<=n∧Hid (tellTo key ver (W.take k) ⟨x.sides,ms,d⟩=(st,true))∧Hid (DevIs wr D S wvr st.dev)∧Hid (Moved w wv wvr)∧Hid (SupRow wr X ⟨x.count,x.epoch,st.sides,x.root⟩)∧Hid (MarkRow wr K st.marks)∧Keep (TellB D S wv X K) w wr) (λiv _=>n-(intOf iv).toNat)
 case atStart=>exact⟨0,⟨x.sides,ms,d⟩,wv,rfl,by omega,Lib.hid rfl,Lib.hid Hd.out,Lib.hid (moved_refl _ _),Lib.hid Hx.out,Lib.hid Hm.out,Keep.refl _ _⟩
 case round=>
  obtain⟨k,st,wvr,rfl,hk,hst,hdr,hmv,hxr,hmr,KR⟩:=hrel
  obtain⟨wo,rfl⟩:∃wo,wo=wr:=⟨_,rfl⟩
  by_cases hlt:k<n
  ·have j1:(k:Int)<n:=by omega
   obtain⟨p,hp⟩:∃p,W[k]? =some p:=⟨_,List.getElem?_eq_getElem (by have:=Hn.out;omega)⟩
   obtain⟨id,s⟩:=p
   have hsm:=HE.out.small _ (List.mem_of_getElem? hp)
   have hN:=Hids.out
   have hci2:wo.cell? ⟨I,0,none⟩=some (.slice pi n ci):=(KR.cell (p:=⟨I,0,none⟩) (block_lt_of_cell hci) (HE.out.apart I (by simp))).trans hci
   have hNr:=hN.keep KR Hidb.out
   obtain⟨bi,oi,hpi,-,hbi,hcid⟩:=hNr.at (by rw[List.length_map];have:=Hn.out;omega)
   have hidk:wo.cell? ⟨bi,oi+k,none⟩=some (.int .i64 (id:Int)):=by
    rw[hcid k (by rw[List.length_map];have:=Hn.out;omega),List.getD_eq_getElem?_getD,List.getElem?_map,hp];rfl
   subst hpi
   have Hp:=Lib.hid hp
   have Hsm:=Lib.hid hsm
   have hid32:id<32:=hsm.1
   have jid:(id:Int)<32:=by omega
   clear hcid hp hsm hN hNr
   have hcl:=HE.out.cls KR hxr.out
   rw[<-Hsec.out,<-Hep.out]at hcl
   rw[show(SupV.mk x.count x.epoch st.sides x.root).count=ver from Hver.out.symm]at hcl
   have L1:TellC B D VB EB X MB mo sec ep ver o wo:=hcl
   have hlk:=HE.out.look
   have q1:∀y:InC (TellC B D VB EB X MB mo sec ep ver o),y.w.cell? ⟨VB,0,none⟩=some (.pointer (some ⟨B,0,none⟩)):=λy=>y.h.1
   have q2:∀y:InC (TellC B D VB EB X MB mo sec ep ver o),y.w.cell? ⟨B,2,none⟩=some (.string sec):=λy=>y.h.2.2.1
   have q3:∀y:InC (TellC B D VB EB X MB mo sec ep ver o),y.w.cell? ⟨EB,0,none⟩=some (.int .i64 ep):=λy=>y.h.2.2.2.1
   have q4:∀y:InC (TellC B D VB EB X MB mo sec ep ver o),y.w.cell? ⟨X,0,none⟩=some (.int .i64 ver):=λy=>y.h.2.2.2.2.1
   have q5:∀y:InC (TellC B D VB EB X MB mo sec ep ver o),y.w.cell? ⟨MB,0,none⟩=some (.map mo):=λy=>y.h.2.2.2.2.2.1
   have q6:∀y:InC (TellC B D VB EB X MB mo sec ep ver o),(Instr.lookup 96 (.map mo) (.int .i64 (id:Int)) false).run Tryz.prog y.w= .ok (.string s) y.w:=λy=>hlk y.w y.h.2.2.2.2.2.2 (id,s) (List.mem_of_getElem? Hp.out)
   have hcell:∀(W':World),Keep NoB wo W'->TellC B D VB EB X MB mo sec ep ver o W':=λW' KW=>by
    have h2:=HE.out.cls (KR.thenN KW) (hxr.out.keep KW (λx=>x))
    rw[<-Hsec.out,<-Hep.out]at h2
    rw[show(SupV.mk x.count x.epoch st.sides x.root).count=ver from Hver.out.symm]at h2
    exact h2
   have Hcell:=Lib.hid hcell
   obtain⟨T4,hT4⟩:∃t,t=sealV key id ver s:=⟨_,rfl⟩
   have hseal:∀W',Keep NoB wo W'->Calls Tryz.prog 158 #[.string key,.int .i64 (id:Int),.int .i64 ver,.string s] W' λe w'=>e= .returned (.tuple #[.string T4,.nilIface])∧Keep NoB W' w':=by
    intro W' KW;rw[hT4];exact seal_ok key id ver s hks (by omega) (by omega) hver1 hver2 Hsm.out.2 W' (HRw.out.keep (KR.thenN KW) HRn.out)
   have hT4s:T4.size=237:=by rw[hT4];exact sealV_size _ _ _ _ Hsm.out.2
   have Hseal:=Lib.hid hseal
   have HT4:=Lib.hid hT4
   clear hcl hlk hcell hseal hT4
   go_wp2_with fail
   refine wp_region_mix (TellC B D VB EB X MB mo sec ep ver o) [(true,0),(true,1),(true,2),(true,3),(true,4),(true,6),(true,7),(true,8),(true,9),(true,10),(true,11),(false,5),(false,12),(true,13),(true,14),(true,15),(true,16),(false,17)] (by kernel_rfl) (by kernel_rfl) (λc a d v w h=>by cases d<;>exact h) ?_
   simp only[wpMixC,pickL,List.getElem?_toArray,List.getElem?_cons_succ,List.getElem?_cons_zero]
   repeat(refine wpEarlyC_step (λK hK=> ?_);go_simp;first|(refine⟨_,λ_=>rfl,hK _ ?_⟩;clear hK K;refine wpEarlyC_nil ?_)|(refine hK _ ?_;clear hK K;refine wpEarlyC_nil ?_))
   clear q1 q2 q3 q4 q5 q6
   refine⟨L1,?_⟩
   go_wp2_with fail
   refine(Hka.out _ KR.drew).mono ?_
   rintro e w2 ⟨rfl,K2⟩
   have K02:Keep NoB wo w2:=(Keep.refl NoB wo).drew.thenN K2
   go_wp2_with fail
   refine⟨Hcell.out _ K02,?_⟩
   go_wp2_with fail
   refine(Hseal.out _ K02).mono ?_
   rintro e w3 ⟨rfl,K3⟩
   have K03:=K02.thenN K3
   clear K2 K3 K02 L1
   go_wp2_with fail
   repeat(refine wpEarlyC_step (λK hK=> ?_);go_simp;first|(refine⟨_,λ_=>rfl,hK _ ?_⟩;clear hK K;refine wpEarlyC_nil ?_)|(refine hK _ ?_;clear hK K;refine wpEarlyC_nil ?_))
   refine⟨Hcell.out _ K03,?_⟩
   go_wp2_with fail
   obtain⟨sd,hsd⟩:∃b,b=st.sides.getD id false:=⟨_,rfl⟩
   have hXl:X<w.heap.size:=lt_of_heap Hx.out.1
   have hKl:K<w.heap.size:=lt_of_heap Hm.out.1
   have hdevr:∀b,DevB D S wvr b->b≠X∧b≠K:=λb hb=>by
    by_cases hlt:b<w.heap.size
    ·exact HE.out.devs b (devB_old hmv.out b hlt hb)
    ·exact⟨λe=>by omega,λe=>by omega⟩
   have Hdevr:=Lib.hid hdevr
   clear hdevr
   have hd3:=hdr.out.keep K03 (λ_ _ x=>x)
   have hx3:=hxr.out.keep K03 (λx=>x)
   have hm3:=hmr.out.keep K03 (λx=>x)
   have KR3:=KR.thenN K03
   have L3:=Hcell.out _ K03
   have s3:w3.cell? ⟨X,2+id,none⟩=some (.bool sd):=by rw[hsd];exact hx3.side id hid32
   have q1:∀y:InC (TellC B D VB EB X MB mo sec ep ver o),y.w.cell? ⟨X,0,none⟩=some (.int .i64 ver):=λy=>y.h.2.2.2.2.1
   have q2:∀y:InC (TellC B D VB EB X MB mo sec ep ver o),y.w.cell? ⟨MB,0,none⟩=some (.map mo):=λy=>y.h.2.2.2.2.2.1
   have q3:∀y:InC (TellC B D VB EB X MB mo sec ep ver o),(Instr.lookup 96 (.map mo) (.int .i64 (id:Int)) false).run Tryz.prog y.w= .ok (.string s) y.w:=λy=>HE.out.look y.w y.h.2.2.2.2.2.2 (id,s) (List.mem_of_getElem? Hp.out)
   have q4:∀y:InC (λW':World=>W'.cell? ⟨X,2+id,none⟩=some (.bool sd)),y.w.cell? ⟨X,2+id,none⟩=some (.bool sd):=λy=>y.h
   obtain⟨m1,hm1⟩:∃m,m=pmarkV id ver s:=⟨_,rfl⟩
   have hmk:∀W',Keep NoB w3 W'->Calls Tryz.prog 74 #[.int .i64 (id:Int),.int .i64 ver,.string s] W' λe w'=>e= .returned (.string m1)∧Keep NoB W' w':=by
    intro W' KW;rw[hm1];exact pageMark_any id ver s (by have:=Hsm.out.2;omega) W' (HRw.out.keep (KR3.thenN KW) HRn.out)
   have Hmk:=Lib.hid hmk
   have Hm1:=Lib.hid hm1
   have Hsd:=Lib.hid hsd
   clear hmk hm1 hsd Hseal Hcell K03
   refine wp_region_mixb 16 (TellC B D VB EB X MB mo sec ep ver o) (λW':World=>W'.cell? ⟨X,2+id,none⟩=some (.bool sd)) [(2,0),(2,1),(2,2),(2,3),(2,4),(1,5),(2,6),(2,7),(2,8),(2,9),(2,10),(2,11),(2,12),(2,14),(2,15),(0,13),(0,16),(2,17),(0,18)] (by kernel_rfl) (by kernel_rfl) (λc a d v w h=>by cases d<;>exact h) ?_
   simp only[wpMixB,pickL,List.getElem?_toArray,List.getElem?_cons_succ,List.getElem?_cons_zero]
   repeat(refine wpEarlyC_step (λK hK=> ?_);go_simp;first|(refine⟨_,λ_=>rfl,hK _ ?_⟩;clear hK K;refine wpEarlyC_nil ?_)|(refine hK _ ?_;clear hK K;refine wpEarlyC_nil ?_))
   clear q1 q2 q3 q4
   refine⟨L3,λ_=>s3,?_⟩
   go_wp2_with fail
   refine(Hmk.out _ (Keep.refl _ _).drew).mono ?_
   rintro e w4 ⟨rfl,K4⟩
   have K34:Keep NoB w3 w4:=(Keep.refl NoB w3).drew.thenN K4
   have hd4:=hd3.keep K34 (λ_ _ x=>x)
   have hx4:=hx3.keep K34 (λx=>x)
   have hm4:=hm3.keep K34 (λx=>x)
   have KR4:=KR3.thenN K34
   have s4:w4.cell? ⟨X,2+id,none⟩=some (.bool sd):=(K34.cell (p:=⟨X,2+id,none⟩) (lt_of_heap hx3.1) (λx=>x)).trans s3
   have f4:=hx4.free (2+id)
   have L4:TellC B D VB EB X MB mo sec ep ver o w4:=by
    have h2:=HE.out.cls KR4 hx4
    rw[<-Hsec.out,<-Hep.out]at h2
    rw[show(SupV.mk x.count x.epoch st.sides x.root).count=ver from Hver.out.symm]at h2
    exact h2
   clear K4 K34 L3 s3 hx3 hm3 KR3
   go_wp2_with fail
   refine⟨L4,λ_=>s4,?_⟩
   simp only[pickL,List.getElem?_toArray,List.getElem?_cons_succ,List.getElem?_cons_zero]
   go_wp2_with fail
   have hx5:=hx4.setSide id hid32 (!sd)
   have K5:Keep (OneB X) w4 (w4.setCell ⟨X,2+id,none⟩ (.bool (!sd))):=(Keep.refl (OneB X) w4).set1 (2+id) _
   have hd5:=hd4.keep K5 (λb hb e=>(Hdevr.out b hb).1 e)
   have hm5:=hm4.keep K5 (λe=>HE.out.xk (Eq.symm e))
   have KR5:Keep (TellB D S wv X K) w (w4.setCell ⟨X,2+id,none⟩ (.bool (!sd))):=KR4.trans K5 (λi _ hs=> .inr (.inl hs))
   obtain⟨w5,hw5⟩:∃w5,w5=w4.setCell ⟨X,2+id,none⟩ (.bool (!sd)):=⟨_,rfl⟩
   rw[<-hw5]at hd5 hx5 hm5 KR5 K5⊢
   have L5:TellC B D VB EB X MB mo sec ep ver o w5:=by
    have h2:=HE.out.cls KR5 hx5
    rw[<-Hsec.out,<-Hep.out]at h2
    rw[show(SupV.mk x.count x.epoch (st.sides.set id (!sd)) x.root).count=ver from Hver.out.symm]at h2
    exact h2
   have cm:=hm5.cell id hid32
   have fm:=hm5.free id
   clear hw5 L4 s4 f4 hx4 hm4 KR4 K5
   simp only[wpMixB,pickL,List.getElem?_toArray,List.getElem?_cons_succ,List.getElem?_cons_zero]
   repeat(refine wpEarlyC_step (λK hK=> ?_);go_simp;first|(refine⟨_,λ_=>rfl,hK _ ?_⟩;clear hK K;refine wpEarlyC_nil ?_)|(refine hK _ ?_;clear hK K;refine wpEarlyC_nil ?_))
   refine⟨L5,λh=>(by cases h),?_⟩
   go_wp2_with fail
   have hm6:=hm5.set id m1
   have K6:Keep (OneB K) w5 (w5.setCell ⟨K,id,none⟩ (.string m1)):=(Keep.refl (OneB K) w5).set1 id _
   have hd6:=hd5.keep K6 (λb hb e=>(Hdevr.out b hb).2 e)
   have hx6:=hx5.keep K6 (λe=>HE.out.xk e)
   have KR6:Keep (TellB D S wv X K) w (w5.setCell ⟨K,id,none⟩ (.string m1)):=KR5.trans K6 (λi _ hs=> .inr (.inr hs))
   obtain⟨w6,hw6⟩:∃w6,w6=w5.setCell ⟨K,id,none⟩ (.string m1):=⟨_,rfl⟩
   rw[<-hw6]at hd6 hx6 hm6 KR6⊢
   clear hw6 cm fm L5 hx5 hm5 KR5 K6 hd5 hd4 hd3
   have hc8:∀W' x',Keep (TellB D S wv X K) w W'->SupRow W' X x'->x'.sides.getD id false=(!sd)->TellC8 B D VB X id (!sd) W':=λW' x' KW hx' hs'=>by
    have h2:=HE.out.cls KW hx'
    exact⟨h2.1,h2.2.1,by rw[<-hs'];exact hx'.side id hid32⟩
   have hsd6:(st.sides.set id (!sd)).getD id false=(!sd):=by
    have:id<st.sides.length:=by have:=hxr.out.2;simp only at this;omega
    rw[List.getD_eq_getElem?_getD,List.getElem?_set_self this];rfl
   have L6:TellC8 B D VB X id (!sd) w6:=hc8 w6 _ KR6 hx6 hsd6
   have Hc8:=Lib.hid hc8
   have Hsd6:=Lib.hid hsd6
   have q1:∀y:InC (TellC8 B D VB X id (!sd)),y.w.cell? ⟨VB,0,none⟩=some (.pointer (some ⟨B,0,none⟩)):=λy=>y.h.1
   have q2:∀y:InC (TellC8 B D VB X id (!sd)),y.w.cell? ⟨B,0,none⟩=some (.pointer (some ⟨D,0,none⟩)):=λy=>y.h.2.1
   have q3:∀y:InC (TellC8 B D VB X id (!sd)),y.w.cell? ⟨X,2+id,none⟩=some (.bool (!sd)):=λy=>y.h.2.2
   have hpl:=λ(W':World)=>vaultPlace_any id (!sd) hid32 W'
   obtain⟨q,hq⟩:∃q,q=placeN id (!sd):=⟨_,rfl⟩
   have hq66:q<66:=by rw[hq];exact placeN_lt hid32 _
   rw[<-hq]at hpl
   have Hpl:=Lib.hid hpl
   have Hq:=Lib.hid hq
   have hwl:st.dev.wait.length<1000000:=by
    have h1:=tellTo_wait (key:=key) (ver:=ver) (W.take k) ⟨x.sides,ms,d⟩
    rw[hst.out,List.length_take]at h1
    simp only at h1
    omega
   have HXl:=Lib.hid hXl
   have HKl:=Lib.hid hKl
   clear hc8 hsd6 hpl hq hXl hKl
   refine wp_region_mix (TellC8 B D VB X id (!sd)) [(true,0),(true,1),(true,2),(true,3),(true,4),(true,5),(true,6),(true,7),(true,8),(true,10),(false,9),(false,11),(false,12)] (by kernel_rfl) (by kernel_rfl) (λc a d v w h=>by cases d<;>exact h) ?_
   simp only[wpMixC,pickL,List.getElem?_toArray,List.getElem?_cons_succ,List.getElem?_cons_zero]
   repeat(refine wpEarlyC_step (λK hK=> ?_);go_simp;first|(refine⟨_,λ_=>rfl,hK _ ?_⟩;clear hK K;refine wpEarlyC_nil ?_)|(refine hK _ ?_;clear hK K;refine wpEarlyC_nil ?_))
   clear q1 q2 q3
   refine⟨L6,?_⟩
   go_wp2_with fail
   refine(Hpl.out _).mono ?_
   rintro e w7 ⟨rfl,hw7⟩
   subst hw7
   go_wp2_with fail
   refine⟨L6,?_⟩
   by_cases hfu:st.dev.fuse=0
   ·have hwr:=devWrite_no (hd6.keep (Keep.refl NoB w6).drew (λ_ _ x=>x)) q T4 hq66 (by omega) hfu
    have Hwr:=Lib.hid hwr
    clear hwr
    go_wp2_with fail
    refine Hwr.out.mono ?_
    rintro e w8 ⟨rfl,hd8,K8⟩
    have KR8:Keep (TellB D S wv X K) w w8:=KR6.drew.trans K8 (λi hi hs=> .inl (devB_old hmv.out i hi hs))
    have hx8:=hx6.keep ((Keep.refl (DevB D S wvr) w6).drew.then K8) (λe=>(Hdevr.out X e).1 rfl)
    have hm8:=hm6.keep ((Keep.refl (DevB D S wvr) w6).drew.then K8) (λe=>(Hdevr.out K e).2 rfl)
    have L8:=Hc8.out w8 _ KR8 hx8 Hsd6.out
    clear Hwr L6
    go_wp2_with fail
    refine⟨L8,?_⟩
    go_wp2_with fail
    go_ret
    refine⟨?_,KR8⟩
    have hstop:tellTo (keyV V.secret x.epoch) x.count W ⟨x.sides,ms,d⟩=(st,false):=by
     have h:=tellTo_stop hst.out Hp.out hfu
     rw[Hkey.out,Hsec.out,Hep.out,Hver.out]at h
     exact h
    rw[tell1V_stop hstop]
    exact⟨rfl,⟨wvr,hd8,hmv.out⟩,λh=>by cases h⟩
   ·have hwr:=devWrite_yes (hd6.keep (Keep.refl NoB w6).drew (λ_ _ x=>x)) q T4 hq66 (by omega) hfu hwl
    have Hwr:=Lib.hid hwr
    clear hwr
    go_wp2_with fail
    refine Hwr.out.mono ?_
    rintro e w8 ⟨rfl,⟨wv8,hd8,hM8⟩,K8⟩
    have KR8:Keep (TellB D S wv X K) w w8:=KR6.drew.trans K8 (λi hi hs=> .inl (devB_old hmv.out i hi hs))
    have hx8:=hx6.keep ((Keep.refl (DevB D S wvr) w6).drew.then K8) (λe=>(Hdevr.out X e).1 rfl)
    have hm8:=hm6.keep ((Keep.refl (DevB D S wvr) w6).drew.then K8) (λe=>(Hdevr.out K e).2 rfl)
    have L8:=Hc8.out w8 _ KR8 hx8 Hsd6.out
    clear Hwr L6
    go_wp2_with fail
    refine⟨L8,?_⟩
    go_wp2_with fail
    have hstep:=tellTo_take_step hst.out Hp.out hfu
    refine⟨⟨k+1,_,wv8,by go_num,by omega,Lib.hid hstep,Lib.hid ?_,Lib.hid (moved_trans hmv.out hM8 (KR6.size)),Lib.hid ?_,Lib.hid ?_,KR8⟩,by simp[intOf];omega⟩
    ·have e:(tellStep key ver st (id,s)).dev=st.dev.put q T4:=by rw[tellStep,Hq.out,HT4.out,<-Hsd.out]
     rw[e]
     exact hd8
    ·have e:(tellStep key ver st (id,s)).sides=st.sides.set id (!sd):=by rw[tellStep,<-Hsd.out]
     rw[e]
     exact hx8
    ·have e:(tellStep key ver st (id,s)).marks=st.marks.set id m1:=by rw[tellStep,Hm1.out]
     rw[e]
     exact hm8
  ·obtain rfl:k=n:=by omega
   have j1:¬((k:Int)<(k:Int)):=by omega
   have hT:tellTo (keyV V.secret x.epoch) x.count W ⟨x.sides,ms,d⟩=(st,true):=by
    have h:=hst.out
    rw[List.take_of_length_le (by have:=Hn.out;omega),Hkey.out,Hsec.out,Hep.out,Hver.out]at h
    exact h
   have hmk16:∀m∈st.marks,m.size=16:=by
    have h:=tellTo_marks16 (key:=keyV V.secret x.epoch) (ver:=x.count) W ⟨x.sides,ms,d⟩ Hms.out
    rw[hT]at h
    exact h
   have HT:=Lib.hid hT
   have Hmk16:=Lib.hid hmk16
   have hXl:X<w.heap.size:=lt_of_heap Hx.out.1
   have hKl:K<w.heap.size:=lt_of_heap Hm.out.1
   have hdevr:∀b,DevB D S wvr b->b≠X∧b≠K:=λb hb=>by
    by_cases hlt:b<w.heap.size
    ·exact HE.out.devs b (devB_old hmv.out b hlt hb)
    ·exact⟨λe=>by omega,λe=>by omega⟩
   have Hdevr:=Lib.hid hdevr
   have hcl:=HE.out.cls KR hxr.out
   have a1:=hcl.1
   have a2:=hcl.2.1
   have HXl:=Lib.hid hXl
   have HKl:=Lib.hid hKl
   clear hT hmk16 hdevr hcl hXl hKl hlt
   by_cases hf1:st.dev.fuse=0
   ·have hsy:=devSync_no hdr.out hf1
    have Hsy:=Lib.hid hsy
    clear hsy
    go_wp2_with fail
    refine Hsy.out.mono ?_
    rintro e w2 ⟨rfl,hd2,K2⟩
    have KR2:Keep (TellB D S wv X K) w w2:=KR.trans K2 (λi hi hs=> .inl (devB_old hmv.out i hi hs))
    go_wp2_with fail
    go_ret
    refine⟨?_,KR2⟩
    rw[tell1V_a HT.out hf1]
    exact⟨rfl,⟨wvr,hd2,hmv.out⟩,λh=>by cases h⟩
   ·have hsy:=devSync_yes hdr.out hf1
    have Hsy:=Lib.hid hsy
    clear hsy
    go_wp2_with fail
    refine Hsy.out.mono ?_
    rintro e w2 ⟨rfl,hd2,K2⟩
    have KR2:Keep (TellB D S wv X K) w w2:=KR.trans K2 (λi hi hs=> .inl (devB_old hmv.out i hi hs))
    have hx2:=hxr.out.keep K2 (λe=>(Hdevr.out X e).1 rfl)
    have hm2:=hmr.out.keep K2 (λe=>(Hdevr.out K e).2 rfl)
    have hM2:Moved w wv (.slice none 0 0):= .inr (λb hb=>by cases hb)
    have hroot:=treeRoot_any (some ⟨K,0,none⟩) 32 32 st.marks w2 (HRw.out.keep KR2 HRn.out) hm2.strs (Nat.le_refl _) (by have:=hm2.2;omega)
    have hE:rootE st.marks=0:=by rw[rootE,if_pos (rightB_true.2 ⟨hm2.2,Hmk16.out⟩)]
    rw[hE]at hroot
    obtain⟨rt,hrt⟩:∃r,r=rootV st.marks:=⟨_,rfl⟩
    rw[<-hrt]at hroot
    have hroot2:Calls Tryz.prog 143 #[.slice (some ⟨K,0,none⟩) 32 32] w2 λe w'=>e= .returned (.tuple #[.string rt,.nilIface])∧Keep NoB w2 w':=hroot
    have Hroot:=Lib.hid hroot2
    have Hrt:=Lib.hid hrt
    have Hd2:=Lib.hid hd2
    have Hf1:=Lib.hid hf1
    clear hroot hroot2 hE hrt hd2 hf1 Hsy K2 hdr hst
    go_wp2_with fail
    refine Hroot.out.mono ?_
    rintro e w3 ⟨rfl,K3⟩
    have hx3:=hx2.keep K3 (λx=>x)
    have hm3:=hm2.keep K3 (λx=>x)
    have hd3:=Hd2.out.keep K3 (λ_ _ x=>x)
    have KR3:=KR2.thenN K3
    have cr:=hx3.root
    have fr:=hx3.free 34
    simp only at cr
    clear hx2 hm2 KR2 K3 Hd2 Hroot
    go_wp2_with fail
    have hx4:=hx3.setRoot rt
    have K4:Keep (OneB X) w3 (w3.setCell ⟨X,34,none⟩ (.string rt)):=(Keep.refl (OneB X) w3).set1 34 _
    have hm4:=hm3.keep K4 (λe=>HE.out.xk (Eq.symm e))
    have hd4:=hd3.keep K4 (λb hb e=>by
     rcases hb with hb|hb|hb
     ·exact(Hdevr.out b (.inl hb)).1 e
     ·exact(Hdevr.out b (.inr (.inl hb))).1 e
     ·cases hb)
    have KR4:Keep (TellB D S wv X K) w (w3.setCell ⟨X,34,none⟩ (.string rt)):=KR3.trans K4 (λi _ hs=> .inr (.inl hs))
    obtain⟨w4,hw4⟩:∃w4,w4=w3.setCell ⟨X,34,none⟩ (.string rt):=⟨_,rfl⟩
    rw[<-hw4]at hx4 hm4 hd4 KR4⊢
    clear hw4 cr fr hx3 hm3 hd3 KR3 K4
    obtain⟨x1,hx1⟩:∃y:SupV,y=⟨x.count,x.epoch,st.sides,rt⟩:=⟨_,rfl⟩
    have hx4':SupRow w4 X x1:=by rw[hx1];exact hx4
    have hx1c:x1.count=ver:=by rw[hx1];exact Hver.out.symm
    have hx1s:x1.sides.length=32:=hx4'.2
    obtain⟨cx,hcx⟩:∃c,c=(supCells x1).toArray:=⟨_,rfl⟩
    have hXr:w4.heap[X]? =some (.cells cx 127 (0,0)):=by rw[hcx];exact hx4'.1
    have hcl2:cx.size=35:=by rw[hcx,List.size_toArray,supCells_len x1 hx1s]
    have h35:(Tryz.prog.info? 127).map (·.size)=some cx.size:=by rw[hcl2];exact info_super35
    have hsv:supVal x1= .agg cx:=by rw[hcx];rfl
    have h19:∀W',Keep NoB w4 W'->TellC19 B VB X sec cx W':=λW' KW=>by
     have h2:=HE.out.cls (KR4.thenN KW) (hx4'.keep KW (λx=>x))
     exact⟨h2.1,by rw[Hsec.out];exact h2.2.2.1,KW.heap hXr (λx=>x)⟩
    have L19:=h19 w4 (Keep.refl _ _)
    obtain⟨M,hM⟩:∃M,M=txt (Cof.mark 115 [bs sec]):=⟨_,rfl⟩
    have bM:bs M=Cof.mark 115 [bs sec]:=by rw[hM,bs_txt (mark_bytes _ _)]
    obtain⟨sk,hsk⟩:∃k,k=skeyV sec:=⟨_,rfl⟩
    have hmk:=λ(W':World) (KW:Keep NoB w4 W')=>mark_any 115 (by decide) (.slice (some ⟨W'.heap.size,0,none⟩) 1 1) [sec] (W'.alloc (.cells #[.string sec] 9)) (HRw.out.keep (KR4.thenN (KW.alloc _)) HRn.out) (Strs.lit (w:=W') [sec]) (by simp only[List.map_cons,List.map_nil,markText,List.foldl_cons,List.foldl_nil,List.length_append,List.length_cons,List.length_nil,be64_len,bs_len];have:=Hs.out;rw[<-Hsec.out]at this;omega) (by simp)
    have hmke:txt (Cof.mark 115 ([sec].map bs))=M:=by rw[hM];rfl
    rw[hmke]at hmk
    have hsum:=λ(W':World) (KW:Keep NoB w4 W')=>sum_any M (by rw[hM,txt_size,mark_len];omega) W' (HRw.out.keep (KR4.thenN KW) HRn.out)
    have hsume:txt (sha (bs M))=sk:=by rw[bM,hsk];rfl
    rw[hsume]at hsum
    have hwr:=λ(W':World) (KW:Keep NoB w4 W')=>supWrite_any sk x1 hx1s W' (HRw.out.keep (KR4.thenN KW) HRn.out)
    rw[hsv]at hwr
    have Hmk:=Lib.hid hmk
    have Hsum:=Lib.hid hsum
    have Hwr:=Lib.hid hwr
    have H19:=Lib.hid h19
    have H35:=Lib.hid h35
    have Hx1:=Lib.hid hx1
    have Hsk:=Lib.hid hsk
    have Hx4:=Lib.hid hx4'
    have Hd4:=Lib.hid hd4
    have Hm4:=Lib.hid hm4
    have Hx1c:=Lib.hid hx1c
    have q1:∀y:InC (TellC19 B VB X sec cx),y.w.cell? ⟨VB,0,none⟩=some (.pointer (some ⟨B,0,none⟩)):=λy=>y.h.1
    have q2:∀y:InC (TellC19 B VB X sec cx),y.w.cell? ⟨B,2,none⟩=some (.string sec):=λy=>y.h.2.1
    clear hmk hsum hwr h19 h35 hx1 hsk hx4' hx4 hd4 hm4 hmke hsume bM hM hsv hcx hx1s hXr hx1c
    refine wp_region_mix (TellC19 B VB X sec cx) [(true,0),(true,1),(true,2),(true,3),(true,7),(false,4),(false,5),(false,6),(false,8),(true,9),(true,10),(true,11),(true,12),(false,13)] (by kernel_rfl) (by kernel_rfl) (λc a d v w h=>by cases d<;>exact h) ?_
    simp only[wpMixC,pickL,List.getElem?_toArray,List.getElem?_cons_succ,List.getElem?_cons_zero]
    iterate 4 (refine wpEarlyC_step (λK hK=> ?_);go_simp;first|(refine⟨_,λ_=>rfl,hK _ ?_⟩;clear hK K;refine wpEarlyC_nil ?_)|(refine hK _ ?_;clear hK K;refine wpEarlyC_nil ?_))
    refine wpEarlyC_load_part (by rfl) 127 (.tmp 3) rfl X 0 rfl 127 cx (0,0) cx _ (λy=>y.h.2.2) (λj v hv=>by rw[Nat.zero_add];exact hv) Tryz.underlying127 rfl H35.out ?_
    refine wpEarlyC_nil ?_
    clear q1 q2
    refine⟨L19,?_⟩
    go_wp2_with fail
    refine⟨H19.out _ ((Keep.refl NoB w4).alloc _).drew,?_⟩
    go_wp2_with fail
    refine(Hmk.out w4.drew (Keep.refl NoB w4).drew).mono ?_
    rintro e w5 ⟨rfl,K5⟩
    have K45:Keep NoB w4 w5:=((Keep.refl NoB w4).drew.alloc _).thenN K5
    go_wp2_with fail
    refine⟨H19.out _ K45,?_⟩
    go_wp2_with fail
    refine(Hsum.out _ K45).mono ?_
    rintro e w6 ⟨rfl,K6⟩
    have K46:=K45.thenN K6
    go_wp2_with fail
    refine⟨H19.out _ K46,?_⟩
    go_wp2_with fail
    refine(Hwr.out _ K46).mono ?_
    rintro e w7 ⟨rfl,K7⟩
    have K47:=K46.thenN K7
    clear K5 K45 K6 K46 K7 Hmk Hsum Hwr L19
    go_wp2_with fail
    repeat(refine wpEarlyC_step (λK hK=> ?_);go_simp;first|(refine⟨_,λ_=>rfl,hK _ ?_⟩;clear hK K;refine wpEarlyC_nil ?_)|(refine hK _ ?_;clear hK K;refine wpEarlyC_nil ?_))
    refine⟨H19.out _ K47,?_⟩
    have hx7:=Hx4.out.keep K47 (λx=>x)
    have hm7:=Hm4.out.keep K47 (λx=>x)
    have hd7:=Hd4.out.keep K47 (λ_ _ x=>x)
    have KR7:=KR4.thenN K47
    have hxe:(⟨x.count,x.epoch,st.sides,rootV st.marks⟩:SupV)=x1:=by rw[Hx1.out,Hrt.out]
    have hske:skeyV V.secret=sk:=by rw[Hsk.out,Hsec.out]
    clear K47 KR4 H19
    by_cases hmay:supMay sk x1=true
    ·have he:errVal (supE sk x1)= .nilIface:=by rw[supE,if_pos hmay];rfl
     rw[he]
     obtain⟨SW,hSW⟩:∃t,t=supW sk x1:=⟨_,rfl⟩
     have hSWs:SW.size<=256:=by rw[hSW,supW_size hx7.2 hmay];omega
     rw[<-hSW]
     have HSW:=Lib.hid hSW
     have Hmay:=Lib.hid hmay
     have Hxe:=Lib.hid hxe
     have Hske:=Lib.hid hske
     clear he hSW hmay hxe hske
     go_wp2_with fail
     obtain⟨q2,hq2⟩:∃q,q=(ver % 2).toNat:=⟨_,rfl⟩
     have hq66:q2<66:=by rw[hq2];omega
     have hrem:ver % 2=(q2:Int):=by rw[hq2];omega
     have hrem2:Int.tmod ver 2=(q2:Int):=by rw[Int.tmod_eq_emod_of_nonneg (by omega)];exact hrem
     have Hq2:=Lib.hid hq2
     clear hq2
     have h22:∀W',Keep (TellB D S wv X K) w W'->SupRow W' X x1->TellC22 B D VB X ver W':=λW' KW hx'=>by
      have h2:=HE.out.cls KW hx'
      exact⟨h2.1,h2.2.1,by rw[<-Hx1c.out];exact h2.2.2.2.2.1⟩
     have L22:=h22 w7 KR7 hx7
     have H22:=Lib.hid h22
     have p1:∀y:InC (TellC22 B D VB X ver),y.w.cell? ⟨VB,0,none⟩=some (.pointer (some ⟨B,0,none⟩)):=λy=>y.h.1
     have p2:∀y:InC (TellC22 B D VB X ver),y.w.cell? ⟨B,0,none⟩=some (.pointer (some ⟨D,0,none⟩)):=λy=>y.h.2.1
     have p3:∀y:InC (TellC22 B D VB X ver),y.w.cell? ⟨X,0,none⟩=some (.int .i64 ver):=λy=>y.h.2.2
     clear h22
     have hdn:∀b,DevB D S (.slice none 0 0) b->b≠X∧b≠K:=λb hb=>by
      rcases hb with hb|hb|hb
      ·exact Hdevr.out b (.inl hb)
      ·exact Hdevr.out b (.inr (.inl hb))
      ·cases hb
     have hdold:∀i,i<w.heap.size->DevB D S (.slice none 0 0) i->DevB D S wv i:=devB_old hM2
     have Hdn:=Lib.hid hdn
     have Hdold:=Lib.hid hdold
     clear hdn hdold
     refine wp_region_mix (TellC22 B D VB X ver) [(true,0),(true,1),(true,2),(true,3),(true,4),(true,5),(true,6),(true,7),(false,8),(false,9)] (by kernel_rfl) (by kernel_rfl) (λc a d v w h=>by cases d<;>exact h) ?_
     simp only[wpMixC,pickL,List.getElem?_toArray,List.getElem?_cons_succ,List.getElem?_cons_zero]
     repeat(refine wpEarlyC_step (λK hK=> ?_);go_simp;first|(refine⟨_,λ_=>rfl,hK _ ?_⟩;clear hK K;refine wpEarlyC_nil ?_)|(refine hK _ ?_;clear hK K;refine wpEarlyC_nil ?_))
     clear p1 p2 p3 hrem hrem2
     refine⟨L22,?_⟩
     have hxe2:supW (skeyV V.secret) ⟨x.count,x.epoch,st.sides,rootV st.marks⟩=SW:=by rw[Hxe.out,Hske.out,HSW.out]
     have hcq:(x.count % 2).toNat=q2:=by rw[Hq2.out,Hver.out]
     have Hxe2:=Lib.hid hxe2
     have Hcq:=Lib.hid hcq
     clear hxe2 hcq
     have hmay2:supMay (skeyV V.secret) ⟨x.count,x.epoch,st.sides,rootV st.marks⟩=true:=by rw[Hxe.out,Hske.out];exact Hmay.out
     have Hmay2:=Lib.hid hmay2
     clear hmay2
     by_cases hf2:st.dev.sync.fuse=0
     ·have hwr:=devWrite_no (hd7.keep (Keep.refl NoB w7).drew (λ_ _ x=>x)) q2 SW hq66 hSWs hf2
      have Hwr:=Lib.hid hwr
      have htl:=tell1V_c HT.out Hf1.out Hmay2.out hf2
      have Htl:=Lib.hid htl
      clear hwr htl hf2
      go_wp2_with fail
      refine Hwr.out.mono ?_
      rintro e w8 ⟨rfl,hd8,K8⟩
      have KR8:Keep (TellB D S wv X K) w w8:=KR7.drew.trans K8 (λi hi hs=> .inl (Hdold.out i hi hs))
      have hx8:=hx7.keep ((Keep.refl _ w7).drew.then K8) (λe=>(Hdn.out X e).1 rfl)
      go_wp2_with fail
      refine⟨H22.out w8 KR8 hx8,?_⟩
      go_wp2_with fail
      go_ret
      refine⟨?_,KR8⟩
      rw[Htl.out]
      exact⟨rfl,⟨_,hd8,hM2⟩,λh=>by cases h⟩
     ·have hwl:st.dev.sync.wait.length<1000000:=by show([]:List (Nat×ByteArray)).length<_;simp
      have hwr:=devWrite_yes (hd7.keep (Keep.refl NoB w7).drew (λ_ _ x=>x)) q2 SW hq66 hSWs hf2 hwl
      have Hwr:=Lib.hid hwr
      have Hf2:=Lib.hid hf2
      clear hwr hf2 hwl
      go_wp2_with fail
      refine Hwr.out.mono ?_
      rintro e w8 ⟨rfl,⟨wv8,hd8,hM8⟩,K8⟩
      have KR8:Keep (TellB D S wv X K) w w8:=KR7.drew.trans K8 (λi hi hs=> .inl (Hdold.out i hi hs))
      have hx8:=hx7.keep ((Keep.refl _ w7).drew.then K8) (λe=>(Hdn.out X e).1 rfl)
      have hm8:=hm7.keep ((Keep.refl _ w7).drew.then K8) (λe=>(Hdn.out K e).2 rfl)
      have hM08:=moved_trans hM2 hM8 KR7.size
      have L8:=H22.out w8 KR8 hx8
      go_wp2_with fail
      refine⟨L8,?_⟩
      have b1:=L8.1
      have b2:=L8.2.1
      by_cases hf3:(st.dev.sync.put q2 SW).fuse=0
      ·have hsy:=devSync_no hd8 hf3
       have htl:=tell1V_d HT.out Hf1.out Hmay2.out Hf2.out (by rw[Hxe2.out,Hcq.out];exact hf3)
       rw[Hxe2.out,Hcq.out]at htl
       have Hsy:=Lib.hid hsy
       have Htl:=Lib.hid htl
       clear hsy htl hf3
       go_wp2_with fail
       refine Hsy.out.mono ?_
       rintro e w9 ⟨rfl,hd9,K9⟩
       have KR9:Keep (TellB D S wv X K) w w9:=KR8.trans K9 (λi hi hs=> .inl (devB_old hM08 i hi hs))
       go_wp2_with fail
       go_ret
       refine⟨?_,KR9⟩
       rw[Htl.out]
       exact⟨rfl,⟨_,hd9,hM08⟩,λh=>by cases h⟩
      ·have hsy:=devSync_yes hd8 hf3
       have htl:=tell1V_e HT.out Hf1.out Hmay2.out Hf2.out (by rw[Hxe2.out,Hcq.out];exact hf3)
       rw[Hxe2.out,Hcq.out]at htl
       have Hsy:=Lib.hid hsy
       have Htl:=Lib.hid htl
       clear hsy htl hf3
       go_wp2_with fail
       refine Hsy.out.mono ?_
       rintro e w9 ⟨rfl,hd9,K9⟩
       have KR9:Keep (TellB D S wv X K) w w9:=KR8.trans K9 (λi hi hs=> .inl (devB_old hM08 i hi hs))
       have hd8b:∀b,DevB D S wv8 b->b≠X∧b≠K:=λb hb=>by
        by_cases hlt:b<w.heap.size
        ·exact HE.out.devs b (devB_old hM08 b hlt hb)
        ·exact⟨λe=>by have:=HXl.out;omega,λe=>by have:=HKl.out;omega⟩
       have hx9:=hx8.keep K9 (λe=>(hd8b X e).1 rfl)
       have hm9:=hm8.keep K9 (λe=>(hd8b K e).2 rfl)
       have Hx9:=Lib.hid hx9
       have Hm9:=Lib.hid hm9
       clear hx9 hm9 hd8b
       go_wp2_with fail
       go_ret
       refine⟨?_,KR9⟩
       rw[Htl.out]
       refine⟨rfl,⟨_,hd9,.inr (λb hb=>by cases hb)⟩,λ_=>⟨?_,Hm9.out⟩⟩
       rw[Hxe.out]
       exact Hx9.out
    ·have hmf:supMay sk x1=false:=by simpa using hmay
     have he:errVal (supE sk x1)= .iface 40 (.int .i64 1):=by rw[supE,if_neg hmay];rfl
     rw[he]
     have htl:=tell1V_b HT.out Hf1.out (by rw[hxe,hske];exact hmf)
     have Htl:=Lib.hid htl
     clear he hmf hmay htl hxe hske
     go_wp2_with fail
     go_ret
     refine⟨?_,KR7⟩
     rw[Htl.out]
     exact⟨rfl,⟨_,hd7,hM2⟩,λh=>by cases h⟩
end Go.Proofs.YtnmhgehpddipdaaGreatDoor
