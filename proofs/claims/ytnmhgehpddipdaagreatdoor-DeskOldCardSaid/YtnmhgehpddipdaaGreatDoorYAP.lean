import Derived.Test.YtnmhgehpddipdaaGreatDoorYAK
import Derived.Test.YtnmhgehpddipdaaGreatDoorYAL
import Derived.Test.YtnmhgehpddipdaaGreatDoorYAM
import Derived.Deep.RegionHeld3
import Derived.Laws.Rows
import Derived.Deep.MidRow
set_option linter.unusedSimpArgs false
set_option linter.unusedVariables false
namespace Go.Cof
open Go.RowKit
structure SupV where
 count:Int
 epoch:Int
 sides:List Bool
 root:ByteArray
theorem wpList_load_row_w{P:Program}{ops:Array Oper}{rest:List Oper}{o:Oper}{a:Act}{w:World}{Q:Exit->Act->World->Prop}(hw:Region.wanted o (yielded ops a.tmps)=true)(ty:TypeId)(x:Operand)(ho:o.op= .load ty x)
  (g:Nat) (hx:a.eval x= .pointer (some ⟨g,0,none⟩)) (t:TypeId) (cs:Array Value) (fr:Nat×Nat) (d:TypeDesc) (hg:w.heap[g]? =some (.cells cs t fr))
  (hu:P.underlying ty=some d) (hd:(match d with| .struct _| .array _ _=>true|_=>false)=true) (hi:(P.info? ty).map (·.size)=some cs.size)
  (h:wpList P ops Q rest (a.put o.dst (.agg cs)) w):wpList P ops Q (o::rest) a w:=by
 unfold wpList
 rw[if_pos hw]
 exact .inl (wp_load_row ty x ho g hx t cs fr d hg hu hd hi h)
def supCells(x:SupV):List Value:= [Value.int .i64 x.count,Value.int .i64 x.epoch]++x.sides.map Value.bool++ [Value.string x.root]
def supVal(x:SupV):Value:= .agg (supCells x).toArray
theorem supCells_len(x:SupV)(h:x.sides.length=32):(supCells x).length=35:=by simp[supCells,h]
def supOk(x:SupV):Bool:=decide (1<=x.count)&&decide (x.count<=1099511627776)&&decide (1<=x.epoch)&&decide (x.epoch<=1099511627776)&&decide (x.root.size=16)
end Go.Cof
namespace Go.Proofs.YtnmhgehpddipdaaGreatDoor
open Go.RowKit Go.Cof
set_option maxRecDepth 100000 in
set_option maxHeartbeats 2000000 in
theorem supRight_any(x:SupV)(hx:x.sides.length=32)(w:World):Calls Tryz.prog 220 #[supVal x] w λe w'=>e= .returned (.bool (supOk x))∧Keep NoB w w':=by
 obtain⟨cs,hcs⟩:∃cs,cs=(supCells x).toArray:=⟨_,rfl⟩
 have h0:cs[0]? =some (.int .i64 x.count):=by rw[hcs];rfl
 have h1:cs[1]? =some (.int .i64 x.epoch):=by rw[hcs];rfl
 have h34:cs[34]? =some (.string x.root):=by
  rw[hcs,List.getElem?_toArray,supCells,List.getElem?_append_right (by simp[hx])]
  simp[hx]
 have hv:supVal x= .agg cs:=by rw[hcs];rfl
 rw[hv]
 clear hv hcs
 go_enter Tryz.func220,Tryz.ntmps220
 go_wp2_with fail
 all_goals go_ret
 all_goals refine⟨congrArg (λb=>Ending.returned (.bool b)) ?_,(Keep.refl _ _).alloc _⟩
 all_goals clear h0 h1 h34 hx
 all_goals rw[Bool.eq_iff_iff]
 all_goals simp only[supOk,Bool.and_eq_true,decide_eq_true_eq,beq_iff_eq,Bool.false_eq_true,false_iff]
 all_goals omega
theorem run_index_bools{P:Program}{T E:TypeId}{len:Nat}{d:TypeDesc}(hu:P.underlying T=some (.array len E))(hE:P.underlying E=some d)(hd:d= .bool)(hs:(P.info? E).map (·.size)=some 1)
  (l:List Bool) (i:Nat) (hl:l.length=len) (hi:i<len) (w:World):(Instr.index T (.agg (l.map Value.bool).toArray) (.int .i64 i)).run P w= .ok (.bool (l.getD i false)) w:=by
 subst hd
 cases hq:P.info? E with
 | none=>simp[hq]at hs
 | some inf=>
  have h1:inf.size=1:=by simpa [hq]using hs
  have hi':i<l.length:=by omega
  have hc:((l.map Value.bool).toArray)[i]? =some (.bool (l.getD i false)):=by simp[hi']
  have hii:(i:Int)<(len:Int):=by omega
  simp[Instr.index,asIntOf,run_underlying hu,run_underlying hE,sizeOf,typeInfo,hq,h1,part,isAgg,hc,hi,List.getElem?_eq_getElem hi']
def sideT(l:List Bool):List Nat:=l.map λb=>if b then 49 else 48
def headT(x:SupV):List Nat:= [99,102]++be64 (u64n x.count)++be64 (u64n x.epoch)
def bodyT(x:SupV):List Nat:=headT x++sideT x.sides++bs x.root
def supT(key:ByteArray)(x:SupV):List Nat:=bodyT x++Cof.mark 122 [bs key,bodyT x]
def supMay(key:ByteArray)(x:SupV):Bool:=decide (key.size=32)&&supOk x
set_option maxRecDepth 100000 in
set_option maxHeartbeats 4000000 in
theorem supWrite_yes(key:ByteArray)(x:SupV)(hx:x.sides.length=32)(hk:key.size=32)(ho:supOk x=true)(w:World)(V:RoundsVar w):
  Calls Tryz.prog 161 #[.string key,supVal x] w λe w'=>e= .returned (.tuple #[.string (txt (supT key x)),.nilIface])∧Keep NoB w w':=by
 have hri:=λw=>supRight_any x hx w
 rw[ho]at hri
 obtain⟨cs,hcs⟩:∃cs,cs=(supCells x).toArray:=⟨_,rfl⟩
 have h0:cs[0]? =some (.int .i64 x.count):=by rw[hcs];rfl
 have h1:cs[1]? =some (.int .i64 x.epoch):=by rw[hcs];rfl
 have h34:cs[34]? =some (.string x.root):=by
  rw[hcs,List.getElem?_toArray,supCells,List.getElem?_append_right (by simp[hx])]
  simp[hx]
 have hsz:cs.size=35:=by rw[hcs,List.size_toArray];exact supCells_len x hx
 have hsd:∀i,i<32->cs[2+i]? =some (.bool (x.sides.getD i false)):=by
  intro i hi
  rw[hcs,List.getElem?_toArray,supCells,List.append_assoc,List.getElem?_append_right (by simp),List.getElem?_append_left (by simp[hx,hi])]
  simp[hx,hi]
 have hinf:(Tryz.prog.info? 127).map (·.size)=some cs.size:=by rw[hsz];kernel_rfl
 have hv:supVal x= .agg cs:=by rw[hcs];rfl
 rw[hv]at hri⊢
 have j0:((key.size:Nat):Int)=32:=by omega
 have Hsd:=Lib.hid hsd
 clear hsd
 have Hri:=Lib.hid hri
 clear hv hcs hri
 go_enter Tryz.func161,Tryz.ntmps161
 go_wp2_with (first|(refine wpList_load_row_w (by rfl) 127 (.tmp 3) rfl w.heap.size rfl 127 cs (0,0) _ (heap_alloc_new w _) Tryz.underlying127 rfl hinf ?_)|(go_at_call 220;refine(Hri.out _).mono ?_;rintro e w2 ⟨rfl,K2⟩))
 have hK2:Keep NoB w w2:=((Keep.refl NoB w).alloc (.cells cs 127)).thenN K2
 have hX:w2.heap[w.heap.size]? =some (.cells cs 127 (0,0)):=K2.heap (heap_alloc_new w _) (λx=>x)
 have hXl:=lt_of_heap hX
 obtain⟨X,hXe⟩:∃X,X=w.heap.size:=⟨_,rfl⟩
 rw[<-hXe]at hX hXl⊢
 obtain⟨⟨⟨⟨o1,o2⟩,o3⟩,o4⟩,o5⟩:(((1<=x.count∧x.count<=1099511627776)∧1<=x.epoch)∧x.epoch<=1099511627776)∧x.root.size=16:=by simpa [supOk]using ho
 obtain⟨nc,hnc⟩:∃n:Nat,x.count=n:=⟨x.count.toNat,by omega⟩
 obtain⟨ne,hne⟩:∃n:Nat,x.epoch=n:=⟨x.epoch.toNat,by omega⟩
 have c0:w2.cell? ⟨X,0,none⟩=some (.int .i64 nc):=by rw[cell_of_row w2 X 0 cs _ (0,0) hX,h0,hnc]
 have c1:w2.cell? ⟨X,1,none⟩=some (.int .i64 ne):=by rw[cell_of_row w2 X 1 cs _ (0,0) hX,h1,hne]
 have hnm:∀(n:Nat),n<9223372036854775808->∀Y:Ext w2,Calls Tryz.prog 112 #[.int .i64 n] (w2.ext Y) λe w'=>e= .returned (.string (txt (be64 n)))∧Keep NoB (w2.ext Y) w':=λn hn Y=>num_any n hn (w2.ext Y)
 have hn1:=hnm nc (by omega)
 have hn2:=hnm ne (by omega)
 obtain⟨A,hA⟩:∃A,A=txt (be64 nc):=⟨_,rfl⟩
 obtain⟨B,hB⟩:∃B,B=txt (be64 ne):=⟨_,rfl⟩
 have hAs:A.size=8:=by rw[hA,txt_size,be64,be64To_len]
 have hBs:B.size=8:=by rw[hB,txt_size,be64,be64To_len]
 rw[<-hA]at hn1
 rw[<-hB]at hn2
 have hc1:¬(9223372036854775807<(⟨#[99,102]⟩:ByteArray).size+A.size):=by show¬(9223372036854775807<2+A.size);omega
 have HA:=Lib.hid hA
 have HB:=Lib.hid hB
 clear hnm K2 hXe h0 h1 hA hB
 have HX:=Lib.hid hX
 have Ho:=Lib.hid (And.intro hnc (And.intro hne (And.intro o5 (And.intro (show nc<=1099511627776 by omega) (show ne<=1099511627776 by omega)))))
 clear hX o1 o2 o3 o4 ho
 refine wp_region_q_ext (by kernel_rfl) (by kernel_rfl) ?_
 quiet_step (fail)
 quiet_step (fail)
 quiet_step ((go_at_call 112;exact quiet_ext _ (hn1 _)))
 quiet_step (fail)
 obtain⟨C,hC⟩:∃C,C=(⟨#[99,102]⟩:ByteArray)++A:=⟨_,rfl⟩
 have hCs:C.size=10:=by rw[hC,ByteArray.size_append,hAs];rfl
 rw[<-hC]
 have hc2:¬(9223372036854775807<C.size+B.size):=by omega
 have HC:=Lib.hid hC
 clear hC hc1
 quiet_step (fail)
 quiet_step (fail)
 quiet_step ((go_at_call 112;exact quiet_ext _ (hn2 _)))
 quiet_step (fail)
 obtain⟨S0,hS0⟩:∃S,S=C++B:=⟨_,rfl⟩
 have hS0b:bs S0=headT x:=by
  rw[hS0,HC.out,bs_append,bs_append,HA.out,HB.out,bs_txt (be64_bytes _),bs_txt (be64_bytes _),headT,Ho.out.1,Ho.out.2.1,u64n_nat nc (by have:=Ho.out.2.2.2.1;omega),u64n_nat ne (by have:=Ho.out.2.2.2.2;omega)]
  rfl
 rw[<-hS0]
 have HS0:=Lib.hid hS0b
 clear hS0 hS0b hc2 hn1 hn2 hAs hBs hCs
 quiet_step (fail)
 refine wpQuiet_nil ?_
 intro Y
 have hW:=hK2.thenN (ext_keep w2 Y)
 have hXW:=(ext_keep w2 Y).heap HX.out (λx=>x)
 obtain⟨W3,hW3⟩:∃W,W=w2.ext Y:=⟨_,rfl⟩
 rw[<-hW3]at hW hXW⊢
 clear hW3 Y
 have hra:W3.rangeAt X 2 (x.sides.map Value.bool):=by
  intro j v hj
  have hjl:j<32:=by
   have:=(List.getElem?_eq_some_iff.1 hj).1
   rwa [List.length_map,hx]at this
  rw[cell_of_row W3 X (2+j) cs _ (0,0) hXW,Hsd.out j hjl,<-hj,List.getElem?_map,List.getD_eq_getElem?_getD,List.getElem?_eq_getElem (by omega)]
  rfl
 have hin2:(Tryz.prog.info? 125).map (·.size)=some (x.sides.map Value.bool).length:=by rw[List.length_map,hx];kernel_rfl
 have hib:(Tryz.prog.info? 4).map (·.size)=some 1:=by kernel_rfl
 have hidx:=λ(i:Nat) (hi:i<32) (w:World)=>run_index_bools (P:=Tryz.prog) Tryz.underlying125 Tryz.underlying4 rfl hib x.sides i hx hi w
 have c34:W3.cell? ⟨X,34,none⟩=some (.string x.root):=by rw[cell_of_row W3 X 34 cs _ (0,0) hXW,h34]
 have Hidx:=Lib.hid hidx
 clear hidx HX hinf hsz h34 c0 c1 hXl hib
 go_wp2_with (refine wpList_load_mid rfl 125 (.tmp 26) rfl X 2 rfl (x.sides.map Value.bool) _ hra Tryz.underlying125 rfl hin2 ?_)
 clear hra hin2
 go_loopw [6,8,28] (λsv _ iv wr=>∃(k:Nat) (Sx:ByteArray),k<=32∧iv= .int .i64 k∧sv= .string Sx∧Hid (bs Sx=headT x++sideT (x.sides.take k))∧wr=W3) (λ_ _ iv _=>32-(intOf iv).toNat)
 case atStart=>exact⟨0,S0,by omega,rfl,rfl,Lib.hid (by rw[HS0.out];simp[sideT]),rfl⟩
 case round=>
  obtain⟨k,Sx,hk1,rfl,rfl,hSx,rfl⟩:=hrel
  have hSxl:Sx.size<=100:=by
   have:=congrArg List.length hSx.out
   rw[bs_len,List.length_append,headT,sideT,List.length_map,List.length_take,List.length_append,List.length_append,be64,be64To_len,be64,be64To_len]at this
   simp at this
   omega
  by_cases hlt:k<32
  ·have j1:(k:Int)<32:=by omega
   have hix:=Hidx.out k hlt
   have hst:sideT (x.sides.take (k+1))=sideT (x.sides.take k)++ [if x.sides.getD k false then 49 else 48]:=by
    rw[List.take_succ_eq_append_getElem (by omega),sideT,List.map_append,List.getD_eq_getElem?_getD,List.getElem?_eq_getElem (by omega)]
    rfl
   have Hst:=Lib.hid hst
   clear hst
   cases hb:x.sides.getD k false with
   | true=>
    rw[hb]at hix Hst
    have hcat:¬(9223372036854775807<Sx.size+(⟨#[49]⟩:ByteArray).size):=by show¬(9223372036854775807<Sx.size+1);omega
    clear hb
    go_wp2_with fail
    exact⟨⟨k+1,_,by omega,by go_num,rfl,Lib.hid (by rw[bs_append,hSx.out,Hst.out,List.append_assoc];rfl),trivial⟩,by simp[intOf];omega⟩
   | false=>
    rw[hb]at hix Hst
    have hcat:¬(9223372036854775807<Sx.size+(⟨#[48]⟩:ByteArray).size):=by show¬(9223372036854775807<Sx.size+1);omega
    clear hb
    go_wp2_with fail
    exact⟨⟨k+1,_,by omega,by go_num,rfl,Lib.hid (by rw[bs_append,hSx.out,Hst.out,List.append_assoc];rfl),trivial⟩,by simp[intOf];omega⟩
  ·obtain rfl:k=32:=by omega
   have hcat:¬(9223372036854775807<Sx.size+x.root.size):=by have:=Ho.out.2.2.1;omega
   go_wp2_with fail
   obtain⟨Z,hZ⟩:∃Z,Z=Sx++x.root:=⟨_,rfl⟩
   have hZb:bs Z=bodyT x:=by
    rw[hZ,bs_append,hSx.out,List.take_of_length_le (by omega)]
    rfl
   have hZs:Z.size<=200:=by rw[hZ,ByteArray.size_append];have:=Ho.out.2.2.1;omega
   rw[<-hZ]
   have hml:(markText 122 ([key,Z].map bs)).length<=100000:=by
    simp[markText,be64,be64To_len,bs_len]
    omega
   clear hZ hcat
   refine(mark_any 122 (by decide) _ [key,Z] _ (V.keep (hW.alloc _) (λx=>x)) (Strs.lit (w:=wr) [key,Z]) hml (by simp)).mono ?_
   rintro e w4 ⟨rfl,K4⟩
   obtain⟨R,hR⟩:∃R,R=txt (Cof.mark 122 ([key,Z].map bs)):=⟨_,rfl⟩
   have hRs:R.size<=200:=by rw[hR,txt_size,Cof.mark,List.length_take,sha_len];omega
   have hfin:Z++R=txt (supT key x):=by
    apply bs_inj
    have hb2:Bytes (Cof.mark 122 [bs key,bodyT x]):=mark_bytes _ _
    have hb3:Bytes (bodyT x):=by rw[<-hZb];exact bs_bytes Z
    rw[bs_append,hR,List.map_cons,List.map_cons,List.map_nil,hZb,bs_txt hb2,supT,bs_txt (bytes_append hb3 hb2)]
   rw[<-hR]
   have hcat:¬(9223372036854775807<Z.size+R.size):=by omega
   have Hfin:=Lib.hid hfin
   have hKf:=(hW.alloc (.cells #[.string key,.string Z] 9)).thenN K4
   clear hR hfin hml
   go_wp2_with fail
   rw[<-Hfin.out]
   exact bodyPost_ret (v:= .tuple #[.string (Z++R),.nilIface]) (by simp[results,Tryz.results161,go_sem]) rfl ⟨rfl,hKf⟩
set_option maxRecDepth 100000 in
theorem supWrite_no(key:ByteArray)(x:SupV)(hx:x.sides.length=32)(h:supMay key x=false)(w:World):
  Calls Tryz.prog 161 #[.string key,supVal x] w λe w'=>e= .returned (.tuple #[.string ⟨#[]⟩,errVal 1])∧Keep NoB w w':=by
 have hri:=λw=>supRight_any x hx w
 obtain⟨cs,hcs⟩:∃cs,cs=(supCells x).toArray:=⟨_,rfl⟩
 have hsz:cs.size=35:=by rw[hcs,List.size_toArray];exact supCells_len x hx
 have hinf:(Tryz.prog.info? 127).map (·.size)=some cs.size:=by rw[hsz];kernel_rfl
 have hv:supVal x= .agg cs:=by rw[hcs];rfl
 rw[hv]at hri⊢
 have Hri:=Lib.hid hri
 clear hcs hri hv hsz
 by_cases hk:key.size=32
 ·have j0:((key.size:Nat):Int)=32:=by omega
  have ho:supOk x=false:=by rw[supMay,decide_eq_true hk,Bool.true_and]at h;exact h
  have Hr2:Hid (∀w,Calls Tryz.prog 220 #[.agg cs] w λe w'=>e= .returned (.bool false)∧Keep NoB w w'):=by rw[<-ho];exact Hri
  clear h ho Hri hk
  go_enter Tryz.func161,Tryz.ntmps161
  go_wp2_with (first|(refine wpList_load_row_w (by rfl) 127 (.tmp 3) rfl w.heap.size rfl 127 cs (0,0) _ (heap_alloc_new w _) Tryz.underlying127 rfl hinf ?_)|(go_at_call 220;refine(Hr2.out _).mono ?_;rintro e w2 ⟨rfl,K2⟩))
  exact bodyPost_ret (v:= .tuple #[.string ⟨#[]⟩,errVal 1]) (by simp[results,Tryz.results161,go_sem,errVal]) rfl ⟨rfl,((Keep.refl NoB w).alloc _).thenN K2⟩
 ·have j0:¬((key.size:Nat):Int)=32:=by omega
  clear h hk hinf Hri
  go_enter Tryz.func161,Tryz.ntmps161
  go_wp2_with fail
  exact bodyPost_ret (v:= .tuple #[.string ⟨#[]⟩,errVal 1]) (by simp[results,Tryz.results161,go_sem,errVal]) rfl ⟨rfl,(Keep.refl NoB w).alloc _⟩
def supW(key:ByteArray)(x:SupV):ByteArray:=if supMay key x then txt (supT key x)else⟨#[]⟩
def supE(key:ByteArray)(x:SupV):Int:=if supMay key x then 0 else 1
theorem supWrite_any(key:ByteArray)(x:SupV)(hx:x.sides.length=32)(w:World)(V:RoundsVar w):
  Calls Tryz.prog 161 #[.string key,supVal x] w λe w'=>e= .returned (.tuple #[.string (supW key x),errVal (supE key x)])∧Keep NoB w w':=by
 cases h:supMay key x with
 | false=>
  rw[supW,supE,h]
  exact supWrite_no key x hx h w
 | true=>
  rw[supW,supE,h]
  have h2:=h
  simp only[supMay,Bool.and_eq_true,decide_eq_true_eq]at h2
  exact supWrite_yes key x hx h2.1 h2.2 w V
end Go.Proofs.YtnmhgehpddipdaaGreatDoor
