import Derived.Test.YtnmhgehpddipdaaGreatDoorYAD
import Derived.Test.YtnmhgehpddipdaaGreatDoorYAF
import Derived.Test.YtnmhgehpddipdaaGreatDoorYAK
import Derived.Test.YtnmhgehpddipdaaGreatDoorYBC
import Derived.Test.YtnmhgehpddipdaaGreatDoorYBK
import Derived.Test.YtnmhgehpddipdaaGreatDoorYBL
import Derived.Test.YtnmhgehpddipdaaGreatDoorYBM
set_option linter.unusedSimpArgs false
set_option linter.unusedVariables false
namespace Go.Cof
open Go.RowKit Go.Proofs.YtnmhgehpddipdaaGreatDoor
def farE(p:Entry):Bool:=decide (p.1<0)||decide (32<=p.1)
def wideE(p:Entry):Bool:=decide (200<p.2.size)
def badE(p:Entry):Bool:=farE p||wideE p
def pagesOf(M:List Entry)(o:Entry->Bool):List (Nat×ByteArray):=(sortI ((M.filter o).map (·.1))).map λk=>(k.toNat,(getM M k).getD ⟨#[]⟩)
theorem sortI_perm{a b:List Int}(h:a.Perm b):sortI a=sortI b:=by
 have hle:∀l:List Int,(sortI l).Pairwise (λx y=>x<=y):=λl=>by
  have:=List.pairwise_mergeSort (le:=λx y:Int=>decide (x<=y)) (λa b c h1 h2=>by simp only[decide_eq_true_eq]at*;omega) (λa b=>by simp only[Bool.or_eq_true,decide_eq_true_eq];omega) l
  exact this.imp λh=>by simpa using h
 have hp:(sortI a).Perm (sortI b):=(List.mergeSort_perm a _).trans (h.trans (List.mergeSort_perm b _).symm)
 exact hp.eq_of_pairwise (λx y _ _ h1 h2=>by omega) (hle a) (hle b)
theorem pagesOf_len{M:List Entry}{o:Entry->Bool}{L:List Int}(h:L.Perm ((M.filter o).map (·.1))):(pagesOf M o).length=L.length:=by
 rw[pagesOf,List.length_map,sortI,List.length_mergeSort,<-h.length_eq]
theorem pagesOf_mem{M:List Entry}{o:Entry->Bool}(hp:M.Pairwise (λp q=>p.1≠q.1))(hg:∀p∈M,badE p=false):∀q∈pagesOf M o,((q.1:Nat):Int)∈(M.filter o).map (·.1)∧getM M (q.1:Int)=some q.2∧q.1<32∧q.2.size<=200:=by
 intro q hq
 obtain⟨k,hk,rfl⟩:=List.mem_map.1 hq
 have hk2:k∈(M.filter o).map (·.1):=(List.mergeSort_perm _ _).mem_iff.1 hk
 obtain⟨p,hpm,rfl⟩:=List.mem_map.1 hk2
 have hpM:=(List.mem_filter.1 hpm).1
 have hb:=hg p hpM
 simp only[badE,farE,wideE,Bool.or_eq_false_iff,decide_eq_false_iff_not]at hb
 have hget:=getM_mem hp (k:=p.1) (s:=p.2) hpM
 have e1:((p.1.toNat:Nat):Int)=p.1:=by omega
 simp only[e1,hget,Option.getD_some]
 exact⟨hk2,by first|rfl|trivial,by omega,by omega⟩
theorem pagesOf_ids{M:List Entry}{o:Entry->Bool}(hg:∀p∈M,badE p=false):(pagesOf M o).map (λp=>(p.1:Int))=sortI ((M.filter o).map (·.1)):=by
 rw[pagesOf,List.map_map]
 conv=>rhs;rw[<-List.map_id (sortI ((M.filter o).map (·.1)))]
 apply List.map_congr_left
 intro k hk
 have hk2:k∈(M.filter o).map (·.1):=(List.mergeSort_perm _ _).mem_iff.1 hk
 obtain⟨p,hpm,rfl⟩:=List.mem_map.1 hk2
 have hb:=hg p (List.mem_filter.1 hpm).1
 simp only[badE,farE,wideE,Bool.or_eq_false_iff,decide_eq_false_iff_not]at hb
 simp only[Function.comp,id]
 omega
end Go.Cof
namespace Go.Proofs.YtnmhgehpddipdaaGreatDoor
open Go.RowKit Go.Cof
theorem keep_grown{w w':World}(h:Keep NoB w w')(row:Option Nat):w.grownBy w' row:=⟨h.os,h.tape,h.output,h.size,λi hi _=>h.block i hi (λx=>x)⟩
theorem size_set(w:World)(b i:Nat)(v:Value):(w.setCell ⟨b,i,none⟩ v).heap.size=w.heap.size:=by
 show(w.heap.modify b _).size=_
 exact Array.size_modify ..
theorem info_i64:∃i,Tryz.prog.info? 3=some i∧i.zero=some (.int .i64 0)∧i.size=1∧i.bytes=8:=by
 have h:(Tryz.prog.info? 3).map (λi=>(i.zero,i.size,i.bytes))=some (some (.int .i64 0),1,8):=by kernel_rfl
 cases hi:Tryz.prog.info? 3 with
 | none=>rw[hi]at h;cases h
 | some i=>
  rw[hi]at h
  simp only[Option.map_some,Option.some.injEq,Prod.mk.injEq]at h
  exact⟨i,rfl,h.1,h.2.1,h.2.2⟩
theorem row_slice{w:World}{base:Nat}{e:TypeId}{size:Nat}{v:Value}{n:Nat}{xs:List Value}(h:w.ownsRow base e size v n xs):∃p c,v= .slice p n c:=by
 rcases h.2 with⟨h,hn⟩|⟨_,_,_,h,_⟩
 ·exact⟨none,0,by rw[h,hn]⟩
 ·exact⟨_,_,h⟩
theorem SupRow.setCount{w:World}{X:Nat}{x:SupV}(h:SupRow w X x)(n:Int):SupRow (w.setCell ⟨X,0,none⟩ (.int .i64 n)) X { x with count:=n } :=by
 refine⟨?_,h.2⟩
 rw[heap_setCell_row h.1]
 rfl
theorem SupRow.setEpoch{w:World}{X:Nat}{x:SupV}(h:SupRow w X x)(n:Int):SupRow (w.setCell ⟨X,1,none⟩ (.int .i64 n)) X { x with epoch:=n } :=by
 refine⟨?_,h.2⟩
 rw[heap_setCell_row h.1]
 rfl
theorem SupRow.epoch{w:World}{X:Nat}{x:SupV}(h:SupRow w X x):w.cell? ⟨X,1,none⟩=some (.int .i64 x.epoch):=by rw[cell_of_row _ _ _ _ _ (0,0) h.1];rfl
theorem zero_text(w:World):(zeroValue 9).run Tryz.prog w= .ok (.string ⟨#[]⟩) w:=by
 have h:(Tryz.prog.info? 9).map (·.zero)=some (some (.string ⟨#[]⟩)):=by kernel_rfl
 cases hi:Tryz.prog.info? 9 with
 | none=>rw[hi]at h;cases h
 | some i=>
  rw[hi]at h
  have hz:=Option.some.inj h
  simp only at hz
  simp only[zeroValue,typeInfo]
  simp[hi,hz]
theorem MapIs.look{w:World}{mb n:Nat}{M:List Entry}(h:MapIs w mb n M):∃o:Obj,w.heap[mb]? =some o∧∀w':World,w'.heap[mb]? =some o->∀(k:Int) (s:ByteArray),(Lit.int .i64 k).wf=true->getM M k=some s->(Instr.lookup 96 (.map (some mb)) (.int .i64 k) false).run Tryz.prog w'= .ok (.string s) w':=by
 obtain⟨es,clock,hb,F,hs,hD⟩:=h
 refine⟨_,hb,λw' hb' k s hk hg=> ?_⟩
 have h':MapIs w' mb n M:=⟨es,clock,hb',F,hs,hD⟩
 have hz:(zeroValue 9).run Tryz.prog w'= .ok (.string ⟨#[]⟩) w':=zero_text w'
 have hu:=Tryz.underlying9
 obtain⟨v,ps,hrun,hv⟩:=World.ownsMap.lookup h' lawI Tryz.underlying96 hz (zd:= .lit (.string [])) (zp:= []) (by simp[plainElem,hu,show(ByteArray.mk #[]).size<=maxLen from by decide]) (key:= .int .i64 k) (kl:= .int .i64 k) (Maps.keyOf_int_mk Tryz.underlying3 hk)
 obtain⟨c,rfl,hc⟩:=elem_string hv
 rw[atKey_enc,hg]at hc
 have:s=c:=by
  have h3:s.data.toList=c.data.toList:=by simpa using hc
  exact ByteArray.ext (Array.toList_inj.1 h3)
 rw[hrun,this]
theorem MapO.look{w:World}{mo:Option Nat}{n:Nat}{M:List Entry}(h:MapO w mo n M):∃o:Obj,HasMap mo o w∧∀w':World,HasMap mo o w'->∀(k:Int) (s:ByteArray),(Lit.int .i64 k).wf=true->getM M k=some s->(Instr.lookup 96 (.map mo) (.int .i64 k) false).run Tryz.prog w'= .ok (.string s) w':=by
 cases mo with
 | none=>
  have h:M= []:=h
  exact⟨.map #[] 0,(λb hb=>(by cases hb)),(λw' _ k s _ hg=>(by rw[h]at hg;cases hg))⟩
 | some mb=>
  obtain⟨o,h1,h2⟩:=MapIs.look h
  exact⟨o,(λb hb=>(by cases hb;exact h1)),(λw' hw' k s hk hg=>h2 w' (hw' mb rfl) k s hk hg)⟩
theorem nums_row{w:World}{b:Nat}{v:Value}{n:Nat}{l:List Int}(h:w.ownsRow b 3 1 v n (l.map (Value.int .i64)))(hn:n=l.length):Nums w v l:=by
 obtain⟨hl,h⟩:=h
 rcases h with⟨hv,h0⟩|⟨g,cap,cur,hv,_,hg,hc,_,hs,ht⟩
 ·refine .inl ⟨List.length_eq_zero_iff.1 (by omega),none,0,by rw[hv]⟩
 ·refine .inr ⟨g,0,cap,by rw[hv,hn],lt_of_heap hg,λi hi=> ?_⟩
  rw[Nat.zero_add,cell_of_row _ _ i _ _ (0,0) hg,<-Array.getElem?_toList]
  have h1:=congrArg (λx=>x[i]?) ht
  simp only[Nat.mul_one]at h1
  rw[List.getElem?_take_of_lt (by omega),List.getElem?_map]at h1
  rw[h1]
  simp[List.getD_eq_getElem?_getD,hi]
theorem devB_row{w:World}{D S:Nat}{wv:Value}{d:DevV}(hd:DevIs w D S wv d):∀b,DevB D S wv b->∃c t f,w.heap[b]? =some (.cells c t f)∧(t=77∨t=9∨t=256):=by
 rintro b (rfl|rfl|hb)
 ·obtain⟨c,h2,_⟩:=hd.head;exact⟨_,_,_,h2,.inl rfl⟩
 ·obtain⟨c,h2,_⟩:=hd.row;exact⟨_,_,_,h2,.inr (.inl rfl)⟩
 ·rcases hd.waits.2 with⟨hv,_⟩|⟨g,cap,cur,fz,hv,_,hg,_⟩
  ·rw[hv]at hb;cases hb
  ·rw[hv]at hb
   obtain rfl:g=b:=Option.some.inj hb
   exact⟨_,_,_,hg,.inr (.inr rfl)⟩
theorem devB_lt{w:World}{D S:Nat}{wv:Value}{d:DevV}(hd:DevIs w D S wv d):∀b,DevB D S wv b->b<w.heap.size:=λb hb=>by
 obtain⟨c,t,f,h,_⟩:=devB_row hd b hb
 exact lt_of_heap h
theorem devB_count{w:World}{D S C:Nat}{wv:Value}{d:DevV}{n:Int}(hd:DevIs w D S wv d)(hc:CountAt w C n):¬DevB D S wv C:=λhb=>by
 obtain⟨c,t,f,h,ht⟩:=devB_row hd C hb
 rw[hc]at h
 have:=Option.some.inj h
 simp only[Obj.cells.injEq]at this
 rw[<-this.2.1]at ht
 exact absurd ht (by decide)
theorem count_ne{w:World}{B D C:Nat}{V:VaultV}{n:Int}(h:VaultAt w B D C V)(hc:CountAt w C n):C≠B:=λe=>by
 have h1:=h.row
 rw[<-e,hc]at h1
 have:=Option.some.inj h1
 simp only[Obj.cells.injEq]at this
 exact absurd this.2.1 (by decide)
theorem tell1V_count{secret:ByteArray}{x0:SupV}{marks:List ByteArray}{d:DevV}{W:List (Nat×ByteArray)} :(tell1V secret x0 marks d W).x.count=x0.count:=by
 unfold tell1V
 simp only[]
 repeat' split
 all_goals rfl
def TellR(VB B C XB:Nat)(ver:Int)(w:World):Prop:=w.cell? ⟨VB,0,none⟩=some (.pointer (some ⟨B,0,none⟩))∧w.cell? ⟨B,1,none⟩=some (.pointer (some ⟨C,0,none⟩))∧w.cell? ⟨XB,0,none⟩=some (.int .i64 ver)
def TellM(VB B XB KB:Nat)(cx ck:Array Value)(w:World):Prop:=w.cell? ⟨VB,0,none⟩=some (.pointer (some ⟨B,0,none⟩))∧w.heap[XB]? =some (.cells cx 127 (0,0))∧w.heap[KB]? =some (.cells ck 128 (0,0))
def TellP(VB MB B:Nat)(mo:Option Nat)(ob:Obj)(w:World):Prop:=w.cell? ⟨VB,0,none⟩=some (.pointer (some ⟨B,0,none⟩))∧w.cell? ⟨MB,0,none⟩=some (.map mo)∧HasMap mo ob w
theorem putTexts_step(T:List ByteArray)(W:List (Nat×ByteArray))(k:Nat)(p:Nat×ByteArray)(h:W[k]? =some p):putTexts T (W.take (k+1))=(putTexts T (W.take k)).set p.1 p.2:=by
 have hk:=List.getElem?_eq_some_iff.1 h
 rw[List.take_succ_eq_append_getElem hk.1,hk.2]
 unfold putTexts
 rw[List.foldl_append]
 rfl
theorem tellV_err{V:VaultV}{d:DevV}{n epoch:Int}{W:List (Nat×ByteArray)}{t:Told1}(ht:t=tell1V V.secret ⟨V.now.count+1,epoch,V.now.sides,V.now.root⟩ V.marks d W)(h:t.err≠0):tellV V d n epoch W=⟨t.err,dieV V,t.dev,n⟩:=by
 unfold tellV
 simp only[<-ht]
 rw[if_pos h]
theorem tellV_late{V:VaultV}{d:DevV}{n epoch:Int}{W:List (Nat×ByteArray)}{t:Told1}(ht:t=tell1V V.secret ⟨V.now.count+1,epoch,V.now.sides,V.now.root⟩ V.marks d W)(h:t.err=0)(hn:V.now.count+1<=n):tellV V d n epoch W=⟨10,dieV V,t.dev,n⟩:=by
 unfold tellV
 simp only[<-ht]
 rw[if_neg (λx=>x h),if_pos hn]
theorem tellV_ok{V:VaultV}{d:DevV}{n epoch:Int}{W:List (Nat×ByteArray)}{t:Told1}(ht:t=tell1V V.secret ⟨V.now.count+1,epoch,V.now.sides,V.now.root⟩ V.marks d W)(h:t.err=0)(hn:¬V.now.count+1<=n):tellV V d n epoch W=⟨0,⟨V.secret,t.x,putTexts V.texts W,t.marks,V.dead⟩,t.dev,V.now.count+1⟩:=by
 unfold tellV
 simp only[<-ht]
 rw[if_neg (λx=>x h),if_neg hn]
theorem info_arr:(Tryz.prog.info? 128).map (λi=>(i.zero,i.size))=some (some (.agg ((List.replicate 32 (⟨#[]⟩:ByteArray)).map Value.string).toArray),32):=by kernel_rfl
theorem info_arr32:(Tryz.prog.info? 128).map (·.size)=some 32:=by kernel_rfl
def TellL(VB MB EB IB B:Nat)(mo:Option Nat)(ep:Int)(lv:Value)(w:World):Prop:=
 w.heap[VB]? =some (.cells #[.pointer (some ⟨B,0,none⟩)] 78 (0,0))∧w.heap[MB]? =some (.cells #[.map mo] 96 (0,0))∧w.heap[EB]? =some (.cells #[.int .i64 ep] 3 (0,0))∧w.heap[IB]? =some (.cells #[lv] 45 (0,0))
def TellSaid(w w':World)(B D C S:Nat)(V:VaultV)(wv:Value)(d:DevV)(n:Int)(epoch:Int)(M:List Entry)(o:Entry->Bool)(e:Ending):Prop:=
 (V.dead=true∧e= .returned (errVal 6)∧VaultAt w' B D C V∧DevIs w' D S wv d∧CountAt w' C n)∨
 (V.dead=false∧(∃p∈M,badE p=true)∧((e= .returned (errVal 2)∧∃p∈M,farE p=true)∨(e= .returned (errVal 4)∧∃p∈M,wideE p=true))∧VaultAt w' B D C V∧DevIs w' D S wv d∧CountAt w' C n)∨
 (V.dead=false∧(∀p∈M,badE p=false)∧e= .returned (errVal (tellV V d n epoch (pagesOf M o)).err)∧VaultAt w' B D C (tellV V d n epoch (pagesOf M o)).v∧(∃wv',DevIs w' D S wv' (tellV V d n epoch (pagesOf M o)).dev∧Moved w wv wv')∧CountAt w' C (tellV V d n epoch (pagesOf M o)).n)
set_option maxRecDepth 100000
set_option maxHeartbeats 8000000 in
theorem vaultTell_any{w:World}{B D C S:Nat}{V:VaultV}{wv:Value}{d:DevV}{n:Int}{mo:Option Nat}{nm:Nat}{M:List Entry}(epoch:Int)(g:FuncId)(cb:Array Value)(o:Entry->Bool)
  (h:VaultAt w B D C V) (hd:DevIs w D S wv d) (hc:CountAt w C n) (hm:MapO w mo nm M) (hnm:nm<=1000) (hcnt0:0<=V.now.count) (hcnt1:V.now.count<1099511627776) (hdw:d.wait.length<=800000) (hsec:V.secret.size<=1000) (hm16:∀m∈V.marks,m.size=16)
  (eg:∀args w,(callFunc g args).run Tryz.prog w= .ok (.enter g args) w)
  (ho:∀(p:Entry),p∈M->badE p=false->∀W,Keep NoB w W->Calls Tryz.prog g (#[.int .i64 p.1,.string p.2]++cb) W λe w'=>e= .returned (.bool (o p))∧Keep NoB W w') (R:RoundsVar w) (hR:∀b,DevB D S wv b->b≠5):
  Calls Tryz.prog 87 #[.pointer (some ⟨B,0,none⟩),.map mo,.int .i64 epoch,.func (.func g) #[] cb] w λe w'=>TellSaid w w' B D C S V wv d n epoch M o e∧Keep (λb=>DevB D S wv b∨b=B∨b=C) w w':=by
 have cd:=h.dead
 have hlt:=h.lt
 obtain⟨dd,hdd⟩:∃b,b=V.dead:=⟨_,rfl⟩
 rw[<-hdd]at cd
 have hmlt:=MapO.lt hm
 have hMl:M.length<=1000:=Nat.le_trans (MapO.len hm) hnm
 have hpw:=MapO.pairs hm
 have HV:=Lib.hid h
 have Hd:=Lib.hid hd
 have Hc:=Lib.hid hc
 have Hm:=Lib.hid hm
 have Ho:=Lib.hid ho
 have HR:=Lib.hid R
 have HR2:=Lib.hid hR
 have Hdd:=Lib.hid hdd
 have Hpw:=Lib.hid hpw
 have Hcnt0:=Lib.hid hcnt0
 have Hcnt1:=Lib.hid hcnt1
 have Hdw:=Lib.hid hdw
 have Hsec:=Lib.hid hsec
 have Hm16:=Lib.hid hm16
 have HMl:=Lib.hid hMl
 clear h hd hc hm ho R hR hdd hpw hMl hcnt0 hcnt1 hdw hsec hm16
 go_enter Tryz.func87,Tryz.ntmps87
 go_upto_region 1 with(fail)
 obtain⟨w1,hw1⟩:∃w1,w1=((w.alloc (.cells #[.pointer (some ⟨B,0,none⟩)] 78)).alloc (.cells #[.map mo] 96)).alloc (.cells #[.int .i64 epoch] 3):=⟨_,rfl⟩
 have K1:Keep NoB w w1:=by rw[hw1];exact(((Keep.refl _ _).alloc _).alloc _).alloc _
 obtain⟨VB,hVB⟩:∃b,b=w.heap.size:=⟨_,rfl⟩
 have sz1:(w.alloc (.cells #[.pointer (some ⟨B,0,none⟩)] 78)).heap.size=VB+1:=by rw[hVB];exact Array.size_push _
 have sz2:((w.alloc (.cells #[.pointer (some ⟨B,0,none⟩)] 78)).alloc (.cells #[.map mo] 96)).heap.size=VB+2:=by rw[show VB+2=VB+1+1 from rfl,<-sz1];exact Array.size_push _
 have sz3:w1.heap.size=VB+3:=by rw[hw1,show VB+3=VB+2+1 from rfl,<-sz2];exact Array.size_push _
 have r1:w1.heap[VB]? =some (.cells #[.pointer (some ⟨B,0,none⟩)] 78 (0,0)):=by
  rw[hw1,hVB]
  exact(((Keep.refl NoB _).alloc _).alloc _).heap (heap_alloc_new w _) (λx=>x)
 have r2:w1.heap[VB+1]? =some (.cells #[.map mo] 96 (0,0)):=by
  rw[hw1,<-sz1]
  exact((Keep.refl NoB _).alloc _).heap (heap_alloc_new _ _) (λx=>x)
 have r3:w1.heap[VB+2]? =some (.cells #[.int .i64 epoch] 3 (0,0)):=by
  rw[hw1,<-sz2]
  exact heap_alloc_new _ _
 rw[<-hw1,<-hVB]
 have HVB:=Lib.hid hVB
 have Hsz3:=Lib.hid sz3
 have c1:w1.cell? ⟨VB,0,none⟩=some (.pointer (some ⟨B,0,none⟩)):=by rw[cell_of_row _ _ _ _ _ (0,0) r1];rfl
 have cd1:=(K1.cell (p:=⟨B,102,none⟩) hlt (λx=>x)).trans cd
 clear hw1 sz1 sz2 hVB cd
 obtain⟨MB,hMB⟩:∃b,b=VB+1:=⟨_,rfl⟩
 obtain⟨EB,hEB⟩:∃b,b=VB+2:=⟨_,rfl⟩
 rw[<-hMB]at r2
 rw[<-hEB]at r3
 rw[show VB+1+1=EB from hEB.symm,<-hMB]
 have HMB:=Lib.hid hMB
 have HEB:=Lib.hid hEB
 clear hMB hEB sz3
 cases dd with
 | true=>
  go_wp2_with fail
  go_ret
  exact⟨.inl ⟨Hdd.out.symm,rfl,HV.out.keep K1 (λx=>x),Hd.out.keep K1 (λ_ _ x=>x),Hc.out.keep K1 (λx=>x)⟩,K1.ofN⟩
 | false=>
  have hm1:=Hm.out.keep K1
  have c2:w1.cell? ⟨MB,0,none⟩=some (.map mo):=by rw[cell_of_row _ _ _ _ _ (0,0) r2];rfl
  go_upto_region 4 with(fail)
  have K2:Keep NoB w1 (w1.alloc (.cells #[.slice none 0 0] 45)):=(Keep.refl _ _).alloc _
  have r4:(w1.alloc (.cells #[.slice none 0 0] 45)).heap[w1.heap.size]? =some (.cells #[.slice none 0 0] 45 (0,0)):=heap_alloc_new w1 _
  have sz4:(w1.alloc (.cells #[.slice none 0 0] 45)).heap.size=VB+4:=by rw[show VB+4=VB+3+1 from rfl,<-Hsz3.out];exact Array.size_push _
  obtain⟨w2,hw2⟩:∃w2,w2=w1.alloc (.cells #[.slice none 0 0] 45):=⟨_,rfl⟩
  obtain⟨IB,hIB⟩:∃b,b=w1.heap.size:=⟨_,rfl⟩
  rw[<-hw2,<-hIB]at r4
  rw[<-hw2]at K2 sz4⊢
  rw[<-hIB]
  have L2:TellL VB MB EB IB B mo epoch (.slice none 0 0) w2:=⟨K2.heap r1 (λx=>x),K2.heap r2 (λx=>x),K2.heap r3 (λx=>x),r4⟩
  have c5:w2.cell? ⟨MB,0,none⟩=some (.map mo):=by rw[cell_of_row _ _ _ _ _ (0,0) L2.2.1];rfl
  have hm2:=hm1.keep K2
  have hIB3:IB=VB+3:=by rw[hIB];exact Hsz3.out
  have HIB:=Lib.hid hIB3
  have K02:=K1.thenN K2
  clear hw2 hIB hIB3 r1 r2 r3 r4 c1 cd1 hm1 c2 K1 K2
  go_wp2_with (first|(at_range;refine wpList_range_mapO rfl _ rfl rfl hm2 ?_;intro w3 hrg3' hg3 hs3))
  go_frame
  obtain⟨cnt3,hrg3⟩:=hrg3'
  rw[sz4]at hrg3 hs3⊢
  have L3:TellL VB MB EB IB B mo epoch (.slice none 0 0) w3:=⟨hg3.heap L2.1 (λx=>x),hg3.heap L2.2.1 (λx=>x),hg3.heap L2.2.2.1 (λx=>x),hg3.heap L2.2.2.2 (λx=>x)⟩
  have K03:Keep NoB w w3:=K02.thenN hg3
  clear L2 c5 hm2 hg3 sz4 K02
  go_loopw [10] (λ_ wr=>∃(left:Lit->Bool) (cnt:Nat) (L:List Int) (lv:Value),Hid (RangingO wr mo (VB+4) nm M left cnt)∧Hid (Seen M o badE left L)∧Hid (TellL VB MB EB IB B mo epoch lv wr)∧Hid (wr.ownsRow (VB+5) 3 1 lv L.length (L.map (Value.int .i64)))∧Hid (L= []->lv= .slice none 0 0)∧Hid (VB+5<=wr.heap.size)∧Keep NoB w wr) (λ_ wr=>rangeLeftO wr mo (VB+4))
  case atStart=>exact⟨_,_,[],_,Lib.hid hrg3,Lib.hid (Seen.start M o badE),Lib.hid L3,Lib.hid ⟨rfl,.inl ⟨rfl,rfl⟩⟩,Lib.hid (λ_=>rfl),Lib.hid (by omega),K03⟩
  case round=>
   clear hrg3 hs3 L3 K03
   obtain⟨left,cnt,L,lv,hrg,hseen,hL,hown,hnil,hsz,K⟩:=hrel
   obtain⟨wo,rfl⟩:∃wo,wo=wr:=⟨_,rfl⟩
   have hrgo:=hrg.out
   go_wp2_with (first|(at_next;refine wpList_next_mapO rfl _ rfl rfl hrgo ?_ ?_))
   ·intro hl0
    obtain⟨hperm,hgood⟩:=hseen.out.finish hl0
    have hLl:L.length<=1000:=by
     have h1:=hperm.length_eq
     rw[List.length_map]at h1
     have h2:=List.length_filter_le o M
     have:=HMl.out
     omega
    have hsort:=sort_ids wo (VB+5) lv L hown.out (by omega) hnil.out
    have hI:sortI L=(pagesOf M o).map (λp=>(p.1:Int)):=by rw[pagesOf_ids hgood,sortI_perm hperm]
    have hWl:(pagesOf M o).length=L.length:=pagesOf_len hperm
    have hWm:=pagesOf_mem (o:=o) Hpw.out hgood
    obtain⟨W,hW⟩:∃W,W=pagesOf M o:=⟨_,rfl⟩
    rw[<-hW]at hI hWl hWm
    rw[hI]at hsort
    have HLl:=Lib.hid hLl
    have Hsort:=Lib.hid hsort
    have HW:=Lib.hid hW
    have HWl:=Lib.hid hWl
    have HWm:=Lib.hid hWm
    have Hgood:=Lib.hid hgood
    have ci:wo.cell? ⟨IB,0,none⟩=some lv:=by rw[cell_of_row _ _ _ _ _ (0,0) hL.out.2.2.2];rfl
    have Hrgo:=Lib.hid hrgo
    clear hperm hgood hLl hsort hI hW hWl hWm hseen hnil hl0 hrg hrgo
    go_wp2_with fail
    refine Hsort.out.mono ?_
    rintro e w5 ⟨rfl,own5,K5⟩
    have nq:∀b,b<VB+5->¬(lv.ownBlock=some b):=λb hb e=>by have h1:=(World.ownsRow.lt hown.out b e).1;omega
    have L5:TellL VB MB EB IB B mo epoch lv w5:=⟨K5.heap hL.out.1 (nq VB (by omega)),K5.heap hL.out.2.1 (nq MB (by have:=HMB.out;omega)),K5.heap hL.out.2.2.1 (nq EB (by have:=HEB.out;omega)),K5.heap hL.out.2.2.2 (nq IB (by have:=HIB.out;omega))⟩
    have K05:Keep NoB w w5:=K.trans K5 (λi hi hs=>nq i (by have:=HVB.out;omega) hs)
    have hV5:=HV.out.keep K05 (λx=>x)
    have c1:w5.cell? ⟨VB,0,none⟩=some (.pointer (some ⟨B,0,none⟩)):=by rw[cell_of_row _ _ _ _ _ (0,0) L5.1];rfl
    have hsz5:VB+5<=w5.heap.size:=Nat.le_trans hsz.out K5.size
    clear ci K hL hown K5 hsz Hsort
    obtain⟨cx0,hcx0⟩:∃c,c=(supCells V.now).toArray:=⟨_,rfl⟩
    have hcl0:cx0.size=35:=by rw[hcx0,List.size_toArray,supCells_len V.now HV.out.lens.sides]
    have hone0:cx0.all (·.oneCell')=true:=by rw[hcx0];exact supCells_one _
    have h350:(Tryz.prog.info? 127).map (·.size)=some cx0.size:=by rw[hcl0];exact info_super35
    have hpart0:∀(j:Nat) (v:Value),cx0[j]? =some v->(vaultCells D C V).toArray[3+j]? =some v:=λj v hv=>by
     have hj:j<35:=by have:=(Array.getElem?_eq_some_iff.1 hv).1;omega
     rw[List.getElem?_toArray,vault_now HV.out.lens j hj]
     rw[hcx0,List.getElem?_toArray]at hv
     exact hv
    have hin:=info_super
    have hzl:=zero_len
    obtain⟨cz,hcz⟩:∃cz,cz=(supCells zeroSup).toArray:=⟨_,rfl⟩
    have hsz:supVal zeroSup= .agg cz:=by rw[hcz];rfl
    rw[hsz]at hin
    rw[<-hcz]at hzl
    have Hin:=Lib.hid hin
    have H350:=Lib.hid h350
    have Hone0:=Lib.hid hone0
    have Hpart0:=Lib.hid hpart0
    have Hcx0:=Lib.hid hcx0
    have HL5:=Lib.hid L5
    have Hown5:=Lib.hid own5
    have Hnq:=Lib.hid nq
    clear hin h350 hone0 hpart0 hcx0 hsz hcz L5 own5 nq
    obtain⟨XB,hXB⟩:∃b,b=w5.heap.size:=⟨_,rfl⟩
    have HXB:=Lib.hid hXB
    go_upto_region 15 with(first|(refine wpList_load_part rfl 127 (.tmp 55) rfl B 3 rfl 130 (vaultCells D C V).toArray (0,0) cx0 _ hV5.row Hpart0.out Tryz.underlying127 rfl H350.out ?_)|(refine wpList_alloc_row rfl 127 rfl Hin.out ?_;refine wl_world (λw6=>w6.heap[w5.heap.size]? =some (.cells cz 127 (0,0))∧Keep NoB w5 w6∧w6.heap.size=w5.heap.size+1) ⟨heap_alloc_new w5 _,(Keep.refl NoB w5).alloc _,Array.size_push _⟩ ?_;rintro w6 ⟨hY6,K6,z6⟩)|(refine wpList_store_whole rfl 127 (.tmp 12) (.tmp 56) rfl w5.heap.size 127 cz cx0 rfl rfl hY6 H350.out 35 hzl hcl0 Hone0.out ?_;refine wl_world (λw7=>w7.heap[w5.heap.size]? =some (.cells cx0 127 (0,0))∧Keep NoB w5 w7∧w7.heap.size=w5.heap.size+1) ⟨heap_setRow (c':=cx0) hY6,K6.setRow (g:=w5.heap.size) (.inr (Nat.le_refl _)) cx0,by rw[<-z6];simp[World.setRow]⟩ ?_;clear hY6 K6 z6;rintro w7 ⟨hY7,K7,z7⟩))
    rw[<-hXB]at hY7 z7⊢
    clear hXB
    go_frame
    have hx7:SupRow w7 XB V.now:=⟨by rw[hY7,Hcx0.out],HV.out.lens.sides⟩
    obtain⟨ct,hct⟩:∃c,c=V.now.count:=⟨_,rfl⟩
    have hctw:IntKind.i64.wrap (ct+1)=ct+1:=IntWalk.i64_in _ (by have:=Hcnt0.out;have:=Hcnt1.out;omega)
    have hctw2:wrap64 (ct+1)=ct+1:=by have:=Hcnt0.out;have:=Hcnt1.out;unfold wrap64;omega
    have d7:w7.cell? ⟨EB,0,none⟩=some (.int .i64 epoch):=by rw[cell_of_row _ _ _ _ _ (0,0) (K7.heap HL5.out.2.2.1 (λx=>x))];rfl
    have x7:w7.cell? ⟨XB,0,none⟩=some (.int .i64 ct):=by rw[hct];exact hx7.count
    have fx:=hx7.free 0
    have p1:∀y:InC (λW':World=>W'.cell? ⟨XB,0,none⟩=some (.int .i64 ct)),y.w.cell? ⟨XB,0,none⟩=some (.int .i64 ct):=λy=>y.h
    have p2:∀y:InC (λW':World=>W'.cell? ⟨EB,0,none⟩=some (.int .i64 epoch)),y.w.cell? ⟨EB,0,none⟩=some (.int .i64 epoch):=λy=>y.h
    have Hct:=Lib.hid hct
    clear hct
    refine wp_region_mixb 5 (λW':World=>W'.cell? ⟨EB,0,none⟩=some (.int .i64 epoch)) (λW':World=>W'.cell? ⟨XB,0,none⟩=some (.int .i64 ct)) [(2,0),(1,1),(2,2),(2,3),(2,4),(0,5),(2,6),(0,7)] (by kernel_rfl) (by kernel_rfl) (λc a d v w h=>by cases d<;>exact h) ?_
    simp only[wpMixB,pickL,List.getElem?_toArray,List.getElem?_cons_succ,List.getElem?_cons_zero]
    repeat(refine wpEarlyC_step (λK hK=> ?_);go_simp;first|(refine⟨_,λ_=>rfl,hK _ ?_⟩;clear hK K;refine wpEarlyC_nil ?_)|(refine hK _ ?_;clear hK K;refine wpEarlyC_nil ?_))
    clear p1 p2
    refine⟨d7,λ_=>x7,?_⟩
    go_wp2_with fail
    have hne:EB≠XB:=by have:=HEB.out;have:=HXB.out;omega
    have hx8:SupRow (w7.setCell ⟨XB,0,none⟩ (.int .i64 (ct+1))).drew XB { V.now with count:=ct+1 } :=hx7.setCount (ct+1)
    have K8:Keep (OneB XB) w7 (w7.setCell ⟨XB,0,none⟩ (.int .i64 (ct+1))).drew:=((Keep.refl (OneB XB) w7).set1 0 _).drew
    obtain⟨w8,hw8⟩:∃w8,w8=(w7.setCell ⟨XB,0,none⟩ (.int .i64 (ct+1))).drew:=⟨_,rfl⟩
    have z8:w8.heap.size=w7.heap.size:=by rw[hw8];exact size_set w7 XB 0 _
    rw[<-hw8]at hx8 K8⊢
    have d8:w8.cell? ⟨EB,0,none⟩=some (.int .i64 epoch):=(K8.cell (p:=⟨EB,0,none⟩) (block_lt_of_cell d7) hne).trans d7
    have e8:=hx8.epoch
    simp only at e8
    have fx8:=hx8.free 1
    clear hw8 d7 x7 fx hctw hctw2 hx7
    simp only[wpMixB,pickL,List.getElem?_toArray,List.getElem?_cons_succ,List.getElem?_cons_zero]
    repeat(refine wpEarlyC_step (λK hK=> ?_);go_simp;first|(refine⟨_,λ_=>rfl,hK _ ?_⟩;clear hK K;refine wpEarlyC_nil ?_)|(refine hK _ ?_;clear hK K;refine wpEarlyC_nil ?_))
    refine⟨d8,λh=>(by cases h),?_⟩
    go_upto_region 16 with(fail)
    have hx9:=hx8.setEpoch epoch
    have K9:Keep (OneB XB) w7 (w8.setCell ⟨XB,1,none⟩ (.int .i64 epoch)):=K8.then ((Keep.refl (OneB XB) w8).set1 1 _)
    obtain⟨w9,hw9⟩:∃w9,w9=w8.setCell ⟨XB,1,none⟩ (.int .i64 epoch):=⟨_,rfl⟩
    rw[<-hw9]at hx9 K9⊢
    have K59:Keep NoB w5 w9:=K7.trans K9 (λi hi hs=>by have h1:i=XB:=hs;have:=HXB.out;omega)
    have hsz9:w9.heap.size=XB+1:=by rw[hw9,size_set,z8,z7,HXB.out]
    have hV9:=hV5.keep K59 (λx=>x)
    have c9:w9.cell? ⟨VB,0,none⟩=some (.pointer (some ⟨B,0,none⟩)):=by rw[cell_of_row _ _ _ _ _ (0,0) (K59.heap HL5.out.1 (λx=>x))];rfl
    clear hw9 d8 e8 fx8 hx8 K8 K9 K7 hY7 z7 c1 hV5
    obtain⟨cm,hcm⟩:∃c,c=(V.marks.map Value.string).toArray:=⟨_,rfl⟩
    have hcml:cm.size=32:=by rw[hcm,List.size_toArray,List.length_map,HV.out.lens.marks]
    have honem:cm.all (·.oneCell')=true:=by rw[hcm];exact str_one _
    have h32:(Tryz.prog.info? 128).map (·.size)=some cm.size:=by rw[hcml];exact info_arr32
    have hpartm:∀(j:Nat) (v:Value),cm[j]? =some v->(vaultCells D C V).toArray[70+j]? =some v:=λj v hv=>by
     have hj:j<32:=by have:=(Array.getElem?_eq_some_iff.1 hv).1;omega
     rw[List.getElem?_toArray,vault_mark HV.out.lens j hj]
     rw[hcm,List.getElem?_toArray,List.getElem?_map,List.getElem?_eq_getElem (by rw[HV.out.lens.marks];exact hj)]at hv
     rw[<-hv]
     simp[List.getD_eq_getElem?_getD,HV.out.lens.marks,hj]
    have hinm:=info_arr
    obtain⟨cq,hcq⟩:∃c,c=((List.replicate 32 (⟨#[]⟩:ByteArray)).map Value.string).toArray:=⟨_,rfl⟩
    have hcql:cq.size=32:=by rw[hcq];simp
    rw[<-hcq]at hinm
    have Hinm:=Lib.hid hinm
    have H32:=Lib.hid h32
    have Honem:=Lib.hid honem
    have Hpartm:=Lib.hid hpartm
    have Hcm:=Lib.hid hcm
    clear hinm h32 honem hpartm hcm hcq
    obtain⟨KB,hKB⟩:∃b,b=w9.heap.size:=⟨_,rfl⟩
    have HKB:=Lib.hid hKB
    go_upto_region 17 with(first|(refine wpList_load_part rfl 128 (.tmp 65) rfl B 70 rfl 130 (vaultCells D C V).toArray (0,0) cm _ hV9.row Hpartm.out Tryz.underlying128 rfl H32.out ?_)|(refine wpList_alloc_row rfl 128 rfl Hinm.out ?_;refine wl_world (λw6=>w6.heap[w9.heap.size]? =some (.cells cq 128 (0,0))∧Keep NoB w9 w6∧w6.heap.size=w9.heap.size+1) ⟨heap_alloc_new w9 _,(Keep.refl NoB w9).alloc _,Array.size_push _⟩ ?_;rintro w6 ⟨hY6,K6,z6⟩)|(refine wpList_store_whole rfl 128 (.tmp 13) (.tmp 66) rfl w9.heap.size 128 cq cm rfl rfl hY6 H32.out 32 hcql hcml Honem.out ?_;refine wl_world (λw7=>w7.heap[w9.heap.size]? =some (.cells cm 128 (0,0))∧Keep NoB w9 w7∧w7.heap.size=w9.heap.size+1) ⟨heap_setRow (c':=cm) hY6,K6.setRow (g:=w9.heap.size) (.inr (Nat.le_refl _)) cm,by rw[<-z6];simp[World.setRow]⟩ ?_;clear hY6 K6 z6;rintro w10 ⟨hY10,K10,z10⟩))
    rw[<-hKB]at hY10 z10⊢
    clear hKB
    go_frame
    have K510:Keep NoB w5 w10:=K59.thenN K10
    have K010:Keep NoB w w10:=K05.thenN K510
    have L10:TellL VB MB EB IB B mo epoch lv w10:=⟨K510.heap HL5.out.1 (λx=>x),K510.heap HL5.out.2.1 (λx=>x),K510.heap HL5.out.2.2.1 (λx=>x),K510.heap HL5.out.2.2.2 (λx=>x)⟩
    have hV10:=hV9.keep K10 (λx=>x)
    have hx10:=hx9.keep K10 (λx=>x)
    have hm10:MarkRow w10 KB V.marks:=⟨by rw[hY10,Hcm.out],HV.out.lens.marks⟩
    have own10:=K510.ownsRow Hown5.out (λb hb e=>e)
    obtain⟨pl,cl,hlv⟩:=row_slice own10
    have hnums:Nums w10 lv (W.map λp=>(p.1:Int)):=nums_row own10 (by rw[List.length_map,HWl.out])
    obtain⟨ob,hob,hlook⟩:=MapO.look (Hm.out.keep K010)
    have hXl:VB+5<=XB:=by have:=HXB.out;omega
    have hKX:KB=XB+1:=by rw[HKB.out,hsz9]
    have hdl:=devB_lt Hd.out
    have hVBw:=HVB.out
    have hMBw:=HMB.out
    have hEBw:=HEB.out
    have hIBw:=HIB.out
    have hap:∀b,b=B∨b=IB∨b=VB∨b=EB∨b=MB∨mo=some b->¬TellB D S wv XB KB b:=by
     rintro b hb (hd'|hd'|hd')
     ·have h1:=hdl b hd'
      rcases hb with rfl|rfl|rfl|rfl|rfl|hb
      ·exact devB_ne HV.out Hd.out _ hd' rfl
      ·omega
      ·omega
      ·omega
      ·omega
      ·obtain⟨c0,t0,f0,h0,_⟩:=devB_row Hd.out b hd';exact Hm.out.row_ne h0 hb
     ·rcases hb with rfl|rfl|rfl|rfl|rfl|hb<;>first|omega|(have:=hmlt b hb;omega)
     ·rcases hb with rfl|rfl|rfl|rfl|rfl|hb<;>first|omega|(have:=hmlt b hb;omega)
    have hTold:∀i,i<w.heap.size->TellB D S wv XB KB i->DevB D S wv i:=by
     rintro i hi (h1|h1|h1)
     ·exact h1
     ·omega
     ·omega
    have hE:TellEnv w10 B D C S V wv IB VB EB XB MB mo KB ob W ⟨V.now.count+1,epoch,V.now.sides,V.now.root⟩:=
     {
      vault:=hV10
      ids:=⟨pl,cl,by rw[cell_of_row _ _ _ _ _ (0,0) L10.2.2.2,hlv,HWl.out];rfl,by rw[HWl.out,<-hlv];exact hnums,λb hb=>by
       rw[HWl.out,<-hlv]at hb
       have h1:=(World.ownsRow.lt own10 b hb).1
       rintro(h2|h2|h2)
       ·have:=hdl b h2;omega
       ·have h3:=(World.ownsRow.lt Hown5.out b hb).2;have:=HXB.out;omega
       ·have h3:=(World.ownsRow.lt Hown5.out b hb).2;have:=HXB.out;omega⟩
      v:=by rw[cell_of_row _ _ _ _ _ (0,0) L10.1];rfl
      epoch:=by rw[cell_of_row _ _ _ _ _ (0,0) L10.2.2.1];rfl
      map:=by rw[cell_of_row _ _ _ _ _ (0,0) L10.2.1];rfl
      obj:=hob
      look:=λw' hw' p hp=>hlook w' hw' _ _ (by have:=(HWm.out p hp).2.2.1;simp[Lit.wf,show IntKind.i64.min= -9223372036854775808 from rfl,show IntKind.i64.max=9223372036854775807 from rfl];omega) (HWm.out p hp).2.1
      apart:=hap
      devs:=λb hb=>by have:=hdl b hb;omega
      xk:=by omega
      small:=λp hp=>(HWm.out p hp).2.2 }
    have hcte:=Hct.out
    have h1t:=tell1_any hE (Hd.out.keep K010 (λ_ _ x=>x)) (by rw[<-hcte];exact hx10) hm10 Hm16.out (by have:=HWl.out;have:=HLl.out;have:=Hdw.out;omega) Hsec.out (by show 1<=V.now.count+1;have:=Hcnt0.out;omega) (by show V.now.count+1<=1099511627776;have:=Hcnt1.out;omega) (by have:=HWl.out;have:=HLl.out;omega) (HR.out.keep K010 (λx=>x)) (by
     have hr:5<w.heap.size:=block_lt_of_cell (HR.out 0 (by omega))
     rintro(h2|h2|h2)
     ·exact HR2.out _ h2 rfl
     ·omega
     ·omega)
    obtain⟨t,ht⟩:∃t,t=tell1V V.secret ⟨V.now.count+1,epoch,V.now.sides,V.now.root⟩ V.marks d W:=⟨_,rfl⟩
    rw[<-ht]at h1t
    have H1t:=Lib.hid h1t
    have Ht:=Lib.hid ht
    have HE:=Lib.hid hE
    have HTold:=Lib.hid hTold
    have Hlook:=Lib.hid hlook
    have Hlv:=Lib.hid hlv
    have Hnums:=Lib.hid hnums
    have HKX:=Lib.hid hKX
    have HXl:=Lib.hid hXl
    have HL10:=Lib.hid L10
    have HV10:=Lib.hid hV10
    have hCw:=lt_of_heap Hc.out
    have hCn:¬TellB D S wv XB KB C:=by
     rintro(h2|h2|h2)
     ·exact devB_count Hd.out Hc.out h2
     ·omega
     ·omega
    have HCn:=Lib.hid hCn
    have HCw:=Lib.hid hCw
    clear h1t ht hE hTold hlook hlv hnums hKX hXl L10 hV10 hCn hCw hcte hVBw hMBw hEBw hIBw hap hdl hx10 hm10 own10 hob hY10 z10 hsz9 hV9 hx9 K59 c9 hsz5
    go_wp2_with fail
    refine H1t.out.mono ?_
    rintro e w11 ⟨⟨rfl,⟨wv',hd11,hM11⟩,hxm⟩,K11⟩
    have K011:Keep (λb=>DevB D S wv b∨b=B∨b=C) w w11:=K010.ofN.trans K11 (λi hi hs=> .inl (HTold.out i hi hs))
    have hB11:¬TellB D S wv XB KB B:=HE.out.apart B (.inl rfl)
    have hV11:VaultAt w11 B D C V:=HV10.out.keep K11 hB11
    have hc11:CountAt w11 C n:=Hc.out.keep (K010.ofN.trans K11 (S:=TellB D S wv XB KB) (λi hi hs=>hs)) HCn.out
    have hM011:Moved w wv wv':=moved_trans (moved_refl w wv) hM11 K010.size
    have L11:TellL VB MB EB IB B mo epoch lv w11:=⟨K11.heap HL10.out.1 (HE.out.apart VB (by simp)),K11.heap HL10.out.2.1 (HE.out.apart MB (by simp)),K11.heap HL10.out.2.2.1 (HE.out.apart EB (by simp)),K11.heap HL10.out.2.2.2 (HE.out.apart IB (by simp))⟩
    have c1:w11.cell? ⟨VB,0,none⟩=some (.pointer (some ⟨B,0,none⟩)):=by rw[cell_of_row _ _ _ _ _ (0,0) L11.1];rfl
    have f11:=hV11.free 102
    have g11:=hV11.dead
    have hnB:=devB_ne hV11 hd11
    have hnC:=devB_count hd11 hc11
    have hCB:=count_ne hV11 hc11
    have hfin:∀(er:Int) W',er≠0->tellV V d n epoch W=⟨er,dieV V,t.dev,n⟩->Keep (OneB C) w11 W'->VaultAt W' B D C V->DevIs W' D S wv' t.dev->CountAt W' C n->TellSaid w (W'.setCell ⟨B,102,none⟩ (.bool true)) B D C S V wv d n epoch M o (.returned (errVal er))∧Keep (λb=>DevB D S wv b∨b=B∨b=C) w (W'.setCell ⟨B,102,none⟩ (.bool true)):=by
     intro er W' her htv KW hVW hdW hcW
     have Ks:Keep (OneB B) W' (W'.setCell ⟨B,102,none⟩ (.bool true)):=(Keep.refl (OneB B) W').set1 102 _
     refine⟨.inr (.inr ⟨Hdd.out.symm,Hgood.out,?_⟩),?_⟩
     ·rw[<-HW.out,htv]
      exact⟨rfl,hVW.setDead,⟨wv',hdW.keep Ks (λb hb e=>devB_ne hVW hdW b hb e),hM011⟩,hcW.keep Ks (λe=>count_ne hVW hcW e)⟩
     ·exact(K011.trans KW (λi hi hs=> .inr (.inr hs))).trans Ks (λi hi hs=> .inr (.inl hs))
    have Hfin:=Lib.hid hfin
    have HV11:=Lib.hid hV11
    have Hd11:=Lib.hid hd11
    have Hc11:=Lib.hid hc11
    have HM011:=Lib.hid hM011
    have HL11:=Lib.hid L11
    have HK011:=Lib.hid K011
    have HK11:=Lib.hid K11
    clear hfin hV11 hd11 hc11 hM011 L11 hB11 hnB hnC hCB K11 hM11 H1t
    by_cases h0:t.err=0
    ·rw[h0]
     rw[show errVal 0=Value.nilIface from rfl]
     obtain⟨hx11,hm11⟩:=hxm h0
     obtain⟨ver,hver⟩:∃v,v=V.now.count+1:=⟨_,rfl⟩
     have htc:t.x.count=ver:=by rw[Ht.out,tell1V_count,hver]
     have xc:=hx11.count
     rw[htc]at xc
     have cC:=HV11.out.cnt
     have L19:TellR VB B C XB ver w11:=⟨c1,cC,xc⟩
     have Hx11:=Lib.hid hx11
     have Hm11:=Lib.hid hm11
     have Hver:=Lib.hid hver
     have Htc:=Lib.hid htc
     have H0:=Lib.hid h0
     clear hx11 hm11 hver htc xc cC hxm h0
     go_upto_region 19 with(fail)
     have p1:∀y:InC (TellR VB B C XB ver),y.w.cell? ⟨VB,0,none⟩=some (.pointer (some ⟨B,0,none⟩)):=λy=>y.h.1
     have p2:∀y:InC (TellR VB B C XB ver),y.w.cell? ⟨B,1,none⟩=some (.pointer (some ⟨C,0,none⟩)):=λy=>y.h.2.1
     have p3:∀y:InC (TellR VB B C XB ver),y.w.cell? ⟨XB,0,none⟩=some (.int .i64 ver):=λy=>y.h.2.2
     refine wp_region_mix (TellR VB B C XB ver) [(true,0),(true,1),(true,2),(true,3),(true,4),(true,5),(false,6),(false,7)] (by kernel_rfl) (by kernel_rfl) (λc a d v w h=>by cases d<;>exact h) ?_
     simp only[wpMixC,pickL,List.getElem?_toArray,List.getElem?_cons_succ,List.getElem?_cons_zero]
     repeat(refine wpEarlyC_step (λK hK=> ?_);go_simp;first|(refine⟨_,λ_=>rfl,hK _ ?_⟩;clear hK K;refine wpEarlyC_nil ?_)|(refine hK _ ?_;clear hK K;refine wpEarlyC_nil ?_))
     clear p1 p2 p3
     refine⟨L19,?_⟩
     have hBt:=HE.out.apart B (.inl rfl)
     have hVBt:=HE.out.apart VB (by simp)
     have hBlt:=HV11.out.lt
     have hVBlt:=block_lt_of_cell c1
     have hL12:∀W',Keep (OneB C) w11 W'->TellR VB B C XB ver W':=λW' KW=>
      ⟨(KW.cell (p:=⟨VB,0,none⟩) hVBlt (λe=>by have h1:VB=C:=e;have:=HCw.out;have:=HVB.out;omega)).trans L19.1,(KW.cell (p:=⟨B,1,none⟩) hBlt (λe=>count_ne HV11.out Hc11.out e.symm)).trans L19.2.1,(KW.cell (p:=⟨XB,0,none⟩) (block_lt_of_cell L19.2.2) (λe=>HCn.out (.inr (.inl e.symm)))).trans L19.2.2⟩
     have HL12:=Lib.hid hL12
     clear hBt hVBt hBlt hVBlt L19 hL12
     by_cases hvn:ver<=n
     ·have hrs:=raise_no (Hc11.out.keep (Keep.refl NoB w11).drew (λx=>x)) ver hvn
      have hfin:=λW' KW=>Hfin.out 10 W' (by decide) (tellV_late Ht.out H0.out (by rw[<-Hver.out];exact hvn)) KW
      rw[show errVal 10=Value.iface 40 (.int .i64 10)from rfl]at hfin
      have Hrs:=Lib.hid hrs
      have Hf:=Lib.hid hfin
      clear hrs hfin hvn
      go_wp2_with fail
      refine Hrs.out.mono ?_
      rintro e w12 ⟨rfl,e12⟩
      have K12:Keep NoB w11 w12:=by rw[e12];exact(Keep.refl NoB w11).drew
      have L12:=HL12.out w12 K12.ofN
      have c12:=L12.1
      have V12:=HV11.out.keep K12 (λx=>x)
      have f12:=V12.free 102
      have g12:=V12.dead
      have hf12:=Hf.out w12 K12.ofN V12 (Hd11.out.keep K12 (λ_ _ x=>x)) (Hc11.out.keep K12 (λx=>x))
      have Hf12:=Lib.hid hf12
      clear e12 hf12 V12 c1 f11 g11
      go_wp2_with fail
      refine⟨L12,?_⟩
      go_wp2_with fail
      go_ret
      exact Hf12.out
     ·have hrs:=raise_yes (Hc11.out.keep (Keep.refl NoB w11).drew (λx=>x)) ver (by omega)
      have Hrs:=Lib.hid hrs
      have Hvn:=Lib.hid hvn
      clear hrs hvn
      go_wp2_with fail
      refine Hrs.out.mono ?_
      rintro e w12 ⟨rfl,hc12,K12⟩
      have K12:Keep (OneB C) w11 w12:=(Keep.refl NoB w11).drew.ofN.trans K12 (λi hi hs=>hs)
      have L12:=HL12.out w12 K12
      have V12:=HV11.out.keep K12 (λe=>count_ne HV11.out Hc11.out e.symm)
      clear c1 f11 g11
      go_wp2_with fail
      refine⟨L12,?_⟩
      have c12:=L12.1
      go_upto_region 23 with(fail)
      obtain⟨cx,hcx⟩:∃c,c=(supCells t.x).toArray:=⟨_,rfl⟩
      obtain⟨ck,hck⟩:∃c,c=(t.marks.map Value.string).toArray:=⟨_,rfl⟩
      have hxs:=Hx11.out.2
      have hms:=Hm11.out.2
      have hcxl:cx.size=35:=by rw[hcx,List.size_toArray,supCells_len t.x hxs]
      have hckl:ck.size=32:=by rw[hck,List.size_toArray,List.length_map,hms]
      have h35:(Tryz.prog.info? 127).map (·.size)=some cx.size:=by rw[hcxl];exact info_super35
      have h32:(Tryz.prog.info? 128).map (·.size)=some ck.size:=by rw[hckl];exact info_arr32
      have honx:cx.all (·.oneCell')=true:=by rw[hcx];exact supCells_one _
      have honk:ck.all (·.oneCell')=true:=by rw[hck];exact str_one _
      have hX12:w12.heap[XB]? =some (.cells cx 127 (0,0)):=by rw[hcx];exact K12.heap Hx11.out.1 (λe=>HCn.out (.inr (.inl e.symm)))
      have hK12:w12.heap[KB]? =some (.cells ck 128 (0,0)):=by rw[hck];exact K12.heap Hm11.out.1 (λe=>HCn.out (.inr (.inr e.symm)))
      have L23:TellM VB B XB KB cx ck w12:=⟨c12,hX12,hK12⟩
      have h23:∀W',Keep (OneB B) w12 W'->TellM VB B XB KB cx ck W':=λW' KW=>by
       have hb:=HE.out.apart B (.inl rfl)
       have hv:=HVB.out
       exact⟨(KW.cell (p:=⟨VB,0,none⟩) (block_lt_of_cell c12) (λe=>by have h1:VB=B:=e;omega)).trans c12,KW.heap hX12 (λe=>hb (.inr (.inl e.symm))),KW.heap hK12 (λe=>hb (.inr (.inr e.symm)))⟩
      have V12d:=V12.keep (Keep.refl NoB w12).drew (λx=>x)
      have hn1:3+cx.size<=(vaultCells D C V).toArray.size:=by rw[hcxl,List.size_toArray,vaultCells_len HV.out.lens];omega
      have hn2:70+ck.size<=(vaultCells D C (setNow V t.x)).toArray.size:=by rw[hckl,List.size_toArray,vaultCells_len (HV.out.lens.now hxs)];omega
      have hs1:=V12d.setNow hxs
      rw[<-hcx]at hs1
      have hs2:∀W',VaultAt W' B D C (setNow V t.x)->VaultAt (W'.setRow B (partSet (vaultCells D C (setNow V t.x)).toArray 70 ck)) B D C (setMarks (setNow V t.x) t.marks):=λW' h=>by rw[hck];exact h.setMarks hms
      have H23:=Lib.hid h23
      have H35:=Lib.hid h35
      have H32':=Lib.hid h32
      have Honx:=Lib.hid honx
      have Honk:=Lib.hid honk
      have Hn1:=Lib.hid hn1
      have Hn2:=Lib.hid hn2
      have Hs1:=Lib.hid hs1
      have Hs2:=Lib.hid hs2
      have p1:∀y:InC (TellM VB B XB KB cx ck),y.w.cell? ⟨VB,0,none⟩=some (.pointer (some ⟨B,0,none⟩)):=λy=>y.h.1
      clear hcx hck hxs hms hcxl hckl h35 h32 honx honk hX12 hK12 h23 hn1 hn2 hs1 hs2 c12
      refine wp_region_mix (TellM VB B XB KB cx ck) [(true,0),(true,1),(true,2),(true,3),(true,4),(true,5),(false,6),(true,7),(true,8),(false,9)] (by kernel_rfl) (by kernel_rfl) (λc a d v w h=>by cases d<;>exact h) ?_
      simp only[wpMixC,pickL,List.getElem?_toArray,List.getElem?_cons_succ,List.getElem?_cons_zero]
      iterate 2 (refine wpEarlyC_step (λK hK=> ?_);go_simp;first|(refine⟨_,λ_=>rfl,hK _ ?_⟩;clear hK K;refine wpEarlyC_nil ?_)|(refine hK _ ?_;clear hK K;refine wpEarlyC_nil ?_))
      refine wpEarlyC_load_part (by rfl) 127 (.tmp 12) rfl XB 0 rfl 127 cx (0,0) cx _ (λy=>y.h.2.1) (λj v hv=>by rw[Nat.zero_add];exact hv) Tryz.underlying127 rfl H35.out ?_
      refine wpEarlyC_nil ?_
      refine wpEarlyC_load_part (by rfl) 128 (.tmp 13) rfl KB 0 rfl 128 ck (0,0) ck _ (λy=>y.h.2.2) (λj v hv=>by rw[Nat.zero_add];exact hv) Tryz.underlying128 rfl H32'.out ?_
      refine wpEarlyC_nil ?_
      iterate 2 (refine wpEarlyC_step (λK hK=> ?_);go_simp;first|(refine⟨_,λ_=>rfl,hK _ ?_⟩;clear hK K;refine wpEarlyC_nil ?_)|(refine hK _ ?_;clear hK K;refine wpEarlyC_nil ?_))
      refine⟨L23,?_⟩
      refine wpList_store_part rfl 127 (.tmp 89) (.tmp 86) rfl B 3 130 (vaultCells D C V).toArray cx rfl rfl V12d.row H35.out Hn1.out Honx.out ?_
      refine wl_world (λW'=>VaultAt W' B D C (setNow V t.x)∧Keep (OneB B) w12 W') ⟨Hs1.out,(Keep.refl (OneB B) w12).drew.setRow (g:=B) (.inl rfl) _⟩ ?_
      rintro w13 ⟨V13,K13⟩
      go_wp2_with fail
      iterate 2 (refine wpEarlyC_step (λK hK=> ?_);go_simp;first|(refine⟨_,λ_=>rfl,hK _ ?_⟩;clear hK K;refine wpEarlyC_nil ?_)|(refine hK _ ?_;clear hK K;refine wpEarlyC_nil ?_))
      clear p1
      refine⟨H23.out w13 K13,?_⟩
      refine wpList_store_part rfl 128 (.tmp 91) (.tmp 87) rfl B 70 130 (vaultCells D C (setNow V t.x)).toArray ck rfl rfl V13.row H32'.out Hn2.out Honk.out ?_
      refine wl_world (λW'=>VaultAt W' B D C (setMarks (setNow V t.x) t.marks)∧Keep (OneB B) w12 W') ⟨Hs2.out _ V13,K13.setRow (g:=B) (.inl rfl) _⟩ ?_
      rintro w14 ⟨V14,K14⟩
      have hBw:=HV.out.lt
      have hCw:=HCw.out
      have hVBw:=HVB.out
      have hMBw:=HMB.out
      have hIBw:=HIB.out
      have hmbB:mo≠some B:=Hm.out.row_ne HV.out.row
      have hmbC:mo≠some C:=Hm.out.row_ne Hc.out
      have hrow:∀ {b:Nat} {x:Obj},w11.heap[b]? =some x->b≠B->b≠C->∀W',Keep (OneB B) w12 W'->W'.heap[b]? =some x:=λh hb hc W' KW=>KW.heap (K12.heap h (λe=>hc e)) (λe=>hb e)
      have hI:∀W',Keep (OneB B) w12 W'->W'.cell? ⟨IB,0,none⟩=some lv:=λW' KW=>by rw[cell_of_row _ _ _ _ _ (0,0) (hrow HL11.out.2.2.2 (by omega) (by omega) W' KW)];rfl
      have hP:∀W',Keep (OneB B) w12 W'->TellP VB MB B mo ob W':=λW' KW=>
       ⟨by rw[cell_of_row _ _ _ _ _ (0,0) (hrow HL11.out.1 (by omega) (by omega) W' KW)];rfl,by rw[cell_of_row _ _ _ _ _ (0,0) (hrow HL11.out.2.1 (by omega) (by omega) W' KW)];rfl,λb hb=>hrow (HK11.out.heap (HE.out.obj b hb) (HE.out.apart b (by simp[hb]))) (λe=>hmbB (e▸hb)) (λe=>hmbC (e▸hb)) W' KW⟩
      have hN11:Nums w11 lv (W.map λp=>(p.1:Int)):=Hnums.out.keep HK11.out (λb hb=>by
       obtain⟨p,c,h1,h2,h3⟩:=HE.out.ids
       have h4:lv= .slice p W.length c:=by
        have h5:w10.cell? ⟨IB,0,none⟩=some lv:=by rw[cell_of_row _ _ _ _ _ (0,0) HL10.out.2.2.2];rfl
        rw[h5]at h1
        exact Option.some.inj h1
       exact h3 b (h4▸hb))
      have hNr:∀W',Keep (OneB B) w12 W'->Nums W' lv (W.map λp=>(p.1:Int)):=λW' KW=>(hN11.keep K12 (λb hb e=>by
       have h1:=(World.ownsRow.lt Hown5.out b hb).1
       have h2:b=C:=e
       omega)).keep KW (λb hb e=>by
       have h1:=(World.ownsRow.lt Hown5.out b hb).1
       have h2:b=B:=e
       omega)
      have hd12:DevIs w12 D S wv' t.dev:=Hd11.out.keep K12 (λb hb e=>devB_count Hd11.out Hc11.out (e▸hb))
      have hnB12:∀b,DevB D S wv' b->b≠B:=devB_ne HV11.out Hd11.out
      have hfin:∀W',Keep (OneB B) w12 W'->VaultAt W' B D C ⟨V.secret,t.x,putTexts V.texts W,t.marks,V.dead⟩->TellSaid w W' B D C S V wv d n epoch M o (.returned .nilIface)∧Keep (λb=>DevB D S wv b∨b=B∨b=C) w W':=by
       intro W' KW hVW
       have htv:=tellV_ok (d:=d) (n:=n) (epoch:=epoch) Ht.out H0.out (by have h5:=Hvn.out;rw[Hver.out]at h5;omega)
       refine⟨.inr (.inr ⟨Hdd.out.symm,Hgood.out,?_⟩),(HK011.out.trans K12 (λi hi hs=> .inr (.inr hs))).trans KW (λi hi hs=> .inr (.inl hs))⟩
       rw[<-HW.out,htv]
       refine⟨rfl,hVW,⟨wv',hd12.keep KW (λb hb e=>hnB12 b hb e),HM011.out⟩,?_⟩
       have h5:=hc12.keep KW (λe=>count_ne HV.out Hc.out e)
       rw[Hver.out]at h5
       exact h5
      obtain⟨m,hmL⟩:∃m,m=L.length:=⟨_,rfl⟩
      have hWm:W.length=m:=by rw[hmL];exact HWl.out
      have hlv2:=Hlv.out
      rw[<-hmL]at hlv2
      have hci:=hI w14 K14
      rw[hlv2]at hci
      have hml:m<=1000:=by rw[hmL];exact HLl.out
      have HI:=Lib.hid hI
      have HP:=Lib.hid hP
      have HNr:=Lib.hid hNr
      have Hfn:=Lib.hid hfin
      have Hlv2:=Lib.hid hlv2
      have HWm2:=Lib.hid hWm
      have HV14:=Lib.hid V14
      clear hBw hCw hVBw hMBw hIBw hmbB hmbC hrow hI hP hN11 hNr hd12 hnB12 hfin hmL hlv2 hWm V14 V13 K13 V12d V12 hc12 L23 L12
      go_wp2_with fail
      go_loopw [94] (λiv wr=>∃k:Nat,iv= .int .i64 k∧k<=m∧Hid (VaultAt wr B D C ⟨V.secret,t.x,putTexts V.texts (W.take k),t.marks,V.dead⟩)∧Keep (OneB B) w12 wr) (λiv _=>m-(intOf iv).toNat)
      case atStart=>exact⟨0,rfl,by omega,Lib.hid HV14.out,K14⟩
      case round=>
       obtain⟨k,rfl,hk,hVr,KR⟩:=hrel
       obtain⟨wo,rfl⟩:∃wo,wo=wr:=⟨_,rfl⟩
       by_cases hlt:k<m
       ·have j1:(k:Int)<m:=by omega
        obtain⟨p,hp⟩:∃p,W[k]? =some p:=⟨_,List.getElem?_eq_getElem (by have:=HWm2.out;omega)⟩
        obtain⟨id,s⟩:=p
        have hsm:=HWm.out _ (List.mem_of_getElem? hp)
        have hid32:id<32:=hsm.2.2.1
        have jid:(id:Int)<32:=by omega
        have hN:=HNr.out wo KR
        rw[Hlv2.out]at hN
        obtain⟨bi,oi,hpi,-,hbi,hcid⟩:=hN.at (by rw[List.length_map];have:=HWm2.out;omega)
        have hidk:wo.cell? ⟨bi,oi+k,none⟩=some (.int .i64 (id:Int)):=by
         rw[hcid k (by rw[List.length_map];have:=HWm2.out;omega),List.getD_eq_getElem?_getD,List.getElem?_map,hp];rfl
        subst hpi
        have hlk2:=Hlook.out
        have L27:=HP.out wo KR
        have q1:∀y:InC (TellP VB MB B mo ob),y.w.cell? ⟨VB,0,none⟩=some (.pointer (some ⟨B,0,none⟩)):=λy=>y.h.1
        have q2:∀y:InC (TellP VB MB B mo ob),y.w.cell? ⟨MB,0,none⟩=some (.map mo):=λy=>y.h.2.1
        have q3:∀y:InC (TellP VB MB B mo ob),(Instr.lookup 96 (.map mo) (.int .i64 (id:Int)) false).run Tryz.prog y.w= .ok (.string s) y.w:=λy=>hlk2 y.w y.h.2.2 _ _ (by simp[Lit.wf,show IntKind.i64.min= -9223372036854775808 from rfl,show IntKind.i64.max=9223372036854775807 from rfl];omega) hsm.2.1
        have fB:=hVr.out.free (38+id)
        have gB:=hVr.out.text id hid32
        have Hset:=Lib.hid (hVr.out.setText id hid32 s)
        have Hp:=Lib.hid hp
        have Hsm:=Lib.hid hsm
        clear hN hcid hlk2 hp hsm hVr
        go_upto_region 27 with(fail)
        refine wp_region_mix (TellP VB MB B mo ob) [(true,0),(true,1),(true,2),(true,3),(true,4),(true,5),(true,6),(true,7),(false,8)] (by kernel_rfl) (by kernel_rfl) (λc a d v w h=>by cases d<;>exact h) ?_
        simp only[wpMixC,pickL,List.getElem?_toArray,List.getElem?_cons_succ,List.getElem?_cons_zero]
        repeat(refine wpEarlyC_step (λK hK=> ?_);go_simp;first|(refine⟨_,λ_=>rfl,hK _ ?_⟩;clear hK K;refine wpEarlyC_nil ?_)|(refine hK _ ?_;clear hK K;refine wpEarlyC_nil ?_))
        clear q1 q2 q3
        refine⟨L27,?_⟩
        have KR2:Keep (OneB B) w12 (wo.setCell ⟨B,38+id,none⟩ (.string s)):=KR.then ((Keep.refl (OneB B) wo).set1 (38+id) _)
        have HKR2:=Lib.hid KR2
        clear KR2
        go_wp2_with fail
        refine⟨⟨k+1,by rw[show((k+1:Nat):Int)=(k:Int)+1 from by omega],by omega,Lib.hid ?_,HKR2.out.drew⟩,?_⟩
        ·rw[putTexts_step _ _ _ _ Hp.out]
         exact Hset.out.keep (Keep.refl NoB _).drew (λx=>x)
        ·show m-((k:Int)+1).toNat<m-(k:Int).toNat
         omega
       ·obtain rfl:k=m:=by omega
        have j1:¬(k:Int)<k:=by omega
        have hfn:=Hfn.out wo KR (by have h5:=hVr.out;rw[List.take_of_length_le (by have:=HWm2.out;omega)]at h5;exact h5)
        have Hf2:=Lib.hid hfn
        clear hfn hVr
        go_wp2_with fail
        go_ret
        exact Hf2.out
    ·obtain⟨er,her⟩:∃q,q=t.err:=⟨_,rfl⟩
     have htv:=tellV_err (n:=n) Ht.out h0
     rw[<-her]at h0 htv⊢
     have hev:errVal er= .iface 40 (.int .i64 er):=if_neg h0
     have hfin:=Hfin.out er w11 h0 htv (Keep.refl _ _) HV11.out Hd11.out Hc11.out
     rw[hev]at hfin⊢
     have Hf:=Lib.hid hfin
     clear hfin hev htv her h0
     go_wp2_with fail
     go_ret
     exact Hf.out
   ·intro x c w4 cnt2 hmem hlk hrg4 hlt4 hg4 hs4 hen
    have hVBs:=HVB.out
    have K4:Keep NoB w w4:=K.trans hg4 (λk hk e=>by have h1:k=VB+4:=e;omega)
    have Kx:Keep (OneB (VB+4)) wo w4:=hg4
    have L4:TellL VB MB EB IB B mo epoch lv w4:=⟨Kx.heap hL.out.1 (λe=>by have h1:VB=VB+4:=e;omega),Kx.heap hL.out.2.1 (λe=>by have h1:MB=VB+4:=e;have:=HMB.out;omega),Kx.heap hL.out.2.2.1 (λe=>by have h1:EB=VB+4:=e;have:=HEB.out;omega),Kx.heap hL.out.2.2.2 (λe=>by have h1:IB=VB+4:=e;have:=HIB.out;omega)⟩
    have own4:=Kx.ownsRow hown.out (λb hb e=>by
     have h1:=(World.ownsRow.lt hown.out b hb).1
     have h2:b=VB+4:=e
     omega)
    have hsz4:VB+5<=w4.heap.size:=by have:=hsz.out;have:=Kx.size;omega
    have hLl:L.length<=1000:=by
     have h1:=hseen.out.perm.length_eq
     rw[List.length_map]at h1
     have h2:=List.length_filter_le (λp:Entry=> !left (.int .i64 p.1)&&o p) M
     have:=HMl.out
     omega
    have Hmem:=Lib.hid hmem
    have Hlk:=Lib.hid hlk
    have Hlt4:=Lib.hid (show rangeLeftO w4 mo (VB+4)<rangeLeftO wo mo (VB+4)by rw[hrg4.left_eq,hrgo.left_eq];exact hlt4)
    have HL4:=Lib.hid L4
    have Hown4:=Lib.hid own4
    have Hsz4:=Lib.hid hsz4
    have Hrg4:=Lib.hid hrg4
    have HLl:=Lib.hid hLl
    have hback:∀W',Keep NoB w W'->VaultAt W' B D C V∧DevIs W' D S wv d∧CountAt W' C n:=λW' KW=>⟨HV.out.keep KW (λx=>x),Hd.out.keep KW (λ_ _ x=>x),Hc.out.keep KW (λx=>x)⟩
    have Hback:=Lib.hid hback
    clear hmem hlk hlt4 hs4 hg4 Kx L4 own4 hsz4 hrg4 hrgo hLl hback hVBs
    by_cases hf:x<0∨32<=x
    ·have hfar:farE (x,c)=true:=by simp only[farE,Bool.or_eq_true,decide_eq_true_eq];exact hf
     have hfin:∀W',Keep NoB w W'->TellSaid w W' B D C S V wv d n epoch M o (.returned (.iface 40 (.int .i64 2))):=λW' KW=>
      .inr (.inl ⟨Hdd.out.symm,⟨_,Hmem.out,by rw[badE,hfar];rfl⟩,.inl ⟨rfl,_,Hmem.out,hfar⟩,Hback.out W' KW⟩)
     have Hfin:=Lib.hid hfin
     clear hfar hfin
     rcases hf with hf|hf
     ·have e0:decide (x<0)=true:=by simpa using hf
      go_wp2_with fail
      go_ret
      exact⟨Hfin.out _ K4,K4.ofN⟩
     ·have e0:decide (x<0)=false:=by simp;omega
      have e1:decide (32<=x)=true:=by simpa using hf
      go_wp2_with fail
      go_ret
      exact⟨Hfin.out _ K4,K4.ofN⟩
    ·have e0:decide (x<0)=false:=by simp;omega
     have e1:decide (32<=x)=false:=by simp;omega
     have hfar:farE (x,c)=false:=by rw[farE,e0,e1];rfl
     by_cases hw:200<c.size
     ·have hwide:wideE (x,c)=true:=decide_eq_true hw
      have hfin:∀W',Keep NoB w W'->TellSaid w W' B D C S V wv d n epoch M o (.returned (.iface 40 (.int .i64 4))):=λW' KW=>
       .inr (.inl ⟨Hdd.out.symm,⟨_,Hmem.out,by rw[badE,hwide,Bool.or_true]⟩,.inr ⟨rfl,_,Hmem.out,hwide⟩,Hback.out W' KW⟩)
      have Hfin:=Lib.hid hfin
      have w0:(200:Int)<c.size:=by omega
      clear hwide hfin hf hfar hw
      go_wp2_with fail
      go_ret
      exact⟨Hfin.out _ K4,K4.ofN⟩
     ·have hwide:wideE (x,c)=false:=decide_eq_false hw
      have hbad:badE (x,c)=false:=by rw[badE,hfar,hwide];rfl
      have w0:¬(200:Int)<c.size:=by omega
      have hoc:=Ho.out (x,c) Hmem.out hbad
      have hstep:=hseen.out.step Hpw.out Hmem.out Hlk.out hbad
      obtain⟨ob,hob⟩:∃b,b=o (x,c):=⟨_,rfl⟩
      rw[<-hob]at hoc hstep
      have Hoc:=Lib.hid hoc
      have Hstep:=Lib.hid hstep
      clear hf hfar hw hwide hbad hoc hstep hob
      go_wp2_with fail
      refine(Hoc.out w4 K4).mono ?_
      rintro e w5 ⟨rfl,K5⟩
      have K05:=K4.thenN K5
      have hrg5:=Hrg4.out.keep K5 (λ_ _ x=>x) (λx=>x)
      have L5:TellL VB MB EB IB B mo epoch lv w5:=⟨K5.heap HL4.out.1 (λx=>x),K5.heap HL4.out.2.1 (λx=>x),K5.heap HL4.out.2.2.1 (λx=>x),K5.heap HL4.out.2.2.2 (λx=>x)⟩
      have own5:=K5.ownsRow Hown4.out (λ_ _ x=>x)
      have hsz5:VB+5<=w5.heap.size:=Nat.le_trans Hsz4.out K5.size
      cases ob with
      | false=>
       go_wp2_with fail
       go_roundw
       case rel=>
        refine⟨_,cnt2,L,lv,Lib.hid hrg5,Lib.hid Hstep.out,Lib.hid L5,Lib.hid own5,hnil,Lib.hid hsz5,K05⟩
       case measure=>
        rw[hrg5.left_eq,<-Hrg4.out.left_eq]
        exact Hlt4.out
      | true=>
       have ci:w5.cell? ⟨IB,0,none⟩=some lv:=by rw[cell_of_row _ _ _ _ _ (0,0) L5.2.2.2];rfl
       have fi:w5.frozen? ⟨IB,0,none⟩=false:=Lib.frozen_of_heap L5.2.2.2 0
       obtain⟨i0,hi0,hz0,hz1,hz2⟩:=info_i64
       have own5a:=own5.alloc (.cells #[.int .i64 x] 3)
       have HL5:=Lib.hid L5
       have Hrg5:=Lib.hid hrg5
       have Hsz5:=Lib.hid hsz5
       clear L5 hrg5
       go_wp2_with (first|(at_builtin;refine wpList_append_own _ rfl _ _ 45 rfl (VB+5) 3 i0 (.int .i64 0) 1 8 Tryz.underlying45 hi0 hz0 hz1 hz2 rfl (by decide) lv L.length _ rfl own5a ⟨w5.heap.size,0,none⟩ 1 1 [.int .i64 x] rfl rfl (cells_new _ _ _) (by intro u hu;rw[List.mem_singleton.1 hu];rfl) (by have:=HLl.out;unfold maxLen;omega) (by have:=HLl.out;omega) (by have:=Hsz5.out;simp;omega) ?_;intro v6 w6 own6 hgr6 hiff;have KQ:Keep (λb=>lv.ownBlock=some b) w5 w6:=((Keep.refl _ w5).alloc _).grown hgr6 (λk hk=> .inl hk);have nq:¬(lv.ownBlock=some IB):=(λe=>by have h1:=(World.ownsRow.lt own5 IB e).1;have:=HIB.out;omega);have ci6:w6.cell? ⟨IB,0,none⟩=some lv:=(KQ.cell (p:=⟨IB,0,none⟩) (block_lt_of_cell ci) nq).trans ci;have fi6:w6.frozen? ⟨IB,0,none⟩=false:=(KQ.frozen (p:=⟨IB,0,none⟩) (block_lt_of_cell ci) nq).trans fi;obtain⟨p6,c6,hv6⟩:=row_slice own6;subst hv6)|fail)
       have hVBs:=HVB.out
       have hIBs:=HIB.out
       have KQ5:Keep (λb=>lv.ownBlock=some b) w5 w6:=KQ
       have n1:∀b,mo=some b->¬lv.ownBlock=some b:=λb hb e=>by have h1:=(World.ownsRow.lt own5 b e).1;have h2:=hmlt b hb;omega
       have n2:¬lv.ownBlock=some (VB+4):=λe=>by have h1:=(World.ownsRow.lt own5 (VB+4) e).1;omega
       have hrg6:=Hrg5.out.keep KQ5 n1 n2
       have hrg7:=hrg6.keep (S:=OneB IB) ((Keep.refl (OneB IB) w6).set1 0 (.slice p6 (L.length+1) c6)) (λb hb e=>by have h1:b=IB:=e;have h2:=hmlt b hb;omega) (λe=>by have h1:VB+4=IB:=e;omega)
       have Ks:Keep (OneB IB) w6 (w6.setCell ⟨IB,0,none⟩ (.slice p6 (L.length+1) c6)):=(Keep.refl (OneB IB) w6).set1 0 _
       have nb:∀b,b<VB+3->VB<=b->∀ob,w5.heap[b]? =some ob->(w6.setCell ⟨IB,0,none⟩ (.slice p6 (L.length+1) c6)).heap[b]? =some ob:=λb hb hb2 ob h5=>Ks.heap (KQ.heap h5 (λe=>by have h1:=(World.ownsRow.lt own5 b e).1;omega)) (λe=>by have h1:b=IB:=e;omega)
       have L7:TellL VB MB EB IB B mo epoch (.slice p6 (L.length+1) c6) (w6.setCell ⟨IB,0,none⟩ (.slice p6 (L.length+1) c6)):=
        ⟨nb VB (by omega) (by omega) _ HL5.out.1,nb MB (by have:=HMB.out;omega) (by have:=HMB.out;omega) _ HL5.out.2.1,nb EB (by have:=HEB.out;omega) (by have:=HEB.out;omega) _ HL5.out.2.2.1,by rw[heap_setCell_row (KQ.heap HL5.out.2.2.2 nq)];rfl⟩
       have own7:=Ks.ownsRow own6 (λb hb e=>by have h1:=(World.ownsRow.lt own6 b hb).1;have h2:b=IB:=e;omega)
       have K7:Keep NoB w (w6.setCell ⟨IB,0,none⟩ (.slice p6 (L.length+1) c6)):=((K05.alloc _).grown hgr6 (λk hk=> .inr (by have h1:=(World.ownsRow.lt own5 k hk).1;omega))).trans Ks (λi hi hs=>by have h1:i=IB:=hs;omega)
       refine⟨⟨_,cnt2,L++ [x],_,Lib.hid hrg7,Lib.hid (by have h:=Hstep.out;simpa using h),Lib.hid L7,Lib.hid (by rw[List.length_append,List.map_append];exact own7),Lib.hid (λe=>by simp at e),Lib.hid ?_,K7⟩,?_⟩
       ·have h1:=Hsz5.out
        have h2:=KQ.size
        have h3:=Ks.size
        omega
       ·rw[hrg7.left_eq,<-Hrg4.out.left_eq]
        exact Hlt4.out
end Go.Proofs.YtnmhgehpddipdaaGreatDoor
namespace Go.Cof
open Go.RowKit Go.Proofs.YtnmhgehpddipdaaGreatDoor
theorem getD_mem{l:List ByteArray}{P:ByteArray->Prop}(h:∀m∈l,P m)(i:Nat)(hi:i<l.length):P (l.getD i ⟨#[]⟩):=by
 rw[List.getD_eq_getElem?_getD,List.getElem?_eq_getElem hi]
 exact h _ (List.getElem_mem _)
theorem applyW_all{P:ByteArray->Prop} :∀(W:List (Nat×ByteArray)) (L:List ByteArray),(∀p∈W,P p.2)->(∀s∈L,P s)->∀s∈applyW L W,P s
 | [],L,_,h,s,hs=>h s hs
 | p::W,L,hW,h,s,hs=>by
  rw[applyW,List.foldl_cons,<-applyW]at hs
  refine applyW_all W (L.set p.1 p.2) (λq hq=>hW q (List.mem_cons_of_mem _ hq)) (λt ht=> ?_) s hs
  rcases List.mem_or_eq_of_mem_set ht with ht|rfl
  ·exact h t ht
  ·exact hW p (List.mem_cons_self ..)
theorem pmarks_small{ver:Int}{W:List (Nat×ByteArray)} :∀p∈(W.map λp=>(p.1,pmarkV p.1 ver p.2)),p.2.size=16:=by
 intro p hp
 obtain⟨q,_,rfl⟩:=List.mem_map.1 hp
 exact pmarkV_size _ _ _
theorem marksTo_16{ver:Int}{marks:List ByteArray}{W:List (Nat×ByteArray)}(h:∀m∈marks,m.size=16):∀m∈marksTo ver marks W,m.size=16:=applyW_all (P:=λm=>m.size=16) _ _ pmarks_small h
theorem marksTo_len(ver:Int)(marks:List ByteArray)(W:List (Nat×ByteArray)):(marksTo ver marks W).length=marks.length:=applyW_len _ _
theorem putTexts_eq(texts:List ByteArray)(W:List (Nat×ByteArray)):putTexts texts W=applyW texts W:=rfl
theorem map_apart{α:Type}(f:Nat×ByteArray->ByteArray){W:List (Nat×ByteArray)}(h:W.Pairwise (λp q=>p.1≠q.1)):(W.map λp=>(p.1,f p)).Pairwise (λp q=>p.1≠q.1):=by
 rw[List.pairwise_map];exact h
theorem wrV_apart{key:ByteArray}{ver:Int}{sides:List Bool}{W:List (Nat×ByteArray)}(h:W.Pairwise (λp q=>p.1≠q.1)):(wrV key ver sides W).Pairwise (λp q=>p.1≠q.1):=by
 rw[wrV,List.pairwise_map]
 exact h.imp λhab e=>hab (placeN_inj e).1
theorem nextV_may{secret:ByteArray}{V:VaultV}{B:List ByteArray}{n:Nat}(h:InvV secret V B n)(hn:n<1000000){ep:Int}(he1:1<=ep)(he2:ep<=n+2)(W:List (Nat×ByteArray)):supMay (skeyV V.secret) (nextV V ep W).now=true:=by
 have h1:(rootV (marksTo (V.now.count+1) V.marks W)).size=16:=rootV_size (by rw[marksTo_len];exact h.marks) (marksTo_16 h.m16)
 have h2:=h.cnt
 have h3:=skeyV_size V.secret
 have h4:1<=V.now.count+1:=by omega
 have h5:V.now.count+1<=1099511627776:=by omega
 have h6:ep<=1099511627776:=by omega
 show(decide ((skeyV V.secret).size=32)&&(decide (1<=V.now.count+1)&&decide (V.now.count+1<=1099511627776)&&decide (1<=ep)&&decide (ep<=1099511627776)&&decide ((rootV (marksTo (V.now.count+1) V.marks W)).size=16)))=true
 rw[decide_eq_true h3,decide_eq_true h4,decide_eq_true h5,decide_eq_true he1,decide_eq_true h6,decide_eq_true h1]
 rfl
theorem inv_next{secret:ByteArray}{V:VaultV}{B:List ByteArray}{n:Nat}(h:InvV secret V B n)(hn:n<1000000){W:List (Nat×ByteArray)}(hW:WOk W){ep:Int}(he:ep=V.now.epoch∨(ep=V.now.epoch+1∧∀i,i<32->∃s,(i,s)∈W)):InvV secret (nextV V ep W) (nextB V B ep W) (n+1):=by
 have hc:=h.cnt
 have hsec:=h.sec
 have e1:1<=ep:=by have:=h.ep1;omega
 have e2:ep<=n+2:=by have:=h.ep2;omega
 have hmid:InvV secret V (midB V B ep W) n:=inv_mixed h (mixed_apply _ _) (wrV_mem hW)
 have hmay:=nextV_may h hn e1 e2 W
 have hsl:(nextV V ep W).now.sides.length=32:=(sidesTo_len _ _).trans h.sides
 have hslot:((V.now.count+1) % 2).toNat<2:=by omega
 have hsz:=supW_size hsl hmay
 have hpl:=hmid.blen
 have hpw:=parse_written (skeyV V.secret) (nextV V ep W).now hsl hmay
 have hpage:∀i,i<32->∀b,(nextB V B ep W).getD (placeN i b) ⟨#[]⟩=(midB V B ep W).getD (placeN i b) ⟨#[]⟩:=λi hi b=>by
  rw[nextB,getD_set,if_neg]
  rintro⟨x,_⟩
  have:=placeN_ge i b
  omega
 refine⟨hsec,h.alive,?_,e1,?_,hsl,(applyW_len _ _).trans h.texts,(marksTo_len _ _ _).trans h.marks,marksTo_16 h.m16,applyW_all (P:=λs=>s.size<=200) _ _ hW.small h.t200,(List.length_set ..).trans hpl,λi hi=> ?_,λi hi=> ?_,λe=>absurd e (by omega),λ_=> ?_,λ_=>rfl,λc hcn=> ?_⟩
 ·show V.now.count+1=_
  omega
 ·show ep<=_
  omega
 ·rw[nextB,getD_set]
  split
  ·exact padB_size _ (by omega)
  ·exact hmid.bsz i hi
 ·show pageOf (keyV secret ep) _ (sidesTo V.now.sides W) i=some ((applyW V.texts W).getD i ⟨#[]⟩,(marksTo (V.now.count+1) V.marks W).getD i ⟨#[]⟩)
  rw[pageOf,hpage i hi]
  by_cases hin:∃s,(i,s)∈W
  ·obtain⟨s,hs⟩:=hin
   have t1:=applyW_in i s W V.texts hW.apart hs (by rw[h.texts];exact hi)
   have t2:=applyW_in i (pmarkV i (V.now.count+1) s) (W.map λp=>(p.1,pmarkV p.1 (V.now.count+1) p.2)) V.marks (map_apart (α:=Nat) _ hW.apart) (List.mem_map.2 ⟨(i,s),hs,rfl⟩) (by rw[h.marks];exact hi)
   have t3:=sidesTo_in i s W V.now.sides hW.apart hs (by rw[h.sides];exact hi)
   have t4:(midB V B ep W).getD (placeN i (!V.now.sides.getD i false)) ⟨#[]⟩=padB (sealV (keyV V.secret ep) i (V.now.count+1) s):=
    applyW_in _ _ _ B (wrV_apart hW.apart) (List.mem_map.2 ⟨(i,s),hs,rfl⟩) (by rw[h.blen];exact placeN_lt hi _)
   rw[t1,marksTo,t2,t3,t4,hsec]
   exact pageAt_seal _ i _ s (by omega) (by omega) (hW.small _ hs)
  ·have hout:∀p∈W,p.1≠i:=λp hp e=>hin ⟨p.2,by rw[<-e];exact hp⟩
   have hep:ep=V.now.epoch:=by
    rcases he with he|⟨_,he⟩
    ·exact he
    ·exact absurd (he i hi) hin
   have t1:=applyW_out V.texts i W V.texts hout
   have t2:=applyW_out V.marks i (W.map λp=>(p.1,pmarkV p.1 (V.now.count+1) p.2)) V.marks (λp hp=>by obtain⟨q,hq,rfl⟩:=List.mem_map.1 hp;exact hout q hq)
   have t3:=sidesTo_out i W V.now.sides hout
   rw[t1,marksTo,t2,t3,hep]
   have:=hmid.pages i hi
   rw[pageOf,hep]at this
   exact this
 ·rw[superV]
  have hb:(nextB V B ep W).getD ((((n+1:Nat):Int)) % 2).toNat ⟨#[]⟩=padB (supW (skeyV V.secret) (nextV V ep W).now):=by
   rw[nextB,getD_set,if_pos ⟨by omega,by omega⟩]
  rw[hb,<-hsec,if_pos ⟨hpw.1,by rw[hpw.2];show V.now.count+1=_;omega⟩,hpw.2]
 ·by_cases hs:(c % 2).toNat=((V.now.count+1) % 2).toNat
  ·have hb:(nextB V B ep W).getD (c % 2).toNat ⟨#[]⟩=padB (supW (skeyV V.secret) (nextV V ep W).now):=by
    rw[nextB,getD_set,if_pos ⟨hs.symm,by omega⟩]
   rw[superV,hb,<-hsec,if_neg]
   rintro⟨_,hx⟩
   rw[hpw.2]at hx
   have hx:V.now.count+1=c:=hx
   omega
  ·have hb:(nextB V B ep W).getD (c % 2).toNat ⟨#[]⟩=(midB V B ep W).getD (c % 2).toNat ⟨#[]⟩:=by
    rw[nextB,getD_set,if_neg (λx=>hs x.1.symm)]
   rw[superV_slot hb]
   exact hmid.old c (by omega)
theorem tell_done{secret:ByteArray}{V:VaultV}{d:DevV}{n:Nat}(h:InvV secret V d.sure n)(hw:d.wait= [])(hn:n<1000000){W:List (Nat×ByteArray)}(hW:WOk W){ep:Int}(he:ep=V.now.epoch∨(ep=V.now.epoch+1∧∀i,i<32->∃s,(i,s)∈W)):
  ((tellV V d n ep W).err=0∧(tellV V d n ep W).n=((n+1:Nat):Int)∧(tellV V d n ep W).v=nextV V ep W∧(tellV V d n ep W).dev.sure=nextB V d.sure ep W∧(tellV V d n ep W).dev.wait= []∧(d.fuse<0->(tellV V d n ep W).dev.fuse=d.fuse))∨
  ((tellV V d n ep W).err=14∧(tellV V d n ep W).n=n∧(tellV V d n ep W).v=dieV V∧0<=d.fuse∧∀keeps,InvV secret V (crashTo (tellV V d n ep W).dev.sure (tellV V d n ep W).dev.wait keeps (tellV V d n ep W).dev.wait.length) n∨InvV secret (nextV V ep W) (crashTo (tellV V d n ep W).dev.sure (tellV V d n ep W).dev.wait keeps (tellV V d n ep W).dev.wait.length) (n+1)):=by
 have hc:=h.cnt
 have hnext:=inv_next h hn hW he
 have hmid:InvV secret V (midB V d.sure ep W) n:=inv_mixed h (mixed_apply _ _) (wrV_mem hW)
 have hmay:=nextV_may h hn (ep:=ep) (by have:=h.ep1;omega) (by have:=h.ep2;omega) W
 obtain⟨k,hk⟩:=tellTo_is (keyV V.secret ep) (V.now.count+1) W ⟨V.now.sides,V.marks,d⟩ hW.apart
 obtain⟨r,hr⟩:∃r,r=tellTo (keyV V.secret ep) (V.now.count+1) W ⟨V.now.sides,V.marks,d⟩:=⟨_,rfl⟩
 rw[<-hr]at hk
 obtain⟨st,ok⟩:=r
 have hfail:∀(t:Told1),t=tell1V V.secret ⟨V.now.count+1,ep,V.now.sides,V.now.root⟩ V.marks d W->t.err=14->0<=d.fuse->(∀keeps,InvV secret V (crashTo t.dev.sure t.dev.wait keeps t.dev.wait.length) n∨InvV secret (nextV V ep W) (crashTo t.dev.sure t.dev.wait keeps t.dev.wait.length) (n+1))->
   ((tellV V d n ep W).err=14∧(tellV V d n ep W).n=n∧(tellV V d n ep W).v=dieV V∧0<=d.fuse∧∀keeps,InvV secret V (crashTo (tellV V d n ep W).dev.sure (tellV V d n ep W).dev.wait keeps (tellV V d n ep W).dev.wait.length) n∨InvV secret (nextV V ep W) (crashTo (tellV V d n ep W).dev.sure (tellV V d n ep W).dev.wait keeps (tellV V d n ep W).dev.wait.length) (n+1)):=by
  intro t ht h14 hf hkk
  rw[tellV_err ht (by rw[h14];decide)]
  exact⟨h14,rfl,rfl,hf,hkk⟩
 have hpart:∀keeps,InvV secret V (crashTo st.dev.sure st.dev.wait keeps st.dev.wait.length) n:=λkeeps=>by
  have hs:st.dev.sure=d.sure:=hk.sure
  have hwt:st.dev.wait=wrV (keyV V.secret ep) (V.now.count+1) V.now.sides (W.take k):=by rw[hk.wait,hw];rfl
  rw[hs,hwt]
  exact inv_mixed h (mixed_crash _ _ keeps _ (Nat.le_refl _)) (wrV_mem (hW.take k))
 have hneg:0<=d.fuse∨d.fuse<0:=by omega
 cases ok with
 | false=>
  right
  have hf:0<=d.fuse:=by
   rcases hneg with h1|h1
   ·exact h1
   ·have:=(hk.free h1).1;cases this
  exact hfail _ (tell1V_stop (secret:=V.secret) (x0:=⟨V.now.count+1,ep,V.now.sides,V.now.root⟩) (marks:=V.marks) (d:=d) (W:=W) hr.symm).symm rfl hf λkeeps=> .inl (hpart keeps)
 | true=>
  have hkW:k=W.length:=hk.all rfl
  rw[hkW]at hk
  have hkw:=hk.wait
  have hks:=hk.sides
  have hkm:=hk.marks
  rw[List.take_length]at hkw hks hkm
  have hfz:st.dev.fuse=0->0<=d.fuse:=λh0=>by
   rcases hneg with h1|h1
   ·exact h1
   ·have h2:st.dev.fuse=d.fuse:=(hk.free h1).2
    omega
  have hfn:d.fuse<0->st.dev.fuse=d.fuse:=λh1=>(hk.free h1).2
  have hs:st.dev.sure=d.sure:=hk.sure
  have hwt:st.dev.wait=wrV (keyV V.secret ep) (V.now.count+1) V.now.sides W:=by rw[hkw,hw];rfl
  have hsy:st.dev.sync.sure=midB V d.sure ep W:=by show applyW st.dev.sure st.dev.wait=_;rw[hs,hwt];rfl
  have hsw:st.dev.sync.wait= []:=rfl
  have hsf:st.dev.sync.fuse=burnt st.dev.fuse:=rfl
  have hx:(⟨V.now.count+1,ep,st.sides,rootV st.marks⟩:SupV)=(nextV V ep W).now:=by rw[hks,hkm];rfl
  by_cases h1:st.dev.fuse=0
  ·right
   exact hfail _ (tell1V_a (secret:=V.secret) (x0:=⟨V.now.count+1,ep,V.now.sides,V.now.root⟩) (marks:=V.marks) (d:=d) (W:=W) hr.symm h1).symm rfl (hfz h1) λkeeps=> .inl (hpart keeps)
  have h2:supMay (skeyV V.secret) ⟨V.now.count+1,ep,st.sides,rootV st.marks⟩=true:=by rw[hx];exact hmay
  by_cases h3:st.dev.sync.fuse=0
  ·right
   refine hfail _ (tell1V_c (secret:=V.secret) (x0:=⟨V.now.count+1,ep,V.now.sides,V.now.root⟩) (marks:=V.marks) (d:=d) (W:=W) hr.symm h1 h2 h3).symm rfl ?_ λkeeps=> .inl ?_
   ·rcases hneg with h4|h4
    ·exact h4
    ·have:=hfn h4
     rw[hsf]at h3
     unfold burnt at h3
     split at h3<;>omega
   ·show InvV secret V (crashTo st.dev.sync.sure st.dev.sync.wait keeps 0) n
    rw[hsy]
    exact hmid
  obtain⟨d3,hd3⟩:∃d3,d3=st.dev.sync.put ((V.now.count+1) % 2).toNat (supW (skeyV V.secret) ⟨V.now.count+1,ep,st.sides,rootV st.marks⟩):=⟨_,rfl⟩
  have hd3s:d3.sure=midB V d.sure ep W:=by rw[hd3];exact hsy
  have hd3w:d3.wait= [(((V.now.count+1) % 2).toNat,padB (supW (skeyV V.secret) (nextV V ep W).now))]:=by rw[hd3,<-hx];rfl
  have hd3f:d3.fuse=burnt (burnt st.dev.fuse):=by rw[hd3];rfl
  by_cases h4:d3.fuse=0
  ·right
   refine hfail _ (tell1V_d (secret:=V.secret) (x0:=⟨V.now.count+1,ep,V.now.sides,V.now.root⟩) (marks:=V.marks) (d:=d) (W:=W) hr.symm h1 h2 h3 (by rw[<-hd3];exact h4)).symm rfl ?_ λkeeps=> ?_
   ·rcases hneg with h5|h5
    ·exact h5
    ·have:=hfn h5
     rw[hd3f]at h4
     unfold burnt at h4
     split at h4<;>(try split at h4)<;>omega
   ·show InvV secret V (crashTo (DevV.put _ _ _).sure (DevV.put _ _ _).wait keeps (DevV.put _ _ _).wait.length) n∨InvV secret _ (crashTo (DevV.put _ _ _).sure (DevV.put _ _ _).wait keeps (DevV.put _ _ _).wait.length) (n+1)
    rw[<-hd3,hd3s,hd3w]
    show InvV secret V (crashTo _ [_] keeps 1) n∨InvV secret _ (crashTo _ [_] keeps 1) (n+1)
    rw[crashTo]
    split
    ·right;exact hnext
    ·left;exact hmid
  ·left
   have ht:=(tell1V_e (secret:=V.secret) (x0:=⟨V.now.count+1,ep,V.now.sides,V.now.root⟩) (marks:=V.marks) (d:=d) (W:=W) hr.symm h1 h2 h3 (by rw[<-hd3];exact h4)).symm
   rw[tellV_ok ht rfl (by omega)]
   refine⟨rfl,(show V.now.count+1=_ by omega),?_,?_,rfl,λh5=> ?_⟩
   ·show(⟨V.secret,⟨V.now.count+1,ep,st.sides,rootV st.marks⟩,putTexts V.texts W,st.marks,V.dead⟩:VaultV)=_
    rw[hx,hkm];rfl
   ·show applyW (DevV.put _ _ _).sure (DevV.put _ _ _).wait=_
    rw[<-hd3,hd3s,hd3w];rfl
   ·show burnt (DevV.put _ _ _).fuse=_
    rw[<-hd3,hd3f]
    have:=hfn h5
    unfold burnt
    repeat(first|(rw[if_neg (by omega)])|omega)
end Go.Cof
namespace Go.Proofs.YtnmhgehpddipdaaGreatDoor
open Go.RowKit Go.Cof
def TellF(VB B id:Nat)(t:ByteArray)(w:World):Prop:=w.cell? ⟨VB,0,none⟩=some (.pointer (some ⟨B,0,none⟩))∧w.cell? ⟨B,38+id,none⟩=some (.string t)
set_option maxRecDepth 100000
set_option maxHeartbeats 4000000 in
theorem tellOther_any{w:World}{B D C VB:Nat}{V:VaultV}(h:VaultAt w B D C V)(hv:w.cell? ⟨VB,0,none⟩=some (.pointer (some ⟨B,0,none⟩)))(id:Nat)(hid:id<32)(s:ByteArray):
  Calls Tryz.prog 88 #[.int .i64 id,.string s,.pointer (some ⟨VB,0,none⟩)] w λe w'=>e= .returned (.bool (!(s.toList==(V.texts.getD id ⟨#[]⟩).toList)))∧Keep NoB w w':=by
 obtain⟨t,ht⟩:∃t,t=V.texts.getD id ⟨#[]⟩:=⟨_,rfl⟩
 have L1:TellF VB B id t w:=⟨hv,by rw[ht];exact h.text id hid⟩
 rw[<-ht]
 clear ht
 have jid:(id:Int)<32:=by omega
 have q1:∀y:InC (TellF VB B id t),y.w.cell? ⟨VB,0,none⟩=some (.pointer (some ⟨B,0,none⟩)):=λy=>y.h.1
 have q2:∀y:InC (TellF VB B id t),y.w.cell? ⟨B,38+id,none⟩=some (.string t):=λy=>y.h.2
 go_enter Tryz.func88,Tryz.ntmps88
 have c1:=L1.1
 have c2:=L1.2
 clear q1 q2 L1
 go_wp2_with fail
 go_ret
 exact⟨rfl,(Keep.refl NoB w)⟩
def TellG(VB B:Nat)(ep:Int)(w:World):Prop:=w.cell? ⟨VB,0,none⟩=some (.pointer (some ⟨B,0,none⟩))∧w.cell? ⟨B,4,none⟩=some (.int .i64 ep)
theorem TellSaid.ret{w w':World}{B D C S:Nat}{V:VaultV}{wv:Value}{d:DevV}{n epoch:Int}{M:List Entry}{o:Entry->Bool}{e:Ending}(h:TellSaid w w' B D C S V wv d n epoch M o e):∃v,e= .returned v:=by
 rcases h with⟨_,h,_⟩|⟨_,_,⟨h,_⟩|⟨h,_⟩,_⟩|⟨_,_,h,_⟩<;>exact⟨_,h⟩
theorem TellSaid.back{w0 w w':World}{B D C S:Nat}{V:VaultV}{wv:Value}{d:DevV}{n epoch:Int}{M:List Entry}{o:Entry->Bool}{e:Ending}(h:TellSaid w w' B D C S V wv d n epoch M o e)(hs:w0.heap.size<=w.heap.size):TellSaid w0 w' B D C S V wv d n epoch M o e:=by
 rcases h with h|h|⟨h1,h2,h3,h4,⟨wv',h5,h6⟩,h7⟩
 ·exact .inl h
 ·exact .inr (.inl h)
 ·exact .inr (.inr ⟨h1,h2,h3,h4,⟨wv',h5,moved_trans (moved_refl w0 wv) h6 hs⟩,h7⟩)
def otherE(V:VaultV)(p:Entry):Bool:= !(p.2.toList==(V.texts.getD p.1.toNat ⟨#[]⟩).toList)
set_option maxRecDepth 100000
set_option maxHeartbeats 4000000 in
theorem tellTop_any{w:World}{B D C S:Nat}{V:VaultV}{wv:Value}{d:DevV}{n:Int}{mo:Option Nat}{nm:Nat}{M:List Entry}
  (h:VaultAt w B D C V) (hd:DevIs w D S wv d) (hc:CountAt w C n) (hm:MapO w mo nm M) (hnm:nm<=1000) (hcnt0:0<=V.now.count) (hcnt1:V.now.count<1099511627776) (hdw:d.wait.length<=800000) (hsec:V.secret.size<=1000) (hm16:∀m∈V.marks,m.size=16) (R:RoundsVar w) (hR:∀b,DevB D S wv b->b≠5):
  Calls Tryz.prog 40 #[.pointer (some ⟨B,0,none⟩),.map mo] w λe w'=>TellSaid w w' B D C S V wv d n V.now.epoch M (otherE V) e∧Keep (λb=>DevB D S wv b∨b=B∨b=C) w w':=by
 obtain⟨VB,hVB⟩:∃b,b=w.heap.size:=⟨_,rfl⟩
 go_enter Tryz.func40,Tryz.ntmps40
 go_upto_region 1 with(fail)
 have r1:=heap_alloc_new w (.cells #[.pointer (some ⟨B,0,none⟩)] 78)
 have K1:Keep NoB w (w.alloc (.cells #[.pointer (some ⟨B,0,none⟩)] 78)):=(Keep.refl _ _).alloc _
 rw[<-hVB]at r1⊢
 obtain⟨w1,hw1⟩:∃w1,w1=w.alloc (.cells #[.pointer (some ⟨B,0,none⟩)] 78):=⟨_,rfl⟩
 rw[<-hw1]at r1 K1⊢
 have h1:=h.keep K1 (λx=>x)
 have c1:w1.cell? ⟨VB,0,none⟩=some (.pointer (some ⟨B,0,none⟩)):=by rw[cell_of_row _ _ _ _ _ (0,0) r1];rfl
 have hcall:=λ(eg:∀args w,(callFunc 88 args).run Tryz.prog w= .ok (.enter 88 args) w) (W:World) (KW:Keep NoB w1 W)=>
  vaultTell_any (w:=W) V.now.epoch 88 #[.pointer (some ⟨VB,0,none⟩)] (otherE V) (h1.keep KW (λx=>x)) (hd.keep (K1.thenN KW) (λ_ _ x=>x)) (hc.keep (K1.thenN KW) (λx=>x)) (hm.keep (K1.thenN KW)) hnm hcnt0 hcnt1 hdw hsec hm16 eg (λp hp hb W' KW'=>by
   simp only[badE,farE,wideE,Bool.or_eq_false_iff,decide_eq_false_iff_not]at hb
   obtain⟨i,hi⟩:∃i:Nat,p.1=i:=⟨p.1.toNat,by omega⟩
   have h3:=tellOther_any (h1.keep (KW.thenN KW') (λx=>x)) (((KW.thenN KW').cell (p:=⟨VB,0,none⟩) (block_lt_of_cell c1) (λx=>x)).trans c1) i (by omega) p.2
   rw[otherE,hi]
   exact h3) (R.keep (K1.thenN KW) (λx=>x)) hR
 have L1:TellG VB B V.now.epoch w1:=⟨c1,h1.epoch⟩
 obtain⟨ep,hep⟩:∃e,e=V.now.epoch:=⟨_,rfl⟩
 rw[<-hep]at hcall L1
 have Hep:=Lib.hid hep
 clear hep
 have Hcall:=Lib.hid hcall
 have hVn:¬(DevB D S wv VB∨VB=B∨VB=C):=by
  have:=h.lt
  have:=lt_of_heap hc
  rintro(h2|h2|h2)
  ·have:=devB_lt hd VB h2;omega
  ·omega
  ·omega
 have HVn:=Lib.hid hVn
 have HK1:=Lib.hid K1
 have q1:∀y:InC (λW':World=>W'.cell? ⟨VB,0,none⟩=some (.pointer (some ⟨B,0,none⟩))),y.w.cell? ⟨VB,0,none⟩=some (.pointer (some ⟨B,0,none⟩)):=λy=>y.h
 have q2:∀y:InC (λW':World=>W'.cell? ⟨B,4,none⟩=some (.int .i64 ep)),y.w.cell? ⟨B,4,none⟩=some (.int .i64 ep):=λy=>y.h
 have Lc:=Lib.hid L1
 clear hcall hw1 r1 c1 h1 h hd hc hm R hVB hVn K1 L1
 refine wp_region_mixb 8 (λW':World=>W'.cell? ⟨VB,0,none⟩=some (.pointer (some ⟨B,0,none⟩))) (λW':World=>W'.cell? ⟨B,4,none⟩=some (.int .i64 ep)) [(2,0),(2,1),(2,2),(2,3),(2,4),(2,5),(1,6),(2,7),(0,8),(0,9)] (by kernel_rfl) (by kernel_rfl) (λc a d v w h=>by cases d<;>exact h) ?_
 simp only[wpMixB,pickL,List.getElem?_toArray,List.getElem?_cons_succ,List.getElem?_cons_zero]
 repeat(refine wpEarlyC_step (λK hK=> ?_);go_simp;first|(refine⟨_,λ_=>rfl,hK _ ?_⟩;clear hK K;refine wpEarlyC_nil ?_)|(refine hK _ ?_;clear hK K;refine wpEarlyC_nil ?_))
 clear q1 q2
 refine⟨Lc.out.1,λ_=>Lc.out.2,?_⟩
 go_wp2_with fail
 refine(Hcall.out (λ_ _=>rfl) w1.drew (Keep.refl NoB w1).drew).mono ?_
 rintro e w2 ⟨hs,K2⟩
 obtain⟨v,rfl⟩:=hs.ret
 have K02:=HK1.out.ofN.trans ((Keep.refl NoB w1).drew.ofN.trans K2 (λi hi hs=>hs)) (λi hi hs=>hs)
 have c2:w2.cell? ⟨VB,0,none⟩=some (.pointer (some ⟨B,0,none⟩)):=(K2.cell (p:=⟨VB,0,none⟩) (block_lt_of_cell Lc.out.1) HVn.out).trans Lc.out.1
 have hs2:=hs.back (w0:=w) HK1.out.size
 have Hs2:=Lib.hid hs2
 clear hs hs2 K2
 go_wp2_with fail
 simp only[wpMixB,pickL,List.getElem?_toArray,List.getElem?_cons_succ,List.getElem?_cons_zero]
 refine⟨c2,λh=>(by cases h),?_⟩
 go_wp2_with fail
 go_ret
 rw[<-Hep.out]
 exact⟨Hs2.out,K02⟩
end Go.Proofs.YtnmhgehpddipdaaGreatDoor
namespace Go.Cof
open Go.RowKit Go.Proofs.YtnmhgehpddipdaaGreatDoor
def pagesM(T:List ByteArray)(k:Nat):List Entry:=(List.range k).map λ(i:Nat)=>(((i:Nat):Int),T.getD i ⟨#[]⟩)
theorem insert_last(x:Lit×DataW Unit):∀l:List (Lit×DataW Unit),(∀p∈l,x.1.before p.1=false)->DataW.insert x l=l++ [x]
 | [],_=>rfl
 | p::l,h=>by
  rw[DataW.insert,h p (List.mem_cons_self ..),if_neg (by decide),insert_last x l λq hq=>h q (List.mem_cons_of_mem _ hq)]
  rfl
theorem pagesM_put(T:List ByteArray)(k:Nat):(encM (pagesM T k)).put (.int .i64 k) (.lit (.string (T.getD k ⟨#[]⟩).data.toList))=encM (pagesM T (k+1)):=by
 have hlt:∀p∈(pagesM T k).map encE,∃i:Nat,i<k∧p.1= .int .i64 i:=by
  intro p hp
  obtain⟨q,hq,rfl⟩:=List.mem_map.1 hp
  obtain⟨i,hi,rfl⟩:=List.mem_map.1 hq
  exact⟨i,List.mem_range.1 hi,rfl⟩
 have hf:((pagesM T k).map encE).filter (λp=> !p.1.sameKey (.int .i64 k))=(pagesM T k).map encE:=by
  rw[List.filter_eq_self]
  intro p hp
  obtain⟨i,hi,he⟩:=hlt p hp
  rw[he]
  show(!decide (IntKind.i64=IntKind.i64∧(i:Int)=k))=true
  simp;omega
 unfold DataW.put encM
 simp only[hf]
 rw[insert_last _ _ λp hp=>by
  obtain⟨i,hi,he⟩:=hlt p hp
  rw[he]
  show decide ((k:Int)<i)=false
  simp;omega]
 rw[show pagesM T (k+1)=pagesM T k++ [((k:Int),T.getD k ⟨#[]⟩)]by rw[pagesM,List.range_succ,List.map_append];rfl,List.map_append]
 rfl
end Go.Cof
namespace Go.Proofs.YtnmhgehpddipdaaGreatDoor
open Go.RowKit Go.Cof
set_option maxRecDepth 100000
end Go.Proofs.YtnmhgehpddipdaaGreatDoor
namespace Go.Cof
open Go.RowKit Go.Proofs.YtnmhgehpddipdaaGreatDoor
theorem ext_getD{α:Type}(d:α){a b:List α}(hl:a.length=b.length)(h:∀i,i<a.length->a.getD i d=b.getD i d):a=b:=by
 apply List.ext_getElem hl
 intro i h1 h2
 have:=h i h1
 simpa [List.getD_eq_getElem?_getD,h1,h2]using this
theorem pagesOf_ok{M:List Entry}{o:Entry->Bool}(hp:M.Pairwise (λp q=>p.1≠q.1))(hg:∀p∈M,badE p=false):WOk (pagesOf M o):=by
 refine⟨λq hq=>(pagesOf_mem hp hg q hq).2.2.1,λq hq=>(pagesOf_mem hp hg q hq).2.2.2,?_⟩
 have h1:((M.filter o).map (·.1)).Pairwise (λa b=>a≠b):=by
  rw[List.pairwise_map];exact hp.filter o
 have h2:(sortI ((M.filter o).map (·.1))).Pairwise (λa b=>a≠b):=((List.mergeSort_perm _ _).pairwise_iff (λh=>Ne.symm h)).2 h1
 rw[<-pagesOf_ids hg,List.pairwise_map]at h2
 exact h2.imp λh e=>h (by rw[e])
theorem pagesOf_in{M:List Entry}{o:Entry->Bool}(hp:M.Pairwise (λp q=>p.1≠q.1)){i:Nat}{s:ByteArray}(hm:((i:Int),s)∈M)(ho:o ((i:Int),s)=true):(i,s)∈pagesOf M o:=by
 refine List.mem_map.2 ⟨(i:Int),(List.mergeSort_perm _ _).mem_iff.2 (List.mem_map.2 ⟨((i:Int),s),List.mem_filter.2 ⟨hm,ho⟩,rfl⟩),?_⟩
 rw[getM_mem hp hm]
 rfl
theorem pagesOf_out{M:List Entry}{o:Entry->Bool}(hp:M.Pairwise (λp q=>p.1≠q.1))(hg:∀p∈M,badE p=false){i:Nat}(h:∀s,((i:Int),s)∈M->o ((i:Int),s)=false):∀q∈pagesOf M o,q.1≠i:=by
 intro q hq e
 have h1:=(pagesOf_mem hp hg q hq).1
 obtain⟨p,hpf,he⟩:=List.mem_map.1 h1
 have h2:=List.mem_filter.1 hpf
 have h3:p=((i:Int),p.2):=Prod.ext (by rw[he,e]) rfl
 have h4:=h p.2 (by rw[<-h3];exact h2.1)
 rw[<-h3,h2.2]at h4
 cases h4
def textsOf(T:List ByteArray)(M:List Entry):List ByteArray:=(List.range 32).map λ(i:Nat)=>(getM M (i:Int)).getD (T.getD i ⟨#[]⟩)
theorem textsOf_len(T:List ByteArray)(M:List Entry):(textsOf T M).length=32:=by simp[textsOf]
theorem textsOf_at(T:List ByteArray)(M:List Entry)(i:Nat)(hi:i<32):(textsOf T M).getD i ⟨#[]⟩=(getM M (i:Int)).getD (T.getD i ⟨#[]⟩):=by
 rw[textsOf,List.getD_eq_getElem?_getD,List.getElem?_map,List.getElem?_range hi];rfl
theorem putTexts_of{T:List ByteArray}{M:List Entry}{o:Entry->Bool}(hT:T.length=32)(hp:M.Pairwise (λp q=>p.1≠q.1))(hg:∀p∈M,badE p=false)(ho:∀(i:Nat) (s:ByteArray),((i:Int),s)∈M->o ((i:Int),s)=false->s=T.getD i ⟨#[]⟩):putTexts T (pagesOf M o)=textsOf T M:=by
 refine ext_getD ⟨#[]⟩ ((applyW_len _ _).trans (hT.trans (textsOf_len T M).symm)) λi hi=> ?_
 have hi:i<32:=by rw[putTexts_eq,applyW_len,hT]at hi;exact hi
 rw[textsOf_at T M i hi,putTexts_eq]
 cases hk:getM M (i:Int)with
 | none=>
  rw[applyW_out T i _ T (pagesOf_out hp hg λs hs=>by rw[getM_mem hp hs]at hk;cases hk)]
  rfl
 | some s=>
  have hm:=mem_getM hk
  cases hos:o ((i:Int),s)with
  | true=>rw[applyW_in i s _ T (pagesOf_ok hp hg).apart (pagesOf_in hp hm hos) (by rw[hT];exact hi)];rfl
  | false=>
   rw[applyW_out T i _ T (pagesOf_out hp hg λs' hs'=> ?_)]
   ·rw[<-ho i s hm hos];rfl
   ·have h1:=getM_mem hp hs'
    rw[hk]at h1
    rw[<-Option.some.inj h1];exact hos
theorem other_false{V:VaultV}{i:Nat}{s:ByteArray}(h:otherE V ((i:Int),s)=false):s=V.texts.getD i ⟨#[]⟩:=by
 simp only[otherE,Bool.not_eq_false',beq_iff_eq]at h
 rw[show((i:Int)).toNat=i from rfl]at h
 exact bs_inj (by rw[bs,bs,<-ByteArray.toList_eq,<-ByteArray.toList_eq,h])
theorem pagesM_mem{T:List ByteArray}{k:Nat}{p:Entry} :p∈pagesM T k↔∃i:Nat,i<k∧p=((i:Int),T.getD i ⟨#[]⟩):=by
 rw[pagesM,List.mem_map]
 constructor
 ·rintro⟨i,hi,rfl⟩;exact⟨i,List.mem_range.1 hi,rfl⟩
 ·rintro⟨i,hi,rfl⟩;exact⟨i,List.mem_range.2 hi,rfl⟩
theorem pagesM_apart(T:List ByteArray)(k:Nat):(pagesM T k).Pairwise (λp q=>p.1≠q.1):=by
 rw[pagesM,List.pairwise_map]
 exact List.nodup_range.imp λh e=>h (by exact Int.ofNat.inj e)
theorem pagesM_good{T:List ByteArray}(ht:∀s∈T,s.size<=200)(hT:T.length=32):∀p∈pagesM T 32,badE p=false:=by
 intro p hp
 obtain⟨i,hi,rfl⟩:=pagesM_mem.1 hp
 have h2:=getD_mem (P:=λs=>s.size<=200) ht i (by rw[hT];exact hi)
 simp only[badE,farE,wideE,Bool.or_eq_false_iff,decide_eq_false_iff_not]
 omega
end Go.Cof
namespace Go.Proofs.YtnmhgehpddipdaaGreatDoor
open Go.RowKit Go.Cof
def VB(B D C S:Nat)(wv:Value):Nat->Prop:=λb=>DevB D S wv b∨b=B∨b=C
structure VN(w0 w:World)(B D C S:Nat)(wv:Value)(V:VaultV)(d:DevV)(n:Int):Prop where
 vault:VaultAt w B D C V
 dev:DevIs w D S wv d
 cnt:CountAt w C n
 own:∀b,VB B D C S wv b->w0.heap.size<=b
 keep:Keep NoB w0 w
section
variable {w0 w w':World}{B D C S:Nat}{wv wv':Value}{V V':VaultV}{d d':DevV}{n n':Int}
theorem VN.lt(h:VN w0 w B D C S wv V d n):∀b,VB B D C S wv b->b<w.heap.size:=by
 rintro b (hb|rfl|rfl)
 ·exact devB_lt h.dev b hb
 ·exact h.vault.lt
 ·exact lt_of_heap h.cnt
theorem VN.keepN(h:VN w0 w B D C S wv V d n)(hk:Keep NoB w w'):VN w0 w' B D C S wv V d n:=
 ⟨h.vault.keep hk (λx=>x),h.dev.keep hk (λ_ _ x=>x),h.cnt.keep hk (λx=>x),h.own,h.keep.thenN hk⟩
theorem VN.out(h:VN w0 w B D C S wv V d n){X:Nat->Prop}(hk:Keep X w w')(hn:∀b,VB B D C S wv b->¬X b)(hx:∀b,b<w0.heap.size->¬X b):VN w0 w' B D C S wv V d n:=
 ⟨h.vault.keep hk (hn B (.inr (.inl rfl))),h.dev.keep hk (λb hb=>hn b (.inl hb)),h.cnt.keep hk (hn C (.inr (.inr rfl))),h.own,h.keep.trans hk (λi hi hs=>absurd hs (hx i hi))⟩
theorem vb_moved(h:Moved w wv wv'):∀b,VB B D C S wv' b->VB B D C S wv b∨w.heap.size<=b:=by
 rintro b ((rfl|rfl|hb)|rfl|rfl)
 ·exact .inl (.inl (.inl rfl))
 ·exact .inl (.inl (.inr (.inl rfl)))
 ·rcases h with h|h
  ·exact .inl (.inl (.inr (.inr (h▸hb))))
  ·exact .inr (h b hb)
 ·exact .inl (.inr (.inl rfl))
 ·exact .inl (.inr (.inr rfl))
theorem VN.step(h:VN w0 w B D C S wv V d n)(hv:VaultAt w' B D C V')(hd:DevIs w' D S wv' d')(hc:CountAt w' C n')(hm:Moved w wv wv')(hk:Keep (VB B D C S wv) w w'):VN w0 w' B D C S wv' V' d' n':=
 ⟨hv,hd,hc,λb hb=>by
  rcases vb_moved hm b hb with hb|hb
  ·exact h.own b hb
  ·exact Nat.le_trans h.keep.size hb,h.keep.trans hk (λi hi hs=>by have:=h.own i hs;omega)⟩
theorem VN.rounds(h:VN w0 w B D C S wv V d n)(R:RoundsVar w0):∀b,DevB D S wv b->b≠5:=by
 intro b hb e
 have h1:=h.own b (.inl hb)
 have h2:=block_lt_of_cell (R 0 (by decide))
 rw[e]at h1
 have:(5:Nat)<w0.heap.size:=h2
 omega
def ToldN(w0 w w':World)(B D C S:Nat)(wv:Value)(secret:ByteArray)(V:VaultV)(d:DevV)(n:Nat)(ep:Int)(W:List (Nat×ByteArray))(e:Ending):Prop:=
 ∃wv' d',Moved w wv wv'∧((e= .returned .nilIface∧VN w0 w' B D C S wv' (nextV V ep W) d' ((n+1:Nat):Int)∧InvV secret (nextV V ep W) d'.sure (n+1)∧d'.sure=nextB V d.sure ep W∧d'.wait= []∧(d.fuse<0->d'.fuse=d.fuse))∨
  (e= .returned (errVal 14)∧VN w0 w' B D C S wv' (dieV V) d' n∧0<=d.fuse∧∀keeps,InvV secret V (crashTo d'.sure d'.wait keeps d'.wait.length) n∨InvV secret (nextV V ep W) (crashTo d'.sure d'.wait keeps d'.wait.length) (n+1)))
theorem told_of(h:VN w0 w B D C S wv V d n'){n:Nat}(hn':n'=n){secret:ByteArray}(hi:InvV secret V d.sure n)(hw:d.wait= [])(hn:n<1000){M:List Entry}{o:Entry->Bool}{ep:Int}(hp:M.Pairwise (λp q=>p.1≠q.1))(hg:∀p∈M,badE p=false)(he:ep=V.now.epoch∨(ep=V.now.epoch+1∧∀i,i<32->∃s,(i,s)∈pagesOf M o)){e:Ending}
  (hs:TellSaid w w' B D C S V wv d n' ep M o e) (hk:Keep (VB B D C S wv) w w'):ToldN w0 w w' B D C S wv secret V d n ep (pagesOf M o) e:=by
 subst hn'
 rcases hs with⟨hd,_⟩|⟨_,⟨p,hpm,hb⟩,_⟩|⟨_,_,he',hv,⟨wv',hdv,hm⟩,hc⟩
 ·rw[hi.alive]at hd;cases hd
 ·rw[hg p hpm]at hb;cases hb
 ·rcases tell_done hi hw (by omega) (pagesOf_ok hp hg) he with⟨h1,h2,h3,h4,h5,h6⟩|⟨h1,h2,h3,h4,h5⟩
  ·rw[h1]at he'
   rw[h3]at hv
   rw[h2]at hc
   refine⟨wv',_,hm,.inl ⟨he',h.step hv hdv hc hm hk,?_,h4,h5,h6⟩⟩
   rw[h4]
   exact inv_next hi (by omega) (pagesOf_ok hp hg) he
  ·rw[h1]at he'
   rw[h3]at hv
   rw[h2]at hc
   exact⟨wv',_,hm,.inr ⟨he',h.step hv hdv hc hm hk,h4,h5⟩⟩
theorem tell_vn(h:VN w0 w B D C S wv V d n'){n:Nat}(hn':n'=n){secret:ByteArray}(hi:InvV secret V d.sure n)(hw:d.wait= [])(hn:n<1000)(hsec:secret.size<=1000)(R:RoundsVar w0){mb nm:Nat}{M:List Entry}(hm:MapIs w mb nm M)(hnm:nm<=1000)(hg:∀p∈M,badE p=false):
  Calls Tryz.prog 40 #[.pointer (some ⟨B,0,none⟩),.map (some mb)] w λe w'=>ToldN w0 w w' B D C S wv secret V d n V.now.epoch (pagesOf M (otherE V)) e∧Keep (VB B D C S wv) w w':=by
 have hc:=hi.cnt
 refine(tellTop_any (mo:=some mb) h.vault h.dev h.cnt hm hnm (by omega) (by omega) (by rw[hw];simp) (by rw[hi.sec];exact hsec) hi.m16 (R.keep h.keep (λx=>x)) (h.rounds R)).mono ?_
 rintro e w' ⟨hs,hk⟩
 exact⟨told_of h hn' hi hw hn (MapIs.pairs hm) hg (.inl rfl) hs hk,hk⟩
theorem open_vn(hd:DevIs w D S wv d)(hk:Keep NoB w0 w)(hown:∀b,DevB D S wv b∨b=C->w0.heap.size<=b){n:Nat}(hc:CountAt w C n)(hn:n<1000000)(hb:∀i,i<66->(d.now.getD i ⟨#[]⟩).size=256){secret:ByteArray}(hs:secret.size=16)(R:RoundsVar w0){V:VaultV}{m:Int}(ho:openV secret d.now n=some (V,m)):
  Calls Tryz.prog 31 #[.pointer (some ⟨D,0,none⟩),.pointer (some ⟨C,0,none⟩),.string secret] w λe w'=>(∃B,w.heap.size<=B∧e= .returned (.tuple #[.pointer (some ⟨B,0,none⟩),.nilIface])∧VN w0 w' B D C S wv V d m)∧Keep (OneB C) w w':=by
 refine(vaultOpen_any hd hb n (by omega) hc secret hs (R.keep hk (λx=>x))).mono ?_
 rintro e w' ⟨hs,hk'⟩
 rw[ho]at hs
 obtain⟨B,he,hB,hv,hc'⟩:=hs
 refine⟨⟨B,hB,he,hv,hd.keep hk' (λb hb e=>by cases e;exact devB_count hd hc hb),hc',?_,hk.trans hk' (λi hi e=>by cases e;have:=hown C (.inr rfl);omega)⟩,hk'⟩
 rintro b (hb|rfl|rfl)
 ·exact hown b (.inl hb)
 ·exact Nat.le_trans hk.size hB
 ·exact hown b (.inr rfl)
end
set_option maxRecDepth 100000
end Go.Proofs.YtnmhgehpddipdaaGreatDoor
namespace Go.Cof
open Go.RowKit Go.Proofs.YtnmhgehpddipdaaGreatDoor
def secB:ByteArray:=⟨#[48,49,50,51,52,53,54,55,56,57,97,98,99,100,101,102]⟩
theorem sure0_at(i:Nat)(hi:i<66):sure0.getD i ⟨#[]⟩=zeroB:=by
 rw[sure0,List.getD_eq_getElem?_getD,List.getElem?_replicate,if_pos hi];rfl
end Go.Cof
namespace Go.Proofs.YtnmhgehpddipdaaGreatDoor
open Go.RowKit Go.Cof
structure LaidSt(w0 w:World)(B D C S:Nat)(wv:Value)(V:VaultV)(sure:List ByteArray)(n:Nat)(hv:Value)(hvs:List Value)(H:List (List ByteArray))(iv:Value)(ivs:List Value)(I:List (List ByteArray)):Prop where
 vn:VN w0 w B D C S wv V ⟨sure,[],-1⟩ n
 had:Rows2 w w0.heap.size 26 hv hvs H
 img:Rows2 w w0.heap.size 26 iv ivs I
 h1:∀b,ListsB hv hvs H b->¬VB B D C S wv b∧¬ListsB iv ivs I b
 i1:∀b,ListsB iv ivs I b->¬VB B D C S wv b
section
variable {w0 w w':World}{B D C S:Nat}{wv wv':Value}{V V':VaultV}{sure sure':List ByteArray}{n n':Nat}{hv iv hv' iv' x:Value}{hvs ivs:List Value}{H I:List (List ByteArray)}{l:List ByteArray}
end
section
variable {w0 w:World}{B D C S:Nat}{wv:Value}{V:VaultV}{d:DevV}{n':Int}
end
end Go.Proofs.YtnmhgehpddipdaaGreatDoor
