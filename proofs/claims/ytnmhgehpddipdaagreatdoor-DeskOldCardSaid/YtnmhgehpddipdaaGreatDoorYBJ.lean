import Derived.Test.YtnmhgehpddipdaaGreatDoorYAC
import Derived.Test.YtnmhgehpddipdaaGreatDoorYAD
import Derived.Test.YtnmhgehpddipdaaGreatDoorYAK
import Derived.Test.YtnmhgehpddipdaaGreatDoorYAO
import Derived.Test.YtnmhgehpddipdaaGreatDoorYAP
import Derived.Test.YtnmhgehpddipdaaGreatDoorYBG
import Derived.WideMake
import Derived.MapKept
import Derived.Laws.Tables
set_option linter.unusedSimpArgs false
set_option linter.unusedVariables false
namespace Go.Cof
open Go.RowKit
section
variable {P:Program}{w:World}
end
end Go.Cof
namespace Go.Proofs.YtnmhgehpddipdaaGreatDoor
open Go.RowKit Go.Cof
def readSup(s:ByteArray):SupV:=⟨openVer ((bs s).drop 2),openVer ((bs s).drop 10),(List.range 32).map λi=>decide ((bs s).getD (18+i) 0=49),s.extract 50 66⟩
theorem readSup_sides(s:ByteArray):(readSup s).sides.length=32:=by simp[readSup]
def zeroSup:SupV:=⟨0,0,List.replicate 32 false,⟨#[]⟩⟩
def parseB(key s:ByteArray):Bool:=supMay key (readSup s)&&decide ((bs s).take 82=supT key (readSup s))&&decide ((bs s).drop 82=List.replicate (s.size-82) 0)
def parseE(key s:ByteArray):Int:=if key.size=32 then(if s.size<82 then 15 else if parseB key s then 0 else 15)else 1
def parseV(key s:ByteArray):SupV:=if key.size=32∧82<=s.size∧parseB key s=true then readSup s else zeroSup
theorem parseV_sides(key s:ByteArray):(parseV key s).sides.length=32:=by
 rw[parseV]
 split
 ·exact readSup_sides s
 ·exact List.length_replicate
set_option maxRecDepth 100000 in
set_option maxHeartbeats 4000000 in
theorem supNumber_any(s:ByteArray)(hs:8<=s.size)(hs2:s.size<=1000000)(w:World):
  Calls Tryz.prog 198 #[.string s] w λe w'=>e= .returned (.int .i64 (openVer (bs s)))∧w'=w:=by
 go_enter Tryz.func198,Tryz.ntmps198
 go_wp2_with fail
 go_loopw [3,5] (λv i wr=>∃k:Nat,k<=8∧i= .int .i64 k∧v= .int .i64 (numI (numN ((bs s).take k)))∧wr=w) (λ_ i _=>8-(intOf i).toNat)
 case atStart=>exact⟨0,by omega,rfl,by rw[List.take_zero];show _=Value.int .i64 (wrap64 ((0:Nat):Int));unfold wrap64;rfl,rfl⟩
 case round=>
  obtain⟨k,hk,rfl,rfl,rfl⟩:=hrel
  by_cases hlt:k<8
  ·have j1:(k:Int)<8:=by omega
   have hks:k<s.size:=by omega
   have hki:(k:Int)<s.size:=by omega
   have hstep:=numN_step (bs s) k (by rw[bs_len];exact hks)
   rw[bs_getD s k hks]at hstep
   have hor:=i64_or (numN ((bs s).take k)) s[k].toNat s[k].toNat_lt
   rw[<-hstep]at hor
   have Hst:=Lib.hid hstep
   have Hor:=Lib.hid hor
   clear hstep hor
   have hw8:=s_byte_lt s k hks
   go_wp2_with fail
   exact⟨⟨k+1,by omega,by go_num,by rw[Hor.out],trivial⟩,by simp[intOf];omega⟩
  ·obtain rfl:k=8:=by omega
   go_wp2_with fail
   go_ret
   exact⟨rfl,rfl⟩
end Go.Proofs.YtnmhgehpddipdaaGreatDoor
namespace Go.Cof
open Go.RowKit Go.Proofs.YtnmhgehpddipdaaGreatDoor
def keyV(secret:ByteArray)(epoch:Int):ByteArray:=txt (sha (Cof.mark 107 [bs secret,be64 (u64n epoch)]))
def skeyV(secret:ByteArray):ByteArray:=txt (sha (Cof.mark 115 [bs secret]))
theorem keyV_size(secret:ByteArray)(epoch:Int):(keyV secret epoch).size=32:=by rw[keyV,txt_size,sha_len]
theorem skeyV_size(secret:ByteArray):(skeyV secret).size=32:=by rw[skeyV,txt_size,sha_len]
def pmarkV(id ver:Int)(text:ByteArray):ByteArray:=txt (pmarkP id ver (bs text))
theorem pmarkV_size(id ver:Int)(text:ByteArray):(pmarkV id ver text).size=16:=by rw[pmarkV,txt_size,pmarkP,mark_len]
def placeN(i:Nat)(side:Bool):Nat:=2+2*i+cond side 1 0
theorem placeN_lt{i:Nat}(h:i<32)(side:Bool):placeN i side<66:=by cases side<;>simp[placeN]<;>omega
theorem placeN_ge(i:Nat)(side:Bool):2<=placeN i side:=by cases side<;>simp[placeN]<;>omega
theorem placeN_inj{i j:Nat}{a b:Bool}(h:placeN i a=placeN j b):i=j∧a=b:=by
 cases a<;>cases b<;>simp[placeN]at h⊢ <;>omega
instance (key:List Nat)(id:Int)(s:List Nat):Decidable (openB key id s):=inferInstanceAs (Decidable (_=_))
def pageAt(key:ByteArray)(i:Nat)(s:ByteArray):Option (ByteArray×ByteArray):=
 if (bs s).take 8=be64 0 then some (⟨#[]⟩,pmarkV i 0 ⟨#[]⟩)
 else if openB (bs key) i (bs s)then some (txt (openText (bs key) (bs s)),pmarkV i (openVer (bs s)) (txt (openText (bs key) (bs s))))else none
def pageOf(key:ByteArray)(B:List ByteArray)(sides:List Bool)(i:Nat):Option (ByteArray×ByteArray):=pageAt key i (B.getD (placeN i (sides.getD i false)) ⟨#[]⟩)
def pagesTo(key:ByteArray)(B:List ByteArray)(sides:List Bool):Nat->Option (List (ByteArray×ByteArray))
 | 0=>some []
 | n+1=>match pagesTo key B sides n,pageOf key B sides n with
  | some l,some p=>some (l++ [p])
  | _,_=>none
theorem pagesTo_len{key:ByteArray}{B:List ByteArray}{sides:List Bool} :∀(n:Nat) (l:List (ByteArray×ByteArray)),pagesTo key B sides n=some l->l.length=n
 | 0,l,h=>by
   obtain rfl: []=l:=by simpa [pagesTo]using h
   rfl
 | n+1,l,h=>by
  rw[pagesTo]at h
  split at h
  ·rename_i l' p hl hp
   rw[<-Option.some.inj h,List.length_append,pagesTo_len n l' hl];rfl
  ·cases h
theorem pagesTo_none{key:ByteArray}{B:List ByteArray}{sides:List Bool}{i:Nat}(h:pageOf key B sides i=none):∀n,i<n->pagesTo key B sides n=none
 | 0,hn=>by omega
 | n+1,hn=>by
  rw[pagesTo]
  by_cases e:i=n
  ·subst e
   rw[h]
   split<;>simp_all
  ·rw[pagesTo_none h n (by omega)]
theorem pagesTo_some{key:ByteArray}{B:List ByteArray}{sides:List Bool}(f:Nat->ByteArray×ByteArray):∀n,(∀i,i<n->pageOf key B sides i=some (f i))->pagesTo key B sides n=some ((List.range n).map f)
 | 0,_=>rfl
 | n+1,h=>by
  rw[pagesTo,pagesTo_some f n (λi hi=>h i (by omega)),h n (by omega),List.range_succ,List.map_append]
  rfl
theorem pagesTo_get{key:ByteArray}{B:List ByteArray}{sides:List Bool} :∀(n:Nat) (l:List (ByteArray×ByteArray)),pagesTo key B sides n=some l->∀i,i<n->pageOf key B sides i=l[i]?
 | 0,_,_,i,hi=>by omega
 | n+1,l,h,i,hi=>by
  rw[pagesTo]at h
  split at h
  ·rename_i l' p hl hp
   have hlen:=pagesTo_len n l' hl
   rw[<-Option.some.inj h]
   by_cases e:i=n
   ·subst e
    rw[hp,List.getElem?_append_right (by omega),hlen,Nat.sub_self];rfl
   ·rw[List.getElem?_append_left (by omega)]
    exact pagesTo_get n l' hl i (by omega)
  ·cases h
theorem pageAt_mark{key:ByteArray}{i:Nat}{s:ByteArray}{p:ByteArray×ByteArray}(h:pageAt key i s=some p):p.2.size=16:=by
 unfold pageAt at h
 split at h
 ·rw[<-Option.some.inj h];exact pmarkV_size _ _ _
 ·split at h
  ·rw[<-Option.some.inj h];exact pmarkV_size _ _ _
  ·cases h
structure VaultV where
 secret:ByteArray
 now:SupV
 texts:List ByteArray
 marks:List ByteArray
 dead:Bool
def loadV(secret:ByteArray)(B:List ByteArray)(x:SupV):Option (List ByteArray×List ByteArray):=
 match pagesTo (keyV secret x.epoch) B x.sides 32 with
 | none=>none
 | some l=>if rootV (l.map (·.2))=x.root then some (l.map (·.1),l.map (·.2))else none
def superV(secret:ByteArray)(B:List ByteArray)(count:Int):Option SupV:=
 if parseE (skeyV secret) (B.getD (count % 2).toNat ⟨#[]⟩)=0∧(parseV (skeyV secret) (B.getD (count % 2).toNat ⟨#[]⟩)).count=count then some (parseV (skeyV secret) (B.getD (count % 2).toNat ⟨#[]⟩))else none
def vaultAt(secret:ByteArray)(B:List ByteArray)(count:Int):Option VaultV:=
 match superV secret B count with
 | none=>none
 | some x=>(loadV secret B x).map λp=>⟨secret,x,p.1,p.2,false⟩
def freshV(secret:ByteArray):VaultV:=⟨secret,⟨0,1,List.replicate 32 false,⟨#[]⟩⟩,List.replicate 32 ⟨#[]⟩,(List.range 32).map λ(i:Nat)=>pmarkV (i:Int) 0 ⟨#[]⟩,false⟩
def openV(secret:ByteArray)(B:List ByteArray)(n:Int):Option (VaultV×Int):=
 match vaultAt secret B (n+1)with
 | some v=>some (v,n+1)
 | none=>if n=0 then some (freshV secret,0)else(vaultAt secret B n).map λv=>(v,n)
structure DevV where
 sure:List ByteArray
 wait:List (Nat×ByteArray)
 fuse:Int
def DevV.now(d:DevV):List ByteArray:=applyW d.sure d.wait
def DevV.put(d:DevV)(k:Nat)(s:ByteArray):DevV:=⟨d.sure,d.wait++ [(k,padB s)],burnt d.fuse⟩
def DevV.sync(d:DevV):DevV:=⟨applyW d.sure d.wait,[],burnt d.fuse⟩
def sealV(key:ByteArray)(id ver:Int)(text:ByteArray):ByteArray:=txt (sealP (bs key) id ver (bs text))
theorem sealV_size(key:ByteArray)(id ver:Int)(text:ByteArray)(h:text.size<=200):(sealV key id ver text).size=237:=by
 rw[sealV,txt_size,sealP,sealedP,List.length_append,List.length_append,List.length_append,tagP_len,nonceP_len,be64_len,xor_len,bodyP_len (bs text) (by rw[bs_len];exact h)]
structure TellSt where
 sides:List Bool
 marks:List ByteArray
 dev:DevV
def tellStep(key:ByteArray)(ver:Int)(st:TellSt)(p:Nat×ByteArray):TellSt:=
 ⟨st.sides.set p.1 (!st.sides.getD p.1 false),st.marks.set p.1 (pmarkV p.1 ver p.2),st.dev.put (placeN p.1 (!st.sides.getD p.1 false)) (sealV key p.1 ver p.2)⟩
def tellTo(key:ByteArray)(ver:Int):List (Nat×ByteArray)->TellSt->TellSt×Bool
 | [],st=>(st,true)
 | p::r,st=>if st.dev.fuse=0 then(st,false)else tellTo key ver r (tellStep key ver st p)
def putTexts(texts:List ByteArray)(W:List (Nat×ByteArray)):List ByteArray:=W.foldl (λl p=>l.set p.1 p.2) texts
theorem tellTo_append(key:ByteArray)(ver:Int):∀(A B:List (Nat×ByteArray)) (st:TellSt),tellTo key ver (A++B) st=if (tellTo key ver A st).2=true then tellTo key ver B (tellTo key ver A st).1 else tellTo key ver A st
 | [],B,st=>rfl
 | p::A,B,st=>by
  rw[List.cons_append,tellTo,tellTo]
  split
  ·rfl
  ·exact tellTo_append key ver A B _
structure Told1 where
 err:Int
 x:SupV
 marks:List ByteArray
 dev:DevV
def tell1V(secret:ByteArray)(x0:SupV)(marks:List ByteArray)(d:DevV)(W:List (Nat×ByteArray)):Told1:=
 let r:=tellTo (keyV secret x0.epoch) x0.count W ⟨x0.sides,marks,d⟩
 let x:SupV:=⟨x0.count,x0.epoch,r.1.sides,rootV r.1.marks⟩
 if r.2=false then⟨14,x,r.1.marks,r.1.dev⟩
 else if r.1.dev.fuse=0 then⟨14,x,r.1.marks,r.1.dev⟩
 else if supMay (skeyV secret) x=false then⟨1,x,r.1.marks,r.1.dev.sync⟩
 else if r.1.dev.sync.fuse=0 then⟨14,x,r.1.marks,r.1.dev.sync⟩
 else if (r.1.dev.sync.put (x0.count % 2).toNat (supW (skeyV secret) x)).fuse=0 then⟨14,x,r.1.marks,r.1.dev.sync.put (x0.count % 2).toNat (supW (skeyV secret) x)⟩
 else⟨0,x,r.1.marks,(r.1.dev.sync.put (x0.count % 2).toNat (supW (skeyV secret) x)).sync⟩
structure Told where
 err:Int
 v:VaultV
 dev:DevV
 n:Int
def dieV(v:VaultV):VaultV:= { v with dead:=true }
def tellV(v:VaultV)(d:DevV)(n:Int)(epoch:Int)(W:List (Nat×ByteArray)):Told:=
 let t:=tell1V v.secret ⟨v.now.count+1,epoch,v.now.sides,v.now.root⟩ v.marks d W
 if t.err≠0 then⟨t.err,dieV v,t.dev,n⟩
 else if v.now.count+1<=n then⟨10,dieV v,t.dev,n⟩
 else⟨0,⟨v.secret,t.x,putTexts v.texts W,t.marks,v.dead⟩,t.dev,v.now.count+1⟩
end Go.Cof
namespace Go.Cof
open Go.RowKit
section
variable {P:Program}{w:World}
theorem run_alloc_row{t:TypeId}{cs:Array Value}{n:Nat}(hi:(P.info? t).map (λi=>(i.zero,i.size))=some (some (.agg cs),n)):
  (Instr.alloc t true (.tuple #[])).run P w= .ok (.pointer (some ⟨w.heap.size,0,none⟩)) (w.alloc (.cells cs t)):=by
 cases hq:P.info? t with
 | none=>simp[hq]at hi
 | some inf=>
  have h1:inf.zero=some (.agg cs):=by simp[hq]at hi;exact hi.1
  simp[Instr.alloc,zeroValue,typeInfo,hq,h1,newVar,Value.cells,newRow]
theorem wpList_alloc_row{ops:Array Oper}{rest:List Oper}{o:Oper}{a:Act}{Q:Exit->Act->World->Prop}(hg:o.guard=none)(t:TypeId)(ho:o.op= .alloc t){cs:Array Value}{n:Nat}(hi:(P.info? t).map (λi=>(i.zero,i.size))=some (some (.agg cs),n))
  (h:wpList P ops Q rest (a.put o.dst (.pointer (some ⟨w.heap.size,0,none⟩))) (w.alloc (.cells cs t))):wpList P ops Q (o::rest) a w:=
 wpList_plain hg λK hK=>by
  unfold Oper.wp execOp
  simp only[ho,Sem.run_bind,Sem.run_pure,Result.andThen_ok,run_alloc_row hi]
  exact hK _ _ h
theorem wpList_build_is{ops:Array Oper}{rest:List Oper}{o:Oper}{a:Act}{Q:Exit->Act->World->Prop}(hg:o.guard=none)(t:TypeId)(parts:Array (Nat×Operand))(ho:o.op= .build t parts)(cells:Array Value)
  (hf:P.built t (parts.map λ(i,x)=>(i,a.eval x)).toList=some cells)
  (h:wpList P ops Q rest (a.put o.dst (.agg cells)) w):wpList P ops Q (o::rest) a w:=
 wpList_build hg t parts ho (by rw[hf];rfl) (by rw[hf];exact h)
end
theorem results_row_slot{P:Program}{fn:Func}{p q:Tmp}{ty:TypeId}(h:fn.results= #[.cell p ty,.tmp q])(tmps:Array Value)(w:World)(g:Nat)(t:TypeId)(cs:Array Value)(fr:Nat×Nat)(d:TypeDesc)(v:Value)
  (hp:tmps.getD p undef= .pointer (some ⟨g,0,none⟩)) (hq:tmps.getD q undef=v) (hg:w.heap[g]? =some (.cells cs t fr))
  (hu:P.underlying ty=some d) (hd:(match d with| .struct _| .array _ _=>true|_=>false)=true) (hi:(P.info? ty).map (·.size)=some cs.size):
  (results fn tmps).run P w= .ok (.tuple #[.agg cs,v]) w:=by
 have hp':tmps[p]?.getD undef= .pointer (some ⟨g,0,none⟩):=by simpa using hp
 have hq':tmps[q]?.getD undef=v:=by simpa using hq
 simp[results,h,hp',hq',asAddr,run_loadVar_row w g t ty cs fr d hg hu hd hi]
theorem supCells_one(x:SupV):(supCells x).toArray.all (·.oneCell')=true:=by
 rw[List.all_toArray,List.all_eq_true]
 intro v hv
 simp only[supCells,List.mem_append,List.mem_cons,List.not_mem_nil,or_false,List.mem_map]at hv
 rcases hv with((rfl|rfl)|⟨b,_,rfl⟩)|rfl<;>rfl
end Go.Cof
namespace Go.Proofs.YtnmhgehpddipdaaGreatDoor
open Go.RowKit Go.Cof
set_option maxRecDepth 100000
theorem info_super:(Tryz.prog.info? 127).map (λi=>(i.zero,i.size))=some (some (supVal zeroSup),35):=by kernel_rfl
theorem info_super35:(Tryz.prog.info? 127).map (·.size)=some 35:=by kernel_rfl
theorem built_zero:Tryz.prog.built 127 []=some (supCells zeroSup).toArray:=by kernel_rfl
theorem built_sup(a b:Int)(s:ByteArray):Tryz.prog.built 127 [(0,.int .i64 a),(1,.int .i64 b),(3,.string s)]=some (supCells ⟨a,b,List.replicate 32 false,s⟩).toArray:=by kernel_rfl
theorem zero_len:(supCells zeroSup).toArray.size=35:=by kernel_rfl
end Go.Proofs.YtnmhgehpddipdaaGreatDoor
namespace Go.Proofs.YtnmhgehpddipdaaGreatDoor
open Go.RowKit Go.Cof
set_option maxRecDepth 100000
set_option maxHeartbeats 4000000 in
theorem supParse_arg(key s:ByteArray)(hk:key.size≠32)(w:World):
  Calls Tryz.prog 139 #[.string key,.string s] w λe w'=>e= .returned (.tuple #[supVal zeroSup,errVal 1])∧Keep NoB w w':=by
 have j0:¬((key.size:Nat):Int)=32:=by omega
 have hin:=info_super
 have hbz:=built_zero
 have hzl:=zero_len
 have hone:=supCells_one zeroSup
 have hi35:(Tryz.prog.info? 127).map (·.size)=some (supCells zeroSup).toArray.size:=by rw[hzl];exact info_super35
 rw[supVal]at hin⊢
 obtain⟨cz,hcz⟩:∃cz,cz=(supCells zeroSup).toArray:=⟨_,rfl⟩
 rw[<-hcz]at hin hbz hzl hone hi35⊢
 clear hcz
 have Hin:=Lib.hid hin
 have Hbz:=Lib.hid hbz
 have H35:=Lib.hid hi35
 clear hin hbz hi35
 go_enter Tryz.func139,Tryz.ntmps139
 go_wp2_with (first|(refine wpList_alloc_row rfl 127 rfl Hin.out ?_;refine wl_world (λw9=>w9.heap[w.heap.size]? =some (.cells cz 127 (0,0))∧Keep NoB w w9) ⟨heap_alloc_new w _,(Keep.refl NoB w).alloc _⟩ ?_;rintro w9 ⟨hX9,K9⟩)|(refine wpList_build_is rfl 127 #[] rfl cz (by simpa using Hbz.out) ?_)|(refine wpList_store_whole rfl 127 (.tmp 4) (.tmp 14) rfl w.heap.size 127 cz cz rfl rfl hX9 H35.out 35 hzl hzl hone ?_;have hX10:=heap_setRow (c':=cz) hX9;have K10:=K9.setRow (g:=w.heap.size) (.inr (Nat.le_refl _)) cz;refine wl_world (λw10=>w10.heap[w.heap.size]? =some (.cells cz 127 (0,0))∧Keep NoB w w10) ⟨hX10,K10⟩ ?_;clear hX10 K10;rintro w10 ⟨hX10,K10⟩))
 exact bodyPost_ret (v:= .tuple #[.agg cz,errVal 1]) (results_row_slot rfl _ w10 w.heap.size 127 cz (0,0) _ (errVal 1) rfl rfl hX10 Tryz.underlying127 rfl H35.out) rfl ⟨rfl,K10⟩
set_option maxHeartbeats 4000000 in
theorem supParse_short(key s:ByteArray)(hk:key.size=32)(hs:s.size<82)(w:World):
  Calls Tryz.prog 139 #[.string key,.string s] w λe w'=>e= .returned (.tuple #[supVal zeroSup,errVal 15])∧Keep NoB w w':=by
 have j0:((key.size:Nat):Int)=32:=by omega
 have j1:((s.size:Nat):Int)<82:=by omega
 have hin:=info_super
 have hbz:=built_zero
 have hzl:=zero_len
 have hone:=supCells_one zeroSup
 have hi35:(Tryz.prog.info? 127).map (·.size)=some (supCells zeroSup).toArray.size:=by rw[hzl];exact info_super35
 rw[supVal]at hin⊢
 obtain⟨cz,hcz⟩:∃cz,cz=(supCells zeroSup).toArray:=⟨_,rfl⟩
 rw[<-hcz]at hin hbz hzl hone hi35⊢
 clear hcz
 have Hin:=Lib.hid hin
 have Hbz:=Lib.hid hbz
 have H35:=Lib.hid hi35
 clear hin hbz hi35
 go_enter Tryz.func139,Tryz.ntmps139
 go_wp2_with (first|(refine wpList_alloc_row rfl 127 rfl Hin.out ?_;refine wl_world (λw9=>w9.heap[w.heap.size]? =some (.cells cz 127 (0,0))∧Keep NoB w w9) ⟨heap_alloc_new w _,(Keep.refl NoB w).alloc _⟩ ?_;rintro w9 ⟨hX9,K9⟩))
 go_quiet (fail)
 go_wp2_with (first|(refine wpList_build_is rfl 127 #[] rfl cz (by simpa using Hbz.out) ?_)|(refine wpList_store_whole rfl 127 (.tmp 4) (.tmp 36) rfl w.heap.size 127 cz cz rfl rfl (show(w9.drewN nq).heap[w.heap.size]? =_ from hX9) H35.out 35 hzl hzl hone ?_;have hX10:=heap_setRow (c':=cz) (show(w9.drewN nq).heap[w.heap.size]? =_ from hX9);have K10:=(K9.drewN nq).setRow (g:=w.heap.size) (.inr (Nat.le_refl _)) cz;refine wl_world (λw10=>w10.heap[w.heap.size]? =some (.cells cz 127 (0,0))∧Keep NoB w w10) ⟨hX10,K10⟩ ?_;clear hX10 K10;rintro w10 ⟨hX10,K10⟩))
 exact bodyPost_ret (v:= .tuple #[.agg cz,errVal 15]) (results_row_slot rfl _ w10 w.heap.size 127 cz (0,0) _ (errVal 15) rfl rfl hX10 Tryz.underlying127 rfl H35.out) rfl ⟨rfl,K10⟩
end Go.Proofs.YtnmhgehpddipdaaGreatDoor
