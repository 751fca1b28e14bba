import Derived.Test.YtopbkdebihcmcaaGreatDoorYAA
import Derived.Test.YtopbkdebihcmcaaGreatDoorYAC
import Derived.WalkSmall
import Derived.Deep.WholeRow
import Derived.Lib.ConvBytes
set_option linter.unusedSimpArgs false
set_option linter.unusedVariables false
namespace Go.Proofs.YtopbkdebihcmcaaGreatDoor
open Go.RowKit
set_option maxRecDepth 100000
set_option maxHeartbeats 16000000
structure Keep(S:Nat->Prop)(w w':World):Prop where
 os:w'.os=w.os
 tape:w'.tape=w.tape
 output:w'.output=w.output
 size:w.heap.size<=w'.heap.size
 block:∀k,k<w.heap.size->¬S k->w'.heap[k]? =w.heap[k]?
def nM:Nat->Prop:=λ_=>False
def nY(b:Nat):Nat->Prop:=λk=>k=b
theorem Keep.refl(S:Nat->Prop)(w:World):Keep S w w:=⟨rfl,rfl,rfl,Nat.le_refl _,λ_ _ _=>rfl⟩
theorem Keep.trans{S S':Nat->Prop}{a b c:World}(h:Keep S a b)(k:Keep S' b c)(hs:∀i,i<a.heap.size->S' i->S i):Keep S a c:=
 ⟨k.os.trans h.os,k.tape.trans h.tape,k.output.trans h.output,Nat.le_trans h.size k.size,λi hi hn=>
  (k.block i (Nat.lt_of_lt_of_le hi h.size) (λs=>hn (hs i hi s))).trans (h.block i hi hn)⟩
theorem Keep.then{S:Nat->Prop}{a b c:World}(h:Keep S a b)(k:Keep S b c):Keep S a c:=h.trans k (λ_ _ s=>s)
theorem Keep.nK{S:Nat->Prop}{a b c:World}(h:Keep S a b)(k:Keep nM b c):Keep S a c:=h.trans k (λ_ _ s=>s.elim)
theorem Keep.mono{S S':Nat->Prop}{a b:World}(h:Keep S a b)(hs:∀i,i<a.heap.size->S i->S' i):Keep S' a b:=
 ⟨h.os,h.tape,h.output,h.size,λi hi hn=>h.block i hi (λs=>hn (hs i hi s))⟩
theorem Keep.vN{S:Nat->Prop}{a b:World}(h:Keep nM a b):Keep S a b:=h.mono (λ_ _ s=>s.elim)
theorem Keep.drew{S:Nat->Prop}{a w:World}(h:Keep S a w):Keep S a w.drew:=⟨h.os,h.tape,h.output,h.size,h.block⟩
theorem Keep.drewN{S:Nat->Prop}{a w:World}(h:Keep S a w)(n:Nat):Keep S a (w.drewN n):=⟨h.os,h.tape,h.output,h.size,h.block⟩
theorem Keep.alloc{S:Nat->Prop}{a w:World}(h:Keep S a w)(o:Obj):Keep S a (w.alloc o):=
 h.nK ⟨rfl,rfl,rfl,by simp,λk hk _=>Below.heap_alloc _ _ _ hk⟩
theorem Keep.setCell{S:Nat->Prop}{a w:World}(h:Keep S a w){p:Addr}(hp:S p.block∨a.heap.size<=p.block)(u:Value):Keep S a (w.setCell p u):=by
 refine⟨h.os,h.tape,h.output,?_,?_⟩
 ·have:=h.size
  simpa [World.setCell]using this
 ·intro k hk hn;rw[Below.heap_setCell _ _ _ _ (λe=>by rcases hp with hp|hp;exact hn (e▸hp);omega)];exact h.block k hk hn
theorem Keep.set1{a w:World}{B:Nat}(h:Keep (nY B) a w)(i:Nat)(u:Value):Keep (nY B) a (w.setCell ⟨B,i,none⟩ u):=h.setCell (p:=⟨B,i,none⟩) (.inl rfl) u
theorem Keep.cell{S:Nat->Prop}{w w':World}(h:Keep S w w'){p:Addr}(hp:p.block<w.heap.size)(hn:¬S p.block):w'.cell? p=w.cell? p:=
 World.cell?_of_block (w:=w) (h.block p.block hp hn)
theorem Keep.frozen{S:Nat->Prop}{w w':World}(h:Keep S w w'){p:Addr}(hp:p.block<w.heap.size)(hn:¬S p.block):w'.frozen? p=w.frozen? p:=
 World.frozen?_of_block (w:=w) (h.block p.block hp hn)
theorem lt_of_heap{w:World}{b:Nat}{o:Obj}(h:w.heap[b]? =some o):b<w.heap.size:=by
 rcases Nat.lt_or_ge b w.heap.size with h'|h'
 ·exact h'
 ·simp[Array.getElem?_eq_none h']at h
theorem Keep.heap{S:Nat->Prop}{w w':World}(h:Keep S w w'){b:Nat}{o:Obj}(hb:w.heap[b]? =some o)(hn:¬S b):w'.heap[b]? =some o:=
 (h.block b (lt_of_heap hb) hn).trans hb
theorem Keep.toBelow{w w':World}(h:Keep nM w w'):Below w.heap.size w w':=⟨h.os,h.tape,h.output,h.size,λk hk=>h.block k hk (λx=>x)⟩
theorem Keep.vg{w w':World}(h:Below w.heap.size w w'):Keep nM w w':=⟨h.os,h.tape,h.output,h.size,λk hk _=>h.block k hk⟩
def Ext(w:World):Type:= { w':World//Keep nM w w' }
def _root_.Go.World.ext(w:World)(x:Ext w):World:=x.1
theorem qA(w:World)(x:Ext w):Keep nM w (w.ext x):=x.2
theorem zlM{w w':World}(h:Keep nM w w'):∃x:Ext w,w'=w.ext x:=⟨⟨w',h⟩,rfl⟩
@[go_sem] theorem cell?_ext (w:World) (x:Ext w) (b o:Nat) (hb:b<w.heap.size):(w.ext x).cell? ⟨b,o,none⟩=w.cell? ⟨b,o,none⟩:=(qA w x).cell (p:=⟨b,o,none⟩) hb (λx=>x)
@[go_sem] theorem frozen?_ext (w:World) (x:Ext w) (b o:Nat) (hb:b<w.heap.size):(w.ext x).frozen? ⟨b,o,none⟩=w.frozen? ⟨b,o,none⟩:=(qA w x).frozen (p:=⟨b,o,none⟩) hb (λx=>x)
def ints(k:IntKind)(l:List Nat):Array Value:=(l.map λ(n:Nat)=>Value.int k (n:Int)).toArray
def Row(w:World)(B:Nat)(k:IntKind)(T:TypeId)(l:List Nat):Prop:=w.heap[B]? =some (.cells (ints k l) T (0,0))
theorem Row.lt{w:World}{B:Nat}{k:IntKind}{T:TypeId}{l:List Nat}(h:Row w B k T l):B<w.heap.size:=lt_of_heap h
theorem Row.cell{w:World}{B:Nat}{k:IntKind}{T:TypeId}{l:List Nat}(h:Row w B k T l)(i:Nat)(hi:i<l.length):w.cell? ⟨B,i,none⟩=some (.int k ((l.getD i 0:Nat):Int)):=by unfold Row at h;simp[World.cell?,h,ints,hi]
theorem Row.free{w:World}{B:Nat}{k:IntKind}{T:TypeId}{l:List Nat}(h:Row w B k T l)(i:Nat):w.frozen? ⟨B,i,none⟩=false:=by unfold Row at h;simp[World.frozen?,h]
theorem Row.drewN{w:World}{B:Nat}{k:IntKind}{T:TypeId}{l:List Nat}(h:Row w B k T l)(n:Nat):Row (w.drewN n) B k T l:=h
theorem Row.store{w:World}{B:Nat}{k:IntKind}{T:TypeId}{l:List Nat}(h:Row w B k T l)(i:Nat){v:Int}{n:Nat}(hv:v=(n:Int)):
  Row (w.setCell ⟨B,i,none⟩ (.int k v)) B k T (l.set i n):=by
 have hlt:=h.lt;unfold Row at h⊢;have h':w.heap[B]= .cells (ints k l) T (0,0):=by simpa [Array.getElem?_eq_getElem hlt]using h
 show(w.heap.modify B _)[B]? =_;rw[Array.getElem?_eq_getElem (by simpa using hlt),Array.getElem_modify_self,h',hv];simp[ints]
theorem Row.keep{w w':World}{B:Nat}{k:IntKind}{T:TypeId}{l:List Nat}(h:Row w B k T l){S:Nat->Prop}(hk:Keep S w w')(hn:¬S B):Row w' B k T l:=hk.heap h hn
theorem Row.alloc{w:World}{B:Nat}{k:IntKind}{T:TypeId}{l:List Nat}(h:Row w B k T l)(o:Obj):Row (w.alloc o) B k T l:=(Below.heap_alloc w o B h.lt).trans h
theorem Row.grown{w w':World}{B:Nat}{k:IntKind}{T:TypeId}{l:List Nat}(h:Row w B k T l){row:Option Nat}(hg:w.grownBy w' row)(hn:some B≠row):Row w' B k T l:=(hg.block B h.lt hn).trans h
theorem oH{P:Program}{ops:Array Oper}{rest:List Oper}{o:Oper}{a:Act}{w:World}{Q:Exit->Act->World->Prop}(hgd:o.guard=none)(ty:TypeId)(x y:Operand)(ho:o.op= .store ty x y)
  (g:Nat) (t:TypeId) (cs c':Array Value) (hx:a.eval x= .pointer (some ⟨g,0,none⟩)) (hy:a.eval y= .agg c') (hg:w.heap[g]? =some (.cells cs t (0,0)))
  (hi:(P.info? ty).map (·.size)=some c'.size) (n:Nat) (hn:cs.size=n) (hn':c'.size=n) (h1:c'.all (·.oneCell')=true)
  (h:wpList P ops Q rest (a.put o.dst undef) (w.setRow g c')):wpList P ops Q (o::rest) a w:=
 wpList_plain hgd λK hK=>by unfold Oper.wp execOp;simp only[ho,hx,hy,Instr.storeAt,Instr.sureAddr,Sem.run_bind,Sem.run_pure,Result.andThen_ok,run_storeVar_row w g t ty cs c' hg hi (hn.trans hn'.symm) h1];exact hK _ _ h
theorem oO{w:World}{g:Nat}{cs c':Array Value}{t:TypeId}(hg:w.heap[g]? =some (.cells cs t (0,0))):(w.setRow g c').heap[g]? =some (.cells c' t (0,0)):=setRow_heap w g cs c' t _ hg
theorem Keep.setRow{S:Nat->Prop}{a w:World}(h:Keep S a w){g:Nat}(hg:S g∨a.heap.size<=g)(c:Array Value):Keep S a (w.setRow g c):=by
 refine⟨h.os,h.tape,h.output,?_,?_⟩
 ·have:=h.size
  simpa [World.setRow]using this
 ·intro k hk hn;rw[setRow_other w g k _ (λe=>by subst e;rcases hg with hg|hg;exact hn hg;omega)];exact h.block k hk hn
theorem Keep.grown{S:Nat->Prop}{a w w':World}{row:Option Nat}(h:Keep S a w)(hg:w.grownBy w' row)(hr:∀k,row=some k->S k∨a.heap.size<=k):Keep S a w':=
 ⟨hg.os.trans h.os,hg.tape.trans h.tape,hg.output.trans h.output,Nat.le_trans h.size hg.size,λk hk hn=>
  (hg.block k (Nat.lt_of_lt_of_le hk h.size) (λe=>by rcases hr k e.symm with s|s;exact hn s;omega)).trans (h.block k hk hn)⟩
theorem BQ(k:IntKind)(l:List Nat):(ints k l).size=l.length:=by simp[ints]
theorem KH(k:IntKind)(l:List Nat):(ints k l).all (·.oneCell')=true:=by rw[Array.all_eq_true_iff_forall_mem];intro v hv;simp only[ints,List.mem_toArray,List.mem_map]at hv;obtain⟨n,_,rfl⟩:=hv;rfl
theorem Ic{P:Program}{T E:TypeId}{len:Nat}{kd k1:IntKind}{d:TypeDesc}(hu:P.underlying T=some (.array len E))(hE:P.underlying E=some d)(hd:d= .int k1)(hs:(P.info? E).map (·.size)=some 1)
  (l:List Nat) (i:Nat) (hl:l.length=len) (hi:i<len) (w:World):(Instr.index T (.agg (ints kd l)) (.int .i64 i)).run P w= .ok (.int kd ((l.getD i 0:Nat):Int)) w:=by
 subst hd;cases hq:P.info? E with
 | none=>simp[hq]at hs
 | some inf=>
  have h1:inf.size=1:=by simpa [hq]using hs
  have hi':i<l.length:=by omega
  have hc:(ints kd l)[i]? =some (.int kd ((l.getD i 0:Nat):Int)):=by simp[ints,hi']
  have hii:(i:Int)<(len:Int):=by omega
  simp[Instr.index,asIntOf,run_underlying hu,run_underlying hE,sizeOf,typeInfo,hq,h1,part,isAgg,hc,hi]
theorem qj(w:World)(news:List Value)(t:TypeId):∀(j:Nat) (u:Value),news[j]? =some u->(w.alloc (.cells news.toArray t)).cell? ((⟨w.heap.size,0,none⟩:Addr).add j)=some u:=by
 intro j u hu;have hadd:(⟨w.heap.size,0,none⟩:Addr).add j=⟨w.heap.size,j,none⟩:=by unfold Addr.add;split<;>simp_all
 rw[hadd,cell_of_row _ _ j _ t (0,0) (heap_alloc_new w _)]
 simpa using hu
theorem zjx(k:IntKind)(a b c d:Int):∀u∈ [Value.int k a,Value.int k b,Value.int k c,Value.int k d],u.oneCell'=true:=by intro u hu;simp only[List.mem_cons,List.not_mem_nil,or_false]at hu;rcases hu with rfl|rfl|rfl|rfl<;>rfl
theorem znI(k:IntKind)(a b:Int):∀u∈ [Value.int k a,Value.int k b],u.oneCell'=true:=by intro u hu;simp only[List.mem_cons,List.not_mem_nil,or_false]at hu;rcases hu with rfl|rfl<;>rfl
theorem Yx(k:IntKind)(a:Int):∀u∈ [Value.int k a],u.oneCell'=true:=by intro u hu;simp only[List.mem_cons,List.not_mem_nil,or_false]at hu;subst hu;rfl
def zM(l:List Nat):List Value:=l.map λ(x:Nat)=>Value.int .u8 (x:Int)
theorem zcH(l:List Nat):(zM l).length=l.length:=by simp[zM]
theorem xG(a b:List Nat):zM (a++b)=zM a++zM b:=by simp[zM]
theorem Nw(l:List Nat):strOfNums (l.map λ(x:Nat)=>(x:Int))=txt l:=by unfold strOfNums txt;rw[List.map_map];rfl
theorem vM{P:Program}{w:World}{base:Nat}{E:TypeId}{v:Value}{l:List Nat}{src dst:TypeId}(h:w.ownsRow base E 1 v l.length (zM l))
  (hs:P.underlying src=some (.slice E)) (he:P.underlying E=some (.int .u8)) (hd:P.underlying dst=some .string):(convert src dst v).run P w= .ok (.string (txt l)) w:=by
 rcases h.2 with⟨rfl,hn⟩|⟨g,cap,cur,rfl,_,hg,_,_,_,htake⟩
 ·have:l= []:=List.eq_nil_of_length_eq_zero hn
  subst this;exact run_convert_bytes_nil w src E hs he 0 0 dst hd
 ·rw[run_convert_bytes_arg w src E hs he g 0 l.length cap (l.map λ(x:Nat)=>(x:Int)) (by simp) ?_ dst hd,Nw];intro i hi;rw[Nat.zero_add,cell_of_row w g i cur E (0,0) hg];have h1:(cur.toList.take (l.length*1))[i]? =(zM l)[i]? :=by rw[htake]
  rw[List.getElem?_take,if_pos (by omega)]at h1;simp only[Array.getElem?_toList]at h1;rw[h1];simp[zM,hi]
def vP(w:World)(B:Nat)(E:TypeId)(l:List Nat):Prop:=
 ∃cur fr,w.heap[B]? =some (.cells cur E fr)∧cur.toList.take l.length=zM l∧∀i,i<l.length->(decide (fr.1<=i)&&decide (i<fr.2))=false
theorem vP.lt{w:World}{B:Nat}{E:TypeId}{l:List Nat}(h:vP w B E l):B<w.heap.size:=by obtain⟨cur,fr,hb,_⟩:=h;exact lt_of_heap hb
theorem take_at{cur:Array Value}{l:List Nat}(h:cur.toList.take l.length=zM l)(i:Nat)(hi:i<l.length):cur[i]? =some (.int .u8 ((l.getD i 0:Nat):Int)):=by
 have h1:(cur.toList.take l.length)[i]? =(zM l)[i]? :=by rw[h]
 rw[List.getElem?_take,if_pos hi]at h1;simp only[Array.getElem?_toList]at h1;rw[h1];simp[zM,hi]
theorem vP.cell{w:World}{B:Nat}{E:TypeId}{l:List Nat}(h:vP w B E l)(i:Nat)(hi:i<l.length):w.cell? ⟨B,i,none⟩=some (.int .u8 ((l.getD i 0:Nat):Int)):=by obtain⟨cur,fr,hb,ht,_⟩:=h;rw[cell_of_row w B i cur E fr hb];exact take_at ht i hi
theorem vP.free{w:World}{B:Nat}{E:TypeId}{l:List Nat}(h:vP w B E l)(i:Nat)(hi:i<l.length):w.frozen? ⟨B,i,none⟩=false:=by
 obtain⟨cur,fr,hb,_,hf⟩:=h;obtain⟨lo,hi'⟩:=fr
 simpa [World.frozen?,hb]using hf i hi
theorem vP.drewN{w:World}{B:Nat}{E:TypeId}{l:List Nat}(h:vP w B E l)(n:Nat):vP (w.drewN n) B E l:=h
theorem vP.store{w:World}{B:Nat}{E:TypeId}{l:List Nat}(h:vP w B E l)(i:Nat)(hi:i<l.length){v:Int}{n:Nat}(hv:v=(n:Int)):vP (w.setCell ⟨B,i,none⟩ (.int .u8 v)) B E (l.set i n):=by
 obtain⟨cur,fr,hb,ht,hf⟩:=h;have hlt:=lt_of_heap hb;refine⟨cur.setIfInBounds i (.int .u8 v),fr,?_,?_,?_⟩
 ·have h':w.heap[B]= .cells cur E fr:=by simpa [Array.getElem?_eq_getElem hlt]using hb
  show(w.heap.modify B _)[B]? =_;rw[Array.getElem?_eq_getElem (by simpa using hlt),Array.getElem_modify_self,h'];rfl
 ·rw[List.length_set,Array.toList_setIfInBounds,List.take_set,ht,hv];simp[zM,List.map_set]
 ·intro j hj;exact hf j (by simpa using hj)
theorem vP.keep{w w':World}{B:Nat}{E:TypeId}{l:List Nat}(h:vP w B E l){S:Nat->Prop}(hk:Keep S w w')(hn:¬S B):vP w' B E l:=by obtain⟨cur,fr,hb,r⟩:=h;exact⟨cur,fr,hk.heap hb hn,r⟩
theorem vP.ofBytes(w:World)(E:TypeId)(s:ByteArray):vP (Lib.bytesWorld w E s) w.heap.size E (bs s):=by
 refine⟨_,_,Lib.bytesWorld_at_new w E s,?_,?_⟩
 ·rw[bs_len];unfold Lib.bytesCells;rw[Array.toList_append];have e:(Array.map (λb=>Value.int .u8 (b.toNat:Int)) s.data).toList=zM (bs s):=by
   simp[zM,bs,List.map_map]
  have el:(zM (bs s)).length=s.size:=by rw[zcH,bs_len]
  rw[e,List.take_append_of_le_length (by omega),List.take_of_length_le (by omega)]
 ·intro i hi
  have:i<(Lib.bytesCells w E s).size:=by unfold Lib.bytesCells;rw[bs_len]at hi;have e:s.data.size=s.size:=rfl;simp only[Array.size_append,Array.size_map];omega
  simp;omega
theorem Keep.bytesWorld{S:Nat->Prop}{a w:World}(h:Keep S a w)(E:TypeId)(s:ByteArray):Keep S a (Lib.bytesWorld w E s):=by
 refine h.nK ⟨?_,?_,?_,?_,?_⟩
 ·rfl
 ·rfl
 ·rfl
 ·rw[Lib.bytesWorld_size];omega
 ·intro k hk _;exact Lib.bytesWorld_at_old w E s k hk
theorem xK{P:Program}{w:World}{B cap:Nat}{E:TypeId}{l:List Nat}{src dst:TypeId}(h:vP w B E l)
  (hs:P.underlying src=some (.slice E)) (he:P.underlying E=some (.int .u8)) (hd:P.underlying dst=some .string):(convert src dst (.slice (some ⟨B,0,none⟩) l.length cap)).run P w= .ok (.string (txt l)) w:=by
 rw[run_convert_bytes_arg w src E hs he B 0 l.length cap (l.map λ(x:Nat)=>(x:Int)) (by simp) ?_ dst hd,Nw];intro i hi;rw[Nat.zero_add,h.cell i hi];simp[hi]
theorem Ib{P:Program}{T:TypeId}(hu:P.underlying T=some .string)(s:ByteArray)(k:IntKind)(i:Int)(n:Nat)(hi:i=n)(hn:n<s.size)(w:World):
  (Instr.index T (.string s) (.int k i)).run P w= .ok (.int .u8 (((bs s).getD n 0:Nat):Int)) w:=by
 subst hi;rw[bs_getD s n hn];simp[Instr.index,asIntOf,run_underlying hu,hn]
theorem TS{P:Program}(w:World){E:TypeId}{src dst:TypeId}(hs:P.underlying src=some (.slice E))(he:P.underlying E=some (.int .u8))(hd:P.underlying dst=some .string)(x:Int)(n:Nat)(hx:x=n):
  (convert src dst (.slice (some ⟨w.heap.size,0,none⟩) 1 1)).run P (w.alloc (.cells #[.int .u8 x] E))= .ok (.string (txt [n])) (w.alloc (.cells #[.int .u8 x] E)):=by
 subst hx;exact xK (l:= [n]) ⟨_,_,heap_alloc_new w _,rfl,λi _=>by simp⟩ hs he hd
def cellsOf(k:IntKind)(l:List Nat):List Value:=l.map λ(x:Nat)=>Value.int k (x:Int)
theorem zaB(k:IntKind)(l:List Nat)(i:Nat)(h:i<l.length):(cellsOf k l)[i]? =some (.int k ((l.getD i 0:Nat):Int)):=by simp[cellsOf,h]
def FQ(w:World)(B:Nat)(E:TypeId)(k:IntKind)(l:List Nat):Prop:=
 ∃cur fr,w.heap[B]? =some (.cells cur E fr)∧cur.toList.take l.length=cellsOf k l∧∀i,i<l.length->(decide (fr.1<=i)&&decide (i<fr.2))=false
theorem FQ.lt{w:World}{B:Nat}{E:TypeId}{k:IntKind}{l:List Nat}(h:FQ w B E k l):B<w.heap.size:=by obtain⟨cur,fr,hb,_⟩:=h;exact lt_of_heap hb
theorem FQ.cell{w:World}{B:Nat}{E:TypeId}{k:IntKind}{l:List Nat}(h:FQ w B E k l)(i:Nat)(hi:i<l.length):w.cell? ⟨B,i,none⟩=some (.int k ((l.getD i 0:Nat):Int)):=by
 obtain⟨cur,fr,hb,ht,_⟩:=h;rw[cell_of_row w B i cur E fr hb];have h1:(cur.toList.take l.length)[i]? =(cellsOf k l)[i]? :=by rw[ht]
 rw[List.getElem?_take,if_pos hi,zaB k l i hi]at h1
 simpa using h1
theorem FQ.free{w:World}{B:Nat}{E:TypeId}{k:IntKind}{l:List Nat}(h:FQ w B E k l)(i:Nat)(hi:i<l.length):w.frozen? ⟨B,i,none⟩=false:=by
 obtain⟨cur,fr,hb,_,hf⟩:=h;obtain⟨lo,hi'⟩:=fr
 simpa [World.frozen?,hb]using hf i hi
theorem FQ.drewN{w:World}{B:Nat}{E:TypeId}{k:IntKind}{l:List Nat}(h:FQ w B E k l)(n:Nat):FQ (w.drewN n) B E k l:=h
theorem FQ.store{w:World}{B:Nat}{E:TypeId}{k:IntKind}{l:List Nat}(h:FQ w B E k l)(i:Nat){v:Int}{n:Nat}(hv:v=(n:Int)):FQ (w.setCell ⟨B,i,none⟩ (.int k v)) B E k (l.set i n):=by
 obtain⟨cur,fr,hb,ht,hf⟩:=h;have hlt:=lt_of_heap hb;refine⟨cur.setIfInBounds i (.int k v),fr,?_,?_,?_⟩
 ·have h':w.heap[B]= .cells cur E fr:=by simpa [Array.getElem?_eq_getElem hlt]using hb
  show(w.heap.modify B _)[B]? =_;rw[Array.getElem?_eq_getElem (by simpa using hlt),Array.getElem_modify_self,h'];rfl
 ·rw[List.length_set,Array.toList_setIfInBounds,List.take_set,ht,hv];simp[cellsOf,List.map_set]
 ·intro j hj;exact hf j (by simpa using hj)
theorem FQ.keep{w w':World}{B:Nat}{E:TypeId}{k:IntKind}{l:List Nat}(h:FQ w B E k l){S:Nat->Prop}(hk:Keep S w w')(hn:¬S B):FQ w' B E k l:=by obtain⟨cur,fr,hb,r⟩:=h;exact⟨cur,fr,hk.heap hb hn,r⟩
theorem zgW{w:World}{base:Nat}{E:TypeId}{size:Nat}{v:Value}{n:Nat}{xs:List Value}(h:w.ownsRow base E size v n xs)(hn:0<n):∃g cap,v= .slice (some ⟨g,0,none⟩) n cap∧base<=g:=by
 rcases h.2 with⟨_,h0⟩|⟨g,cap,cur,hv,hb,_⟩
 ·omega
 ·exact⟨g,cap,hv,hb⟩
theorem Keep.ownsRow{S:Nat->Prop}{w w':World}(hk:Keep S w w'){base:Nat}{E:TypeId}{size:Nat}{v:Value}{n:Nat}{xs:List Value}(h:w.ownsRow base E size v n xs)(hn:∀b,v.ownBlock=some b->¬S b):w'.ownsRow base E size v n xs:=by
 refine⟨h.1,?_⟩;rcases h.2 with h2|⟨g,cap,cur,hv,hg,hh,r⟩
 ·exact .inl h2
 ·subst hv;exact .inr ⟨g,cap,cur,rfl,hg,hk.heap hh (hn g rfl),r⟩
theorem pK{P:Program}{c:Code}{Q:Exit->Act->World->Prop}{a:Act}{w:World}(R:World->Prop)(h:R w)(k:∀w1,R w1->Code.wp P c Q a w1):Code.wp P c Q a w:=k w h
def Clear(fz:Nat×Nat)(n:Nat):Prop:=∀i,i<n->(decide (fz.1<=i)&&decide (i<fz.2))=false
theorem Clear.zero(n:Nat):Clear (0,0) n:=λi _=>by simp
def nV(w:World)(base:Nat)(e:TypeId)(size:Nat)(v:Value)(n:Nat)(xs:List Value):Prop:=
 xs.length=n*size∧
 ((v= .slice none 0 0∧n=0)∨∃g cap cur fz,v= .slice (some ⟨g,0,none⟩) n cap∧base<=g∧w.heap[g]? =some (.cells cur e fz)∧Clear fz cur.size∧n<=cap∧cap<=maxLen∧cur.size=cap*size∧cur.toList.take (n*size)=xs)
section
variable {w:World}{base:Nat}{e:TypeId}{size:Nat}{v:Value}{n:Nat}{xs:List Value}
theorem nV.of(h:w.ownsRow base e size v n xs):nV w base e size v n xs:=
 ⟨h.1,h.2.elim .inl λ⟨g,cap,cur,hv,hb,hg,r⟩=> .inr ⟨g,cap,cur,(0,0),hv,hb,hg,Clear.zero _,r⟩⟩
theorem nV.nil(w:World)(base:Nat)(e:TypeId)(size:Nat):nV w base e size (.slice none 0 0) 0 []:=⟨by simp,.inl ⟨rfl,rfl⟩⟩
theorem nV.down{base':Nat}(h:nV w base' e size v n xs)(hb:base<=base'):nV w base e size v n xs:=
 ⟨h.1,h.2.elim .inl λ⟨g,cap,cur,fz,hv,hg,r⟩=> .inr ⟨g,cap,cur,fz,hv,Nat.le_trans hb hg,r⟩⟩
theorem nV.lt(h:nV w base e size v n xs):∀k,v.ownBlock=some k->base<=k∧k<w.heap.size:=by
 intro k hk;rcases h.2 with⟨hv,_⟩|⟨g,cap,cur,fz,hv,hb,hg,_⟩
 ·rw[hv]at hk;cases hk
 ·rw[hv]at hk;obtain rfl:g=k:=Option.some.inj hk;exact⟨hb,lt_of_heap hg⟩
theorem nV.keep{w':World}(h:nV w base e size v n xs){S:Nat->Prop}(hk:Keep S w w')(hn:∀b,v.ownBlock=some b->¬S b):nV w' base e size v n xs:=by
 refine⟨h.1,?_⟩;rcases h.2 with h2|⟨g,cap,cur,fz,hv,hg,hh,r⟩
 ·exact .inl h2
 ·exact .inr ⟨g,cap,cur,fz,hv,hg,hk.heap hh (hn g (by rw[hv];rfl)),r⟩
theorem nV.drewN(h:nV w base e size v n xs)(k:Nat):nV (w.drewN k) base e size v n xs:=h
theorem nV.alloc(h:nV w base e size v n xs)(o:Obj):nV (w.alloc o) base e size v n xs:=h.keep ((Keep.refl nM w).alloc o) (λ_ _ x=>x)
theorem nV.some(h:nV w base e size v n xs)(hn:0<n):∃g cap,v= .slice (some ⟨g,0,none⟩) n cap∧base<=g∧n<=cap:=by
 rcases h.2 with⟨_,h0⟩|⟨g,cap,cur,fz,hv,hb,_,_,hc,_⟩
 ·omega
 ·exact⟨g,cap,hv,hb,hc⟩
theorem nV.cells(h:nV w base e size v n xs){g:Nat}(hg:v.ownBlock=Option.some g):∀j u,xs[j]? =Option.some u->w.cell? ((⟨g,0,none⟩:Addr).add j)=Option.some u:=by
 intro j u hu;rcases h.2 with⟨hv,_⟩|⟨g',cap,cur,fz,hv,_,hh,_,_,_,_,ht⟩
 ·rw[hv]at hg;cases hg
 ·rw[hv]at hg;obtain rfl:g'=g:=Option.some.inj hg;have hadd:(⟨g',0,none⟩:Addr).add j=⟨g',j,none⟩:=by unfold Addr.add;split<;>simp_all
  rw[hadd,cell_of_row w g' j cur e fz hh];rw[<-ht,List.getElem?_take]at hu;split at hu
  ·simpa using hu
  ·cases hu
end
theorem xM(P:Program)(g o:Nat)(t:TypeId)(fz:Nat×Nat)(vs:List Value):∀(i:Nat) (cur:Array Value) (w:World),w.heap[g]? =some (.cells cur t fz)->Clear fz cur.size->o+i+vs.length<=cur.size->
  (∀v∈vs,v.oneCell'=true)->(storeCells ⟨g,o,none⟩ vs i).run P w= .ok () (w.setRow g (cur.toList.take (o+i)++vs++cur.toList.drop (o+i+vs.length)).toArray):=by
 induction vs with
 | nil=>
  intro i cur w hg _ _ _;have e:(cur.toList.take (o+i)++ []++cur.toList.drop (o+i+([]:List Value).length)).toArray=cur:=by simp
  rw[e,setRow_self w g cur t fz hg];rfl
 | cons v vs ih=>
  intro i cur w hg hf hl h1;rw[List.length_cons]at hl;have hadd:(⟨g,o,none⟩:Addr).add i=⟨g,o+i,none⟩:=by unfold Addr.add;split<;>simp_all
  have hin:o+i<cur.size:=by omega
  have hc:w.cell? ⟨g,o+i,none⟩=some cur[o+i]:=by simp[World.cell?,hg,hin]
  have hz:w.frozen? ⟨g,o+i,none⟩=false:=by
   have:=hf (o+i) hin;obtain⟨lo,hi⟩:=fz
   simpa [World.frozen?,hg]using this
  have hs:(store ((⟨g,o,none⟩:Addr).add i) v).run P w= .ok () (w.setRow g (cur.setIfInBounds (o+i) v)):=by rw[hadd,run_store P w _ v _ (h1 v (List.mem_cons_self ..)),hc];simp[hz,setCell_eq_setRow w g (o+i) cur t fz v hg]
  have hr:=ih (i+1) (cur.setIfInBounds (o+i) v) (w.setRow g (cur.setIfInBounds (o+i) v)) (setRow_heap w g cur _ t _ hg) (by simpa using hf) (by simp;omega) (λx hx=>h1 x (List.mem_cons_of_mem _ hx));have hseg:=list_seg_step cur.toList (o+i) v vs (by simp;omega);simp only[storeCells,Sem.run_bind,hs,Result.andThen_ok,hr,setRow_setRow];refine congrArg (λl:List Value=>Result.ok () (w.setRow g l.toArray)) ?_
  simpa [Array.toList_setIfInBounds,Nat.add_assoc]using hseg
section
variable {P:Program}(w:World)
theorem Fa(base:Nat)(t ty e:TypeId)(i:TypeInfo)(z:Value)(size bytes:Nat)(ht:P.underlying t=some (.slice e))(hi:P.info? e=some i)(hz:i.zero=some z)
  (hsize:i.size=size) (hby:i.bytes=bytes) (hzs:z.cells.size=size) (hsz:0<size) (v:Value) (n:Nat) (xs:List Value) (hown:nV w base e size v n xs)
  (a:Addr) (m c:Nat) (news:List Value) (hl:news.length=m*size) (hnews:∀j u,news[j]? =some u->w.cell? (a.add j)=some u) (h1:∀u∈news,u.oneCell'=true)
  (h63:n+m<=maxLen) (hbytes:(n+m)*bytes<=140737488355328) (hbase:base<=w.heap.size):
  ∃v' w',(Builtin.append_ #[t,t] ty #[v,.slice (some a) m c]).run P w= .ok v' w'∧nV w' base e size v' (n+m) (xs++news)∧w.grownBy w' v.ownBlock∧(v'.ownBlock=v.ownBlock∨∀b,v'.ownBlock=some b->w.heap.size<=b):=by
 rcases hown.2 with⟨hv,hn⟩|⟨g,cap,cur,fz,hv,hbg,hg,hfz,hnc,hcm,hcs,htk⟩
 ·obtain⟨v',w',r1,r2,r3,_⟩:=run_append_own (P:=P) w w.heap.size t ty e i z size bytes ht hi hz hsize hby hzs hsz v n xs ⟨hown.1,.inl ⟨hv,hn⟩⟩ a m c news hl hnews h1 h63 hbytes (Nat.le_refl _);exact⟨v',w',r1,(nV.of r2).down hbase,r3,.inr λb hb=>(r2.lt b hb).1⟩
 ·have hcells:=hown.cells (g:=g) (by rw[hv];rfl);have hlen:(xs++news).length=(n+m)*size:=by rw[List.length_append,hown.1,hl,Nat.add_mul]
  subst hv;subst hsize;subst hby;by_cases hroom:n+m<=cap
  ·have hfit:n*i.size+news.length<=cur.size:=by
    rw[hl,hcs,<-Nat.add_mul];exact Nat.mul_le_mul_right _ hroom
   have hf:=run_firstCells_some (P:=P) w i.size m a m c news hl hnews;have hst:=xM P g (n*i.size) e fz news 0 cur w hg hfz (by simpa using hfit) h1;simp only[Nat.add_zero]at hst;have hr:(Builtin.append_ #[t,t] ty #[.slice (some ⟨g,0,none⟩) n cap,.slice (some a) m c]).run P w= .ok (.slice (some ⟨g,0,none⟩) (n+m) cap) (w.setRow g (cur.toList.take (n*i.size)++news++cur.toList.drop (n*i.size+news.length)).toArray):=by simp[Builtin.append_,run_underlying ht,sizeOf,typeInfo,hi,Builtin.lenOf,hroom,hf,Addr.add_lit,hst]
   have hsz2:(cur.toList.take (n*i.size)++news++cur.toList.drop (n*i.size+news.length)).toArray.size=cur.size:=by simp only[List.size_toArray,List.length_append,List.length_take,List.length_drop,Array.length_toList];omega
   refine⟨_,_,hr,⟨hlen,.inr ⟨g,cap,_,fz,rfl,hbg,setRow_heap w g cur _ e _ hg,by rw[hsz2];exact hfz,hroom,hcm,by rw[hsz2];exact hcs,?_⟩⟩,⟨rfl,rfl,rfl,by simp,λk _ hk=>setRow_other w g k _ (λe=>hk (by simp[Value.ownBlock,e]))⟩,.inl rfl⟩;rw[htk,<-hlen];exact List.take_left
  ·have hsmall:n+m<=9223372036854775807:=by simp only[maxLen]at h63;omega
   have hr:=run_append_grow (P:=P) w t ty e i z ht hi hz ⟨g,0,none⟩ n cap xs hown.1 hcells a m c news hl hnews (by omega) (by omega) (growslice_fits (by omega) hbytes);have hge:=grownCap_ge w (n+m) cap e;refine⟨_,_,hr,⟨hlen,.inr ⟨w.heap.size,_,_,(0,0),rfl,hbase,heap_alloc_new w.drew _,Clear.zero _,hge,grownCap_le_maxLen w (n+m) cap e h63,?_,?_⟩⟩,⟨rfl,rfl,rfl,by simp,λk hk _=>Below.heap_alloc w.drew _ k hk⟩,.inr λb hb=>by obtain rfl:w.heap.size=b:=Option.some.inj hb;exact Nat.le_refl _⟩
   ·simp only[Array.size_append,List.size_toArray,size_zeroCells,hzs,hown.1,hl,<-Nat.add_mul]
    congr 1
    omega
   ·simp only[Array.toList_append,List.append_assoc];rw[<-List.append_assoc,<-hlen];exact List.take_left
theorem qc{ops:Array Oper}{rest:List Oper}{o:Oper}{a:Act}{Q:Exit->Act->World->Prop}(hgd:o.guard=none)(s x:Operand)(t:TypeId)
  (ho:o.op= .call { callee:= .builtin .append,args:= #[s,x],argTypes:= #[t,t] })
  (base:Nat) (e:TypeId) (i:TypeInfo) (z:Value) (size bytes:Nat) (ht:P.underlying t=some (.slice e)) (hi:P.info? e=some i) (hz:i.zero=some z)
  (hsize:i.size=size) (hby:i.bytes=bytes) (hzs:z.cells.size=size) (hsz:0<size) (v:Value) (n:Nat) (xs:List Value) (hs:a.eval s=v) (hown:nV w base e size v n xs)
  (ad:Addr) (m c:Nat) (news:List Value) (hx:a.eval x= .slice (some ad) m c) (hl:news.length=m*size) (hnews:∀j u,news[j]? =some u->w.cell? (ad.add j)=some u) (h1:∀u∈news,u.oneCell'=true)
  (h63:n+m<=maxLen) (hbytes:(n+m)*bytes<=140737488355328) (hbase:base<=w.heap.size)
  (h:∀v' w',nV w' base e size v' (n+m) (xs++news)->w.grownBy w' v.ownBlock->wpList P ops Q rest (a.put o.dst v') w'):wpList P ops Q (o::rest) a w:=by
 refine wpList_plain hgd λK hK=> ?_;obtain⟨v',w',hr,h2,h3,_⟩:=Fa (P:=P) w base t o.type e i z size bytes ht hi hz hsize hby hzs hsz v n xs hown ad m c news hl hnews h1 h63 hbytes hbase;unfold Oper.wp execOp;simp only[ho,resolve,invoke,builtin,Sem.run_bind,Sem.run_pure,Result.andThen_ok,List.map_toArray,List.map_cons,List.map_nil,hs,hx,hr];exact hK _ _ (h v' w' h2 h3)
theorem yE{ops:Array Oper}{rest:List Oper}{o:Oper}{a:Act}{Q:Exit->Act->World->Prop}(hgd:o.guard=none)(s x:Operand)(t:TypeId)
  (ho:o.op= .call { callee:= .builtin .append,args:= #[s,x],argTypes:= #[t,t] })
  (base:Nat) (e:TypeId) (i:TypeInfo) (z:Value) (size bytes:Nat) (ht:P.underlying t=some (.slice e)) (hi:P.info? e=some i) (hz:i.zero=some z)
  (hsize:i.size=size) (hby:i.bytes=bytes) (hzs:z.cells.size=size) (hsz:0<size) (v:Value) (n:Nat) (xs:List Value) (hs:a.eval s=v) (hown:nV w base e size v n xs)
  (ad:Addr) (m c:Nat) (news:List Value) (hx:a.eval x= .slice (some ad) m c) (hl:news.length=m*size) (hnews:∀j u,news[j]? =some u->w.cell? (ad.add j)=some u) (h1:∀u∈news,u.oneCell'=true)
  (h63:n+m<=maxLen) (hbytes:(n+m)*bytes<=140737488355328) (hbase:base<=w.heap.size)
  (h:∀v' w',nV w' base e size v' (n+m) (xs++news)->w.grownBy w' v.ownBlock->(v'.ownBlock=v.ownBlock∨∀b,v'.ownBlock=some b->w.heap.size<=b)->wpList P ops Q rest (a.put o.dst v') w'):wpList P ops Q (o::rest) a w:=by
 refine wpList_plain hgd λK hK=> ?_;obtain⟨v',w',hr,h2,h3,h4⟩:=Fa (P:=P) w base t o.type e i z size bytes ht hi hz hsize hby hzs hsz v n xs hown ad m c news hl hnews h1 h63 hbytes hbase;unfold Oper.wp execOp;simp only[ho,resolve,invoke,builtin,Sem.run_bind,Sem.run_pure,Result.andThen_ok,List.map_toArray,List.map_cons,List.map_nil,hs,hx,hr];exact hK _ _ (h v' w' h2 h3 h4)
end
theorem nV.ofBytes(w:World)(base:Nat)(E:TypeId)(s:ByteArray)(hb:base<=w.heap.size)(hs:s.size<=1000000):nV (Lib.bytesWorld w E s) base E 1 (.slice (Option.some ⟨w.heap.size,0,none⟩) s.size (grownCap w s.size 0 E)) s.size (zM (bs s)):=by
 have hge:=grownCap_ge w s.size 0 E;have hle:grownCap w s.size 0 E<=maxLen:=grownCap_le_maxLen w s.size 0 E (by unfold maxLen;omega);have e:(Array.map (λb=>Value.int .u8 (b.toNat:Int)) s.data).toList=zM (bs s):=by simp[zM,bs,List.map_map]
 have el:(zM (bs s)).length=s.size:=by rw[zcH,bs_len]
 refine⟨by rw[el,Nat.mul_one],.inr ⟨_,_,_,_,rfl,hb,Lib.bytesWorld_at_new w E s,?_,hge,hle,?_,?_⟩⟩
 ·intro i hi;simp;omega
 ·unfold Lib.bytesCells;have e1:s.data.size=s.size:=rfl;simp only[Array.size_append,Array.size_map,Array.size_replicate];omega
 ·unfold Lib.bytesCells;rw[Array.toList_append,e,Nat.mul_one,List.take_append_of_le_length (by omega),List.take_of_length_le (by omega)]
theorem vP.vN{w:World}{base:Nat}{E:TypeId}{l:List Nat}{g cap:Nat}(h:nV w base E 1 (.slice (some ⟨g,0,none⟩) l.length cap) l.length (zM l)):vP w g E l:=by
 rcases h.2 with⟨h,_⟩|⟨g',cap',cur,fz,hv,_,hg,hf,hc,_,hs,ht⟩
 ·cases h
 ·cases hv
  exact⟨cur,fz,hg,by rw[Nat.mul_one]at ht;exact ht,λi hi=>hf i (by omega)⟩
theorem FQ.vN{w:World}{base:Nat}{E:TypeId}{k:IntKind}{l:List Nat}{g cap:Nat}(h:nV w base E 1 (.slice (some ⟨g,0,none⟩) l.length cap) l.length (cellsOf k l)):FQ w g E k l:=by
 rcases h.2 with⟨h,_⟩|⟨g',cap',cur,fz,hv,_,hg,hf,hc,_,hs,ht⟩
 ·cases h
 ·cases hv
  exact⟨cur,fz,hg,by rw[Nat.mul_one]at ht;exact ht,λi hi=>hf i (by omega)⟩
theorem P7{P:Program}{w:World}{B off k cap:Nat}{E:TypeId}{l:List Nat}{src dst:TypeId}(h:vP w B E l)(hk:off+k<=l.length)
  (hs:P.underlying src=some (.slice E)) (he:P.underlying E=some (.int .u8)) (hd:P.underlying dst=some .string):(convert src dst (.slice (some ⟨B,off,none⟩) k cap)).run P w= .ok (.string (txt ((l.drop off).take k))) w:=by
 have hlen:((l.drop off).take k).length=k:=by rw[List.length_take,List.length_drop];omega
 have h1:=run_convert_bytes_arg (P:=P) w src E hs he B off k cap (((l.drop off).take k).map λ(x:Nat)=>(x:Int)) (by rw[List.length_map,hlen]) ?_ dst hd
 ·rw[h1,Nw]
 ·intro i hi;rw[h.cell (off+i) (by omega)];have hi2:off+i<l.length:=by omega
  simp[hi,hi2]
theorem o8{P:Program}{ops rest:_}{Q:Exit->Act->World->Prop}{a:Act}{w:World}(R:World->Prop)(h:R w)(k:∀w1,R w1->wpList P ops Q rest a w1):wpList P ops Q rest a w:=k w h
def Strs(w:World)(v:Value)(l:List ByteArray):Prop:=
 (l= []∧∃p c,v= .slice p 0 c)∨∃B off c,v= .slice (some ⟨B,off,none⟩) l.length c∧B<w.heap.size∧∀i,i<l.length->w.cell? ⟨B,off+i,none⟩=some (.string (l.getD i ⟨#[]⟩))
theorem Strs.len{w:World}{v:Value}{l:List ByteArray}(h:Strs w v l):∃p c,v= .slice p l.length c:=by
 rcases h with⟨rfl,p,c,hv⟩|⟨B,off,c,hv,_⟩
 ·exact⟨p,c,hv⟩
 ·exact⟨_,c,hv⟩
theorem Strs.at{w:World}{p:Option Addr}{n c:Nat}{l:List ByteArray}(h:Strs w (.slice p n c) l)(hl:0<l.length):∃B off,p=some ⟨B,off,none⟩∧n=l.length∧B<w.heap.size∧∀i,i<l.length->w.cell? ⟨B,off+i,none⟩=some (.string (l.getD i ⟨#[]⟩)):=by
 rcases h with⟨rfl,_⟩|⟨B,off,c,hv,hB,hc⟩
 ·simp at hl
 ·cases hv
  exact⟨B,off,rfl,rfl,hB,hc⟩
theorem Strs.keep{w w':World}{v:Value}{l:List ByteArray}(h:Strs w v l){S:Nat->Prop}(hk:Keep S w w')(hn:∀b,v.ownBlock=some b->¬S b):Strs w' v l:=by
 rcases h with h|⟨B,off,c,hv,hB,hc⟩
 ·exact .inl h
 ·refine .inr ⟨B,off,c,hv,Nat.lt_of_lt_of_le hB hk.size,λi hi=> ?_⟩;rw[hk.cell (p:=⟨B,off+i,none⟩) hB (hn B (by rw[hv];rfl))];exact hc i hi
theorem Strs.lit{w:World}{E:TypeId}(l:List ByteArray):Strs (w.alloc (.cells (l.map Value.string).toArray E)) (.slice (some ⟨w.heap.size,0,none⟩) l.length l.length) l:=by refine .inr ⟨w.heap.size,0,l.length,rfl,by simp,λi hi=> ?_⟩;rw[Nat.zero_add,cell_of_row _ _ i _ E (0,0) (heap_alloc_new w _)];simp[hi]
instance (w:World):Nonempty (Ext w):=⟨⟨w,Keep.refl _ _⟩⟩
section
variable {P:Program}
theorem V9{α:Sort _}{w:World}(f:World->α->Prop)(a:α):(∀w',(∃x:Ext w,w'=w.ext x)->f w' a)=(∀x:Ext w,f (w.ext x) a):=
 propext ⟨λh x=>h _ ⟨x,rfl⟩,λh _ ⟨x,e⟩=>e▸h x⟩
theorem D9{id:Nat}{Q:Exit->Act->World->Prop}{a:Act}{w:World}{l:List Oper}(n:Nat)(hm:P.follows .mixedOrders=true)(hB:Region.lexTailB .any l.toArray n=true)
  (h:wpQuiet P l.toArray (λw'=>∃x:Ext w,w'=w.ext x) (λa'=>∀x:Ext w,wpList P l.toArray Q (l.drop n) a' (w.ext x)) (l.take n) a):(Code.region id l.toArray true).wp P Q a w:=by
 refine Ld (λw'=>∃x:Ext w,w'=w.ext x) n hm hB ⟨⟨_,(Keep.refl nM w).drew⟩,rfl⟩ ?_
 have:(λa'=>∀w',(∃x:Ext w,w'=w.ext x)->wpList P l.toArray Q (l.drop n) a' w')=(λa'=>∀x:Ext w,wpList P l.toArray Q (l.drop n) a' (w.ext x)):=
  funext λa'=>V9 (λw' a'=>wpList P l.toArray Q (l.drop n) a' w') a'
 rwa [this]
theorem qP{id:Nat}{Q:Exit->Act->World->Prop}{a:Act}{w:World}{l:List Oper}(hm:P.follows .mixedOrders=true)(hB:Region.lexB .any l.toArray=true)
  (h:wpQuiet P l.toArray (λw'=>∃x:Ext w,w'=w.ext x) (λa'=>∀x:Ext w,Q .normal a' (w.ext x)) l a):(Code.region id l.toArray true).wp P Q a w:=by
 refine Ox (λw'=>∃x:Ext w,w'=w.ext x) hm hB ⟨⟨_,(Keep.refl nM w).drew⟩,rfl⟩ ?_
 have:(λa'=>∀w',(∃x:Ext w,w'=w.ext x)->Q .normal a' w')=(λa'=>∀x:Ext w,Q .normal a' (w.ext x)):=
  funext λa'=>V9 (λw' a'=>Q .normal a' w') a'
 rwa [this]
theorem uJ{f:FuncId}{args:Array Value}{w:World}{v:Value}(x:Ext w)(h:Calls P f args (w.ext x) λe w'=>e= .returned v∧Keep nM (w.ext x) w'):
  Calls P f args (w.ext x) λe w''=>e= .returned v∧∃y:Ext w,w''=w.ext y:=
 h.mono λ_ _ ⟨he,hk⟩=>⟨he,zlM ((qA w x).nK hk)⟩
end
section
variable {P:Program}
theorem Eb(w:World)(g off:Nat)(t ty:TypeId)(cs:Array Value)(fr:Nat×Nat)(part:Array Value)(d:TypeDesc)(hg:w.heap[g]? =some (.cells cs t fr))
  (hpart:∀j v,part[j]? =some v->cs[off+j]? =some v)
  (hu:P.underlying ty=some d) (hd:(match d with| .struct _| .array _ _=>true|_=>false)=true) (hi:(P.info? ty).map (·.size)=some part.size):
  (loadVar ty ⟨g,off,none⟩).run P w= .ok (.agg part) w:=by
 have hl:(loadCells ⟨g,off,none⟩ part.toList.length).run P w= .ok part.toList.toArray w:=
  run_loadCells_list (P:=P) w ⟨g,off,none⟩ part.toList (λj v hv=>by
   have hadd:(⟨g,off,none⟩:Addr).add j=⟨g,off+j,none⟩:=by unfold Addr.add;split<;>simp_all
   rw[hadd,cell_of_row w g (off+j) cs t fr hg];exact hpart j v (by simpa using hv))
 cases hq:P.info? ty with
 | none=>simp[hq]at hi
 | some i=>
  have hs:i.size=part.size:=by simpa [hq]using hi
  have hagg:(isAgg ty).run P w= .ok true w:=by unfold isAgg;rw[Sem.run_bind,run_underlying hu w];cases d<;>simp_all
  simp only[Array.length_toList,Array.toArray_toList]at hl;simp[loadVar,Sem.run_bind,hagg,sizeOf,typeInfo,hq,hs,hl]
theorem Xp{o:Oper}{a:Act}{w:World}{K:Act->World->Prop}{Q:Exit->Act->World->Prop}(ty:TypeId)(x:Operand)(ho:o.op= .load ty x)
  (g off:Nat) (hx:a.eval x= .pointer (some ⟨g,off,none⟩)) (t:TypeId) (cs:Array Value) (fr:Nat×Nat) (part:Array Value) (d:TypeDesc) (hg:w.heap[g]? =some (.cells cs t fr))
  (hpart:∀j v,part[j]? =some v->cs[off+j]? =some v)
  (hu:P.underlying ty=some d) (hd:(match d with| .struct _| .array _ _=>true|_=>false)=true) (hi:(P.info? ty).map (·.size)=some part.size)
  (h:K (a.put o.dst (.agg part)) w):o.wp P a w K Q:=by
 unfold Oper.wp execOp;simp only[ho,hx,Instr.loadAt,Instr.sureAddr,Sem.run_bind,Sem.run_pure,Result.andThen_ok,Eb w g off t ty cs fr part d hg hpart hu hd hi];exact h
theorem Aa{ops:Array Oper}{rest:List Oper}{o:Oper}{a:Act}{w:World}{Q:Exit->Act->World->Prop}(hgd:o.guard=none)(ty:TypeId)(x:Operand)(ho:o.op= .load ty x)
  (g off:Nat) (hx:a.eval x= .pointer (some ⟨g,off,none⟩)) (t:TypeId) (cs:Array Value) (fr:Nat×Nat) (part:Array Value) (d:TypeDesc) (hg:w.heap[g]? =some (.cells cs t fr))
  (hpart:∀j v,part[j]? =some v->cs[off+j]? =some v)
  (hu:P.underlying ty=some d) (hd:(match d with| .struct _| .array _ _=>true|_=>false)=true) (hi:(P.info? ty).map (·.size)=some part.size)
  (h:wpList P ops Q rest (a.put o.dst (.agg part)) w):wpList P ops Q (o::rest) a w:=
 wpList_plain hgd λ_ hK=>Xp ty x ho g off hx t cs fr part d hg hpart hu hd hi (hK _ _ h)
theorem uC{ops:Array Oper}{rest:List Oper}{o:Oper}{a:Act}{C:World->Prop}{Z:Act->Prop}(hw:Region.wanted o (yielded ops a.tmps)=true)(ty:TypeId)(x:Operand)(ho:o.op= .load ty x)
  (g off:Nat) (hx:a.eval x= .pointer (some ⟨g,off,none⟩)) (t:TypeId) (cs:Array Value) (fr:Nat×Nat) (part:Array Value) (d:TypeDesc) (hg:∀x:rE C,x.w.heap[g]? =some (.cells cs t fr))
  (hpart:∀j v,part[j]? =some v->cs[off+j]? =some v)
  (hu:P.underlying ty=some d) (hd:(match d with| .struct _| .array _ _=>true|_=>false)=true) (hi:(P.info? ty).map (·.size)=some part.size)
  (h:su P ops C Z rest (a.put o.dst (.agg part))):su P ops C Z (o::rest) a:=by
 unfold su;rw[if_pos hw];refine⟨.agg part,λy=> ?_,h⟩;unfold execOp;simp only[ho,hx,Instr.loadAt,Instr.sureAddr,Sem.run_bind,Sem.run_pure,Result.andThen_ok,Eb y.w g off t ty cs fr part d (hg y) hpart hu hd hi]
def Ac(cs:Array Value)(off:Nat)(part:Array Value):Array Value:=(cs.toList.take off++part.toList++cs.toList.drop (off+part.size)).toArray
theorem MK(w:World)(g off:Nat)(t ty:TypeId)(cs part:Array Value)(hg:w.heap[g]? =some (.cells cs t (0,0)))(hi:(P.info? ty).map (·.size)=some part.size)
  (ho:off+part.size<=cs.size) (h1:part.all (·.oneCell')=true):
  (storeVar ty ⟨g,off,none⟩ (.agg part)).run P w= .ok () (w.setRow g (Ac cs off part)):=by
 have:=xM P g off t (0,0) part.toList 0 cs w hg (Clear.zero _) (by simp;omega) (λv hv=>Array.all_eq_true_iff_forall_mem.1 h1 v (by simpa using hv));simp only[Nat.add_zero,Array.length_toList]at this;cases hq:P.info? ty with
 | none=>simp[hq]at hi
 | some i=>
  have hs:part.size=i.size:=by simp[hq]at hi;omega
  rw[hs]at this;simp[storeVar,sizeOf,typeInfo,hq,Value.cells,hs,this,Ac]
theorem zB{ops:Array Oper}{rest:List Oper}{o:Oper}{a:Act}{w:World}{Q:Exit->Act->World->Prop}(hgd:o.guard=none)(ty:TypeId)(x y:Operand)(ho:o.op= .store ty x y)
  (g off:Nat) (t:TypeId) (cs part:Array Value) (hx:a.eval x= .pointer (some ⟨g,off,none⟩)) (hy:a.eval y= .agg part) (hg:w.heap[g]? =some (.cells cs t (0,0)))
  (hi:(P.info? ty).map (·.size)=some part.size) (hn:off+part.size<=cs.size) (h1:part.all (·.oneCell')=true)
  (h:wpList P ops Q rest (a.put o.dst undef) (w.setRow g (Ac cs off part))):wpList P ops Q (o::rest) a w:=
 wpList_plain hgd λK hK=>by unfold Oper.wp execOp;simp only[ho,hx,hy,Instr.storeAt,Instr.sureAddr,Sem.run_bind,Sem.run_pure,Result.andThen_ok,MK w g off t ty cs part hg hi hn h1];exact hK _ _ h
end
section
variable {P:Program}{ops:Array Oper}{md:Region.Mode}{C:World->Prop}{Q:Exit->Act->World->Prop}
def U7(md:Region.Mode)(ops:Array Oper):List (Bool×Nat)->Array Bool->Bool
 | [],done=>(List.range ops.size).all λj=>done.getD j false
 | (true,i)::r,done=>(Region.ready md ops done).contains i&&Region.free md ops done i&&Ik md ops done i&&U7 md ops r (done.setIfInBounds i true)
 | (false,i)::r,done=>decide (Region.ready md ops done= [i])&&U7 md ops r (done.setIfInBounds i true)
def oQ(P:Program)(ops:Array Oper)(C:World->Prop)(Q:Exit->Act->World->Prop):List (Bool×Nat)->Act->World->Prop
 | [],a,w=>Q .normal a w
 | (true,i)::r,a,w=>su P ops C (λa'=>oQ P ops C Q r a' w) (nR ops [i]) a
 | (false,i)::r,a,w=>C w∧wpList P ops (Exit.then (oQ P ops C Q r) Q) (nR ops [i]) a w
theorem EM(hns:Region.noSelect ops=true)(hQ:∀c (a:Act) d v w,Q (.panic c) (a.put d v) w->Q (.panic c) a w):
  ∀(L:List (Bool×Nat)) (done:Array Bool) (a:Act) (w:World),U7 md ops L done=true->oQ P ops C Q L a w->F9 P md ops C Q L.length done a w
 | [],done,a,w,hB,h=>⟨λj hj=>List.all_eq_true.1 hB j (List.mem_range.2 hj),h⟩
 | (false,i)::r,done,a,w,hB,h=>by simp only[U7,Bool.and_eq_true,decide_eq_true_eq]at hB;refine⟨h.1,λh0=>(by rw[hB.1]at h0;cases h0),λj hj=> ?_⟩;obtain⟨_,o,ho,_⟩:=mem_ready.1 hj;rw[hB.1,List.mem_singleton]at hj;subst hj;exact wpOp_mono (λa' w' h'=>EM hns hQ r _ a' w' hB.2 h') (yz ho h.2)
 | (true,i)::r,done,a,w,hB,h=>by
  simp only[U7,Bool.and_eq_true]at hB;obtain⟨⟨⟨hr,hf⟩,hw⟩,hB'⟩:=hB;have hr':i∈Region.ready md ops done:=by simpa using hr
  obtain⟨_,o,h0,_⟩:=mem_ready.1 hr';unfold oQ at h;simp only[nR,h0]at h;unfold su at h;by_cases hwt:Region.wanted o (yielded ops a.tmps)=true
  ·simp only[hwt,if_true]at h;obtain⟨v,hv,hK⟩:=h;exact xX h0 (Region.noSelect_spec hns) (λc a w hq=>hQ c a _ _ w hq) _ done a w (Region.free_spec h0 hf) hr' (wO hw) (.inl ⟨hwt,λw hC=>hv ⟨w,hC⟩⟩) (EM hns hQ r _ _ w hB' hK)
  ·simp only[hwt,Bool.false_eq_true,if_false]at h;exact xX h0 (Region.noSelect_spec hns) (λc a w hq=>hQ c a _ _ w hq) _ done a w (Region.free_spec h0 hf) hr' (wO hw) (.inr ⟨by simpa using hwt,rfl⟩) (EM hns hQ r _ _ w hB' h)
theorem nO{id:Nat}{l:List Oper}{a:Act}{w:World}(C:World->Prop)(L:List (Bool×Nat))(hm:P.follows .mixedOrders=true)(hB:(Region.noSelect l.toArray&&U7 .any l.toArray L (Array.replicate l.toArray.size false)&&decide (L.length=l.toArray.size))=true)
  (hQ:∀c (a:Act) d v w,Q (.panic c) (a.put d v) w->Q (.panic c) a w)
  (h:oQ P l.toArray C Q L a w.drew):(Code.region id l.toArray true).wp P Q a w:=by
 simp only[Bool.and_eq_true,decide_eq_true_eq]at hB;obtain⟨⟨hns,hB⟩,hl⟩:=hB;refine wp_region_any hm ?_;have H:=EK _ _ _ _ (EM (md:= .any) hns hQ L _ a w.drew hB h)
 rwa [hl]at H
end
section
variable {P:Program}{ops:Array Oper}{md:Region.Mode}{C D:World->Prop}{b:Nat}{Q:Exit->Act->World->Prop}
def QT(P:Program)(md:Region.Mode)(ops:Array Oper)(b:Nat)(D C:World->Prop)(Q:Exit->Act->World->Prop):Nat->Array Bool->Act->World->Prop
 | 0,listed,a,w=>(∀j,j<ops.size->listed.getD j false=true)∧Q .normal a w
 | fuel+1,listed,a,w=>(D w∧(listed.getD b false=false->C w))∧(Region.ready md ops listed= []->Q .normal a w)∧
  ∀i∈Region.ready md ops listed,wpOp P ops Q i (QT P md ops b D C Q fuel (listed.setIfInBounds i true)) a w
theorem RG:∀(fuel:Nat) (listed:Array Bool) (a:Act) (w:World),QT P md ops b D C Q fuel listed a w->wpAny P md ops Q fuel listed a w
 | 0,listed,a,w,h=>by
  refine⟨?_,h.2⟩;cases hr:Region.ready md ops listed with
  | nil=>rfl
  | cons j r=>
   have hj:j∈Region.ready md ops listed:=by rw[hr];exact List.mem_cons_self
   obtain⟨h0,o,ho,_⟩:=mem_ready.1 hj;have h1:=h.1 j (Array.getElem?_eq_some_iff.1 ho).1;rw[getD_both h0]at h1;cases h1
 | fuel+1,listed,a,w,h=>⟨h.2.1,λi hi=>wpOp_mono (λa' w' h'=>RG fuel _ a' w' h') (h.2.2 i hi)⟩
def zbf(md:Region.Mode)(ops:Array Oper)(b i:Nat):Prop:=∃ob,ops[b]? =some ob∧∃e∈ob.after,Region.binds md e=true∧e.on=i
theorem BJ{i:Nat}{oi:Oper}{v:Value}{E:World->Prop}(hbi:b≠i)(hi:ops[i]? =some oi)(hsel:∀(j:Nat) (o:Oper) cs b,ops[j]? =some o->o.op≠ .select cs b)
  (hQ:∀c a w,Q (.panic c) (a.put oi.dst v) w->Q (.panic c) a w):
  ∀(fuel:Nat) (listed:Array Bool) (a:Act) (w:World),
   (∀j oj,ops[j]? =some oj->j≠i->listed.getD j true=false->(∀e∈oj.after,Region.binds md e=true->e.on≠i)->oi.apart ops oj=true)->
   ((∀w,D w->E w)∨((∀w,C w->E w)∧zbf md ops b i∧listed.getD b false=false))->
   i∈Region.ready md ops listed->Q9 md ops listed i->xU P ops E oi v a->
   QT P md ops b D C Q fuel (listed.setIfInBounds i true) (a.put oi.dst v) w->QT P md ops b D C Q (fuel+1) listed a w:=by
 intro fuel
 induction fuel with
 | zero=>
  intro listed a w _ _ hr haw hy H;obtain⟨j,oj,hoj,hji,hun,_⟩:=haw;have h1:=H.1 j (Array.getElem?_eq_some_iff.1 hoj).1;rw[getD_set_ne false (λe=>hji e.symm),getD_both hun]at h1;cases h1
 | succ fuel ih=>
  intro listed a w hfree hD hr haw hy H;have hC:D w∧(listed.getD b false=false->C w):=⟨H.1.1,λhb=>H.1.2 (by rw[getD_set_ne false (λe=>hbi e.symm)];exact hb)⟩
  refine⟨hC,λh=>(by rw[h]at hr;cases hr),λj hj=> ?_⟩;by_cases hji:j=i
  ·subst hji;refine hy.wpOp hi ?_ H;rcases hD with hD|⟨hD,_,hb⟩
   ·exact hD w hC.1
   ·exact hD w (hC.2 hb)
  ·have h1:=H.2.2 j (ready_mono hj hji);obtain⟨hjun,oj,hoj,hall⟩:=mem_ready.1 hj;have hnot:∀e∈oj.after,Region.binds md e=true->e.on≠i:=λe he hb heq=>by
    have h1:=hall e he hb;have h0:=(mem_ready.1 hr).1;rw[heq,getD_both h0]at h1;cases h1
   have h2:=Vg hoj (hfree j oj hoj hji hjun hnot) (λcs b=>hsel i oi cs b hi) (λcs b=>hsel j oj cs b hoj) hQ hy h1;have hfree':∀k ok,ops[k]? =some ok->k≠i->(listed.setIfInBounds j true).getD k true=false->
     (∀e∈ok.after,Region.binds md e=true->e.on≠i)->oi.apart ops ok=true:=λk ok hk hki hun hno=>by
    refine hfree k ok hk hki ?_ hno;by_cases hjk:j=k
    ·subst hjk;exact hjun
    ·rw[getD_set_ne true hjk]at hun;exact hun
   have zkT:Q9 md ops (listed.setIfInBounds j true) i:=by
    obtain⟨k,ok,hok,hki,hun,e,he,hb,hon⟩:=haw;refine⟨k,ok,hok,hki,?_,e,he,hb,hon⟩;have hjk:j≠k:=λejk=>by subst ejk;rw[hoj]at hok;cases hok;exact hnot e he hb hon
    rw[getD_set_ne true hjk];exact hun
   have hD':(∀w,D w->E w)∨((∀w,C w->E w)∧zbf md ops b i∧(listed.setIfInBounds j true).getD b false=false):=by
    rcases hD with hD|⟨hD,hE,hb⟩
    ·exact .inl hD
    ·refine .inr ⟨hD,hE,?_⟩;obtain⟨ob,hob,e,he,hbd,hon⟩:=hE;have hjb:j≠b:=λejb=>by
      subst ejb;rw[hoj]at hob;cases hob;exact hnot e he hbd hon
     rw[getD_set_ne false hjb];exact hb
   refine wpOp_mono (λa' w' h3=>ih (listed.setIfInBounds j true) a' w' hfree' hD' (ready_mono hr (Ne.symm hji)) zkT h3.1 ?_) h2;rw[Array.setIfInBounds_comm _ _ hji];exact h3.2
def zfQ(md:Region.Mode)(ops:Array Oper)(b i:Nat):Bool:=match ops[b]? with|some ob=>ob.after.any (λe=>Region.binds md e&&decide (e.on=i))|none=>false
theorem zda{i:Nat}(h:zfQ md ops b i=true):zbf md ops b i:=by
 unfold zfQ at h;cases ho:ops[b]? with
 | none=>rw[ho]at h;cases h
 | some ob=>
  rw[ho]at h;obtain⟨e,he,hb⟩:=Array.any_eq_true'.1 h;simp only[Bool.and_eq_true,decide_eq_true_eq]at hb;exact⟨ob,ho,e,he,hb.1,hb.2⟩
def Gi(md:Region.Mode)(ops:Array Oper)(b:Nat):List (Nat×Nat)->Array Bool->Bool
 | [],done=>(List.range ops.size).all λj=>done.getD j false
 | (0,i)::r,done=>decide (Region.ready md ops done= [i])&&Gi md ops b r (done.setIfInBounds i true)
 | (1,i)::r,done=>(Region.ready md ops done).contains i&&Region.free md ops done i&&Ik md ops done i&&decide (b≠i)&&zfQ md ops b i&& !done.getD b false&&Gi md ops b r (done.setIfInBounds i true)
 | (_,i)::r,done=>(Region.ready md ops done).contains i&&Region.free md ops done i&&Ik md ops done i&&decide (b≠i)&&Gi md ops b r (done.setIfInBounds i true)
def zQ(P:Program)(ops:Array Oper)(b:Nat)(D C:World->Prop)(Q:Exit->Act->World->Prop):List (Nat×Nat)->Bool->Act->World->Prop
 | [],_,a,w=>Q .normal a w
 | (0,i)::r,p,a,w=>D w∧(p=true->C w)∧wpList P ops (Exit.then (zQ P ops b D C Q r (if i=b then false else p)) Q) (nR ops [i]) a w
 | (1,i)::r,p,a,w=>su P ops C (λa'=>zQ P ops b D C Q r p a' w) (nR ops [i]) a
 | (_,i)::r,p,a,w=>su P ops D (λa'=>zQ P ops b D C Q r p a' w) (nR ops [i]) a
theorem zbg(hns:Region.noSelect ops=true)(hbs:b<ops.size)(hQ:∀c (a:Act) d v w,Q (.panic c) (a.put d v) w->Q (.panic c) a w):
  ∀(L:List (Nat×Nat)) (done:Array Bool) (p:Bool) (a:Act) (w:World),done.size=ops.size->p= !done.getD b false->Gi md ops b L done=true->zQ P ops b D C Q L p a w->QT P md ops b D C Q L.length done a w:=by
 intro L
 induction L with
 | nil=>intro done p a w hsz hp hB h;exact⟨λj hj=>List.all_eq_true.1 hB j (List.mem_range.2 hj),h⟩
 | cons x r ih=>
  intro done p a w hsz hp hB h;obtain⟨n,i⟩:=x
  match n,hB,h with
  | 0,hB,h=>
   simp only[Gi,Bool.and_eq_true,decide_eq_true_eq]at hB;refine⟨⟨h.1,λhb=>h.2.1 (by rw[hp,hb];rfl)⟩,λh0=>(by rw[hB.1]at h0;cases h0),λj hj=> ?_⟩;obtain⟨_,o,ho,_⟩:=mem_ready.1 hj;rw[hB.1,List.mem_singleton]at hj;subst hj;refine wpOp_mono (λa' w' h'=>ih _ _ a' w' (by simpa using hsz) ?_ hB.2 h') (yz ho h.2.2);by_cases e:j=b
   ·subst e;rw[if_pos rfl];simp[Array.getD,hsz,hbs]
   ·rw[if_neg e,getD_set_ne false e];exact hp
  | 1,hB,h=>
   simp only[Gi,Bool.and_eq_true,decide_eq_true_eq,Bool.not_eq_true']at hB;obtain⟨⟨⟨⟨⟨⟨hr,hf⟩,hw⟩,hbi⟩,hed⟩,hun⟩,hB'⟩:=hB;have hr':i∈Region.ready md ops done:=by simpa using hr
   obtain⟨_,o,h0,_⟩:=mem_ready.1 hr';unfold zQ at h;simp only[nR,h0]at h;unfold su at h;have hp':p= !(done.setIfInBounds i true).getD b false:=by rw[getD_set_ne false (λe=>hbi e.symm)];exact hp
   by_cases hwt:Region.wanted o (yielded ops a.tmps)=true
   ·simp only[hwt,if_true]at h;obtain⟨v,hv,hK⟩:=h;exact BJ (E:=C) hbi h0 (Region.noSelect_spec hns) (λc a w hq=>hQ c a _ _ w hq) _ done a w (Region.free_spec h0 hf) (.inr ⟨λ_ h=>h,zda hed,hun⟩) hr' (wO hw) (.inl ⟨hwt,λw hC=>hv ⟨w,hC⟩⟩) (ih _ p _ w (by simpa using hsz) hp' hB' hK)
   ·simp only[hwt,Bool.false_eq_true,if_false]at h;exact BJ (E:=C) hbi h0 (Region.noSelect_spec hns) (λc a w hq=>hQ c a _ _ w hq) _ done a w (Region.free_spec h0 hf) (.inr ⟨λ_ h=>h,zda hed,hun⟩) hr' (wO hw) (.inr ⟨by simpa using hwt,rfl⟩) (ih _ p _ w (by simpa using hsz) hp' hB' h)
  | n+2,hB,h=>
   simp only[Gi,Bool.and_eq_true,decide_eq_true_eq]at hB;obtain⟨⟨⟨⟨hr,hf⟩,hw⟩,hbi⟩,hB'⟩:=hB;have hr':i∈Region.ready md ops done:=by simpa using hr
   obtain⟨_,o,h0,_⟩:=mem_ready.1 hr';unfold zQ at h;simp only[nR,h0]at h;unfold su at h;have hp':p= !(done.setIfInBounds i true).getD b false:=by rw[getD_set_ne false (λe=>hbi e.symm)];exact hp
   by_cases hwt:Region.wanted o (yielded ops a.tmps)=true
   ·simp only[hwt,if_true]at h;obtain⟨v,hv,hK⟩:=h;exact BJ (E:=D) hbi h0 (Region.noSelect_spec hns) (λc a w hq=>hQ c a _ _ w hq) _ done a w (Region.free_spec h0 hf) (.inl λ_ h=>h) hr' (wO hw) (.inl ⟨hwt,λw hC=>hv ⟨w,hC⟩⟩) (ih _ p _ w (by simpa using hsz) hp' hB' hK)
   ·simp only[hwt,Bool.false_eq_true,if_false]at h;exact BJ (E:=D) hbi h0 (Region.noSelect_spec hns) (λc a w hq=>hQ c a _ _ w hq) _ done a w (Region.free_spec h0 hf) (.inl λ_ h=>h) hr' (wO hw) (.inr ⟨by simpa using hwt,rfl⟩) (ih _ p _ w (by simpa using hsz) hp' hB' h)
theorem CV{id:Nat}{l:List Oper}{a:Act}{w:World}(b:Nat)(D C:World->Prop)(L:List (Nat×Nat))(hm:P.follows .mixedOrders=true)(hB:(Region.noSelect l.toArray&&Gi .any l.toArray b L (Array.replicate l.toArray.size false)&&decide (L.length=l.toArray.size)&&decide (b<l.toArray.size))=true)
  (hQ:∀c (a:Act) d v w,Q (.panic c) (a.put d v) w->Q (.panic c) a w)
  (h:zQ P l.toArray b D C Q L true a w.drew):(Code.region id l.toArray true).wp P Q a w:=by
 simp only[Bool.and_eq_true,decide_eq_true_eq]at hB;obtain⟨⟨⟨hns,hB⟩,hl⟩,hbs⟩:=hB;refine wp_region_any hm ?_;have H:=RG _ _ _ _ (zbg (md:= .any) hns hbs hQ L _ true a w.drew (by simp) (by simp[Array.getD]) hB h)
 rwa [hl]at H
end
def Nums(w:World)(v:Value)(l:List Int):Prop:=
 (l= []∧∃p c,v= .slice p 0 c)∨∃B off c,v= .slice (some ⟨B,off,none⟩) l.length c∧B<w.heap.size∧∀i,i<l.length->w.cell? ⟨B,off+i,none⟩=some (.int .i64 (l.getD i 0))
theorem Nums.len{w:World}{v:Value}{l:List Int}(h:Nums w v l):∃p c,v= .slice p l.length c:=by
 rcases h with⟨rfl,p,c,hv⟩|⟨B,off,c,hv,_⟩
 ·exact⟨p,c,hv⟩
 ·exact⟨_,c,hv⟩
theorem Nums.at{w:World}{p:Option Addr}{n c:Nat}{l:List Int}(h:Nums w (.slice p n c) l)(hl:0<l.length):∃B off,p=some ⟨B,off,none⟩∧n=l.length∧B<w.heap.size∧∀i,i<l.length->w.cell? ⟨B,off+i,none⟩=some (.int .i64 (l.getD i 0)):=by
 rcases h with⟨rfl,_⟩|⟨B,off,c,hv,hB,hc⟩
 ·simp at hl
 ·cases hv
  exact⟨B,off,rfl,rfl,hB,hc⟩
theorem Nums.keep{w w':World}{v:Value}{l:List Int}(h:Nums w v l){S:Nat->Prop}(hk:Keep S w w')(hn:∀b,v.ownBlock=some b->¬S b):Nums w' v l:=by
 rcases h with h|⟨B,off,c,hv,hB,hc⟩
 ·exact .inl h
 ·refine .inr ⟨B,off,c,hv,Nat.lt_of_lt_of_le hB hk.size,λi hi=> ?_⟩;rw[hk.cell (p:=⟨B,off+i,none⟩) hB (hn B (by rw[hv];rfl))];exact hc i hi
theorem Nums.lit{w:World}{E:TypeId}(l:List Int):Nums (w.alloc (.cells (l.map (Value.int .i64)).toArray E)) (.slice (some ⟨w.heap.size,0,none⟩) l.length l.length) l:=by refine .inr ⟨w.heap.size,0,l.length,rfl,by simp,λi hi=> ?_⟩;rw[Nat.zero_add,cell_of_row _ _ i _ E (0,0) (heap_alloc_new w _)];simp[hi]
def Ey(s:List UInt8)(i:Nat):List UInt8:=(s.drop (200*i)).take 200
theorem PK(s:List UInt8):∀n:Nat,(List.range n).flatMap (Ey s)=s.take (200*n)
 | 0=>by simp
 | n+1=>by rw[List.range_succ,List.flatMap_append,PK s n,Nat.mul_succ,List.take_add];simp[Ey]
theorem zcs{s:List UInt8}{n:Nat}(h:s.length<=200*n):(List.range n).flatMap (Ey s)=s:=by rw[PK,List.take_of_length_le h]
theorem zcr(s:List UInt8)(i:Nat):(Ey s i).length<=200:=by rw[Ey,List.length_take];omega
def leftB(s:ByteArray)(i:Nat):ByteArray:=s.extract (200*i) s.size
def Ez(s:ByteArray)(i:Nat):ByteArray:=s.extract (200*i) (200*i+200)
theorem toList_extract(s:ByteArray)(a b:Nat):(s.extract a b).data.toList=(s.data.toList.drop a).take (b-a):=by rw[ByteArray.data_extract,Array.toList_extract,List.extract_eq_take_drop]
theorem GZ(s:ByteArray)(i:Nat):(Ez s i).data.toList=Ey s.data.toList i:=by rw[Ez,toList_extract,Ey,Nat.add_sub_cancel_left]
theorem yM(s:ByteArray)(i:Nat):(leftB s i).data.toList=s.data.toList.drop (200*i):=by rw[leftB,toList_extract,List.take_of_length_le];rw[List.length_drop];exact Nat.le_refl _
theorem zb5(s:ByteArray):leftB s 0=s:=by apply ByteArray.ext;apply Array.toList_inj.1;rw[yM];rfl
theorem zb6(s:ByteArray)(i:Nat):(leftB s i).size=s.size-200*i:=by
 have:(leftB s i).data.toList.length=_:=congrArg List.length (yM s i)
 rw[List.length_drop]at this;exact this
theorem zel(s:ByteArray)(i:Nat):(leftB s i).extract 0 (min (leftB s i).size 200)=Ez s i∧(leftB s i).extract (min (leftB s i).size 200) (leftB s i).size=leftB s (i+1):=by
 have hl:(leftB s i).data.toList.length=(leftB s i).size:=rfl;constructor
 ·apply ByteArray.ext;apply Array.toList_inj.1;rw[toList_extract,GZ,yM,List.drop_zero,Nat.sub_zero,Ey];rw[yM]at hl;rw[<-hl];rcases Nat.le_total ((s.data.toList.drop (200*i)).length) 200 with h|h
  ·rw[Nat.min_eq_left h,List.take_length,List.take_of_length_le h]
  ·rw[Nat.min_eq_right h]
 ·apply ByteArray.ext;apply Array.toList_inj.1;rw[toList_extract,yM,yM,List.drop_drop];rw[yM]at hl;rw[<-hl];rcases Nat.le_total ((s.data.toList.drop (200*i)).length) 200 with h|h
  ·rw[Nat.min_eq_left h];rw[List.length_drop]at h;have h1:s.data.toList.drop (200*(i+1))= []:=List.drop_eq_nil_iff.2 (by omega);rw[h1,Nat.sub_self,List.take_zero]
  ·rw[Nat.min_eq_right h,List.take_of_length_le (by rw[List.length_drop,List.length_drop];omega)]
   congr 1
theorem GY(s:ByteArray)(i:Nat):(Ez s i).size<=200:=by have h:=zcr s.data.toList i;rw[<-GZ]at h;exact h
theorem U0{s:ByteArray}(h:s.size<=6400):((List.range 32).map (Ez s)).flatMap (λt=>t.data.toList)=s.data.toList:=by rw[List.flatMap_map];have e:(λi=>(Ez s i).data.toList)=Ey s.data.toList:=funext (GZ s);rw[e];exact zcs h
inductive Tr where
 | fin
 | no
 | rd (i:Nat) (t:Tr)
 | alt (i:Nat) (t:Tr) (u:Tr)
def Tr.len:Tr->Nat
 | .fin=>0
 | .no=>0
 | .rd _ t=>t.len+1
 | .alt _ t _=>t.len+1
def Tr.alts:Tr->List Nat
 | .alt i _ u=>i::u.alts
 | _=> []
section
variable {P:Program}{ops:Array Oper}{md:Region.Mode}{C:World->Prop}{Q:Exit->Act->World->Prop}
def okT(md:Region.Mode)(ops:Array Oper):Tr->Option Nat->Array Bool->Bool
 | .fin,none,done=>(List.range ops.size).all λj=>done.getD j false
 | .no,some _,_=>true
 | .rd i t,none,done=>(Region.ready md ops done).contains i&&Region.free md ops done i&&Ik md ops done i&&okT md ops t none (done.setIfInBounds i true)
 | .alt i t u,none,done=>decide (Region.ready md ops done=i::u.alts)&&okT md ops t none (done.setIfInBounds i true)&&okT md ops u (some t.len) done
 | .alt i t u,some n,done=>decide (t.len=n)&&okT md ops t none (done.setIfInBounds i true)&&okT md ops u (some n) done
 | _,_,_=>false
def IK(P:Program)(ops:Array Oper)(C:World->Prop)(Q:Exit->Act->World->Prop):Tr->Bool->Act->World->Prop
 | .fin,_,a,w=>Q .normal a w
 | .no,_,_,_=>True
 | .rd i t,_,a,w=>su P ops C (λa'=>IK P ops C Q t true a' w) (nR ops [i]) a
 | .alt i t u,true,a,w=>C w∧wpList P ops (Exit.then (IK P ops C Q t true) Q) (nR ops [i]) a w∧IK P ops C Q u false a w
 | .alt i t u,false,a,w=>wpList P ops (Exit.then (IK P ops C Q t true) Q) (nR ops [i]) a w∧IK P ops C Q u false a w
theorem zde(n:Nat):∀(u:Tr) (done:Array Bool) (a:Act) (w:World),okT md ops u (some n) done=true->IK P ops C Q u false a w->∀j∈u.alts,∃t:Tr,t.len=n∧SizeOf.sizeOf t<SizeOf.sizeOf u∧okT md ops t none (done.setIfInBounds j true)=true∧wpList P ops (Exit.then (IK P ops C Q t true) Q) (nR ops [j]) a w
 | .fin,_,_,_,_,_,j,hj=>by cases hj
 | .no,_,_,_,_,_,j,hj=>by cases hj
 | .rd _ _,_,_,_,_,_,j,hj=>by cases hj
 | .alt i t u,done,a,w,hB,h,j,hj=>by
  simp only[okT,Bool.and_eq_true,decide_eq_true_eq]at hB;rcases List.mem_cons.1 hj with rfl|hj
  ·exact⟨t,hB.1.1,by simp;omega,hB.1.2,h.1⟩
  ·obtain⟨t',h1,h2,h3,h4⟩:=zde n u done a w hB.2 h.2 j hj;exact⟨t',h1,by simp;omega,h3,h4⟩
theorem AP(hns:Region.noSelect ops=true)(hQ:∀c (a:Act) d v w,Q (.panic c) (a.put d v) w->Q (.panic c) a w)
  (t:Tr) (done:Array Bool) (a:Act) (w:World) (hB:okT md ops t none done=true) (h:IK P ops C Q t true a w):F9 P md ops C Q t.len done a w:=by
 match t,hB,h with
 | .fin,hB,h=>exact⟨λj hj=>List.all_eq_true.1 hB j (List.mem_range.2 hj),h⟩
 | .no,hB,h=>cases hB
 | .rd i t,hB,h=>
  simp only[okT,Bool.and_eq_true]at hB;obtain⟨⟨⟨hr,hf⟩,hw⟩,hB'⟩:=hB;have hr':i∈Region.ready md ops done:=by simpa using hr
  obtain⟨_,o,h0,_⟩:=mem_ready.1 hr';unfold IK at h;simp only[nR,h0]at h;unfold su at h;by_cases hwt:Region.wanted o (yielded ops a.tmps)=true
  ·simp only[hwt,if_true]at h;obtain⟨v,hv,hK⟩:=h;exact xX h0 (Region.noSelect_spec hns) (λc a w hq=>hQ c a _ _ w hq) _ done a w (Region.free_spec h0 hf) hr' (wO hw) (.inl ⟨hwt,λw hC=>hv ⟨w,hC⟩⟩) (AP hns hQ t _ _ w hB' hK)
  ·simp only[hwt,Bool.false_eq_true,if_false]at h;exact xX h0 (Region.noSelect_spec hns) (λc a w hq=>hQ c a _ _ w hq) _ done a w (Region.free_spec h0 hf) hr' (wO hw) (.inr ⟨by simpa using hwt,rfl⟩) (AP hns hQ t _ _ w hB' h)
 | .alt i t u,hB,h=>
  simp only[okT,Bool.and_eq_true,decide_eq_true_eq]at hB;refine⟨h.1,λh0=>(by rw[hB.1.1]at h0;cases h0),λj hj=> ?_⟩;obtain⟨_,o,ho,_⟩:=mem_ready.1 hj;rw[hB.1.1]at hj;rcases List.mem_cons.1 hj with rfl|hj
  ·exact wpOp_mono (λa' w' h'=>AP hns hQ t _ a' w' hB.1.2 h') (yz ho h.2.1)
  ·obtain⟨t',h1,h2,h3,h4⟩:=zde t.len u done a w hB.2 h.2.2 j hj;exact wpOp_mono (λa' w' h'=>by have:=AP hns hQ t' _ a' w' h3 h';rwa [h1]at this) (yz ho h4)
termination_by SizeOf.sizeOf t
theorem TG{id:Nat}{l:List Oper}{a:Act}{w:World}(C:World->Prop)(t:Tr)(hm:P.follows .mixedOrders=true)(hB:(Region.noSelect l.toArray&&okT .any l.toArray t none (Array.replicate l.toArray.size false)&&decide (t.len=l.toArray.size))=true)
  (hQ:∀c (a:Act) d v w,Q (.panic c) (a.put d v) w->Q (.panic c) a w)
  (h:IK P l.toArray C Q t true a w.drew):(Code.region id l.toArray true).wp P Q a w:=by
 simp only[Bool.and_eq_true,decide_eq_true_eq]at hB;obtain⟨⟨hns,hB⟩,hl⟩:=hB;refine wp_region_any hm ?_;have H:=EK _ _ _ _ (AP (md:= .any) hns hQ t _ a w.drew hB h)
 rwa [hl]at H
end
abbrev af:=ByteArray
theorem ah(S:Nat->Prop)(w:World):Keep S w w:=Keep.refl S w
abbrev aj:=@List.getElem?_toArray
abbrev ak:=@List.getElem?_cons_succ
abbrev au:=@List.getElem?_cons_zero
abbrev ax:=@List.getD_eq_getElem?_getD
abbrev ay:=@List.length_append
abbrev aB:=@if_neg
abbrev aC:=@List.getElem?_eq_getElem
abbrev aF:=@Nat.le_refl
abbrev aG:=@Go.heap_alloc_new
abbrev aH:=@Option.some.inj
abbrev aI:=@List.length_map
abbrev aK:=@List.length_cons
abbrev aN:=@List.getElem?_eq_some_iff
abbrev aO:=@Go.cell_of_row
abbrev aP:=@if_pos
abbrev aQ:=@List.mem_cons_of_mem
abbrev aS:=@decide_eq_true_eq
abbrev aT:=@List.take_succ_eq_append_getElem
abbrev aU:=@List.eq_nil_of_length_eq_zero
abbrev aV:=@List.take_of_length_le
abbrev aW:=@Go.IntWalk.i64_in
abbrev aX:=@ByteArray.size_append
abbrev aY:=@List.mem_cons_self
abbrev aZ:=@Bool.and_eq_true
abbrev bf:=@List.mem_map
abbrev bg:=@List.mem_of_getElem?
abbrev bu:=@List.append_assoc
abbrev bC:=@List.getElem?_map
abbrev bD:=@List.mem_singleton
abbrev bF:=@List.map_cons
abbrev bG:=@List.length_take
abbrev bH:=@Nat.le_trans
abbrev bI:=@List.length_nil
abbrev bJ:=@decide_eq_true
abbrev bK:=@List.mem_cons
abbrev bP:=@List.length_replicate
abbrev bQ:=@Go.ByteArray.toList_eq
abbrev bT:=@List.size_toArray
abbrev bU:=@List.pairwise_cons
abbrev bV:=@decide_eq_false
abbrev bW:=@Array.getElem?_eq_getElem
abbrev bY:=@List.take_succ_cons
abbrev bZ:=@List.take_zero
abbrev cu:=@List.getElem?_append_right
abbrev cO:=@List.drop_zero
abbrev cZ:=@List.flatMap_append
abbrev df:=@List.flatMap_cons
abbrev dh:=@List.drop_succ_cons
abbrev di:=@List.map_append
abbrev dA:=@Nat.lt_of_lt_of_le
abbrev dB:=@List.map_nil
abbrev dD:=@List.find?_cons
abbrev dE:=@List.getElem?_append_left
abbrev dF:=@Go.wpQuiet_nil
abbrev dG:=@List.mem_append
abbrev dH:=@List.mem_of_mem_take
abbrev dI:=@List.cons_append
abbrev dJ:=@List.append_nil
abbrev dK:=@congrArg
abbrev dL:=@Nat.zero_le
abbrev dM:=@Nat.zero_add
abbrev dN:=@List.length_set
abbrev dO:=@List.foldl_cons
abbrev dP:=@Bool.or_eq_true
abbrev dQ:=@ByteArray.data_append
abbrev dR:=@List.pairwise_map
abbrev dS:=@beq_eq_false_iff_ne
abbrev dU:=@Array.getElem?_eq_none
abbrev dV:=@ByteArray.size_extract
abbrev dW:=@Go.bodyPost_ret
abbrev dX:=@Go.block_lt_of_cell
abbrev dY:=@Array.size_push
abbrev dZ:=@Go.Lib.frozen_of_heap
abbrev eu:=@Array.getElem_modify_self
abbrev eH:=@Go.World.cell?_alloc_lt
abbrev eP:=@Go.World.size_alloc
abbrev eQ:=@Option.map_some
abbrev eU:=@Option.some.injEq
abbrev eY:=@Bool.not_eq_true'
abbrev fA:=@List.setIfInBounds_toArray
abbrev fC:=@Go.run_callFunc_extern
abbrev fD:=@List.getElem_mem
abbrev fE:=@Go.World.ownsRow.lt
abbrev fF:=@Go.callsIn_wide
abbrev fG:=@List.getElem?_take
abbrev fH:=@List.getElem?_eq_none
abbrev fJ:=@List.mem_filter
abbrev fK:=@List.nil_append
abbrev fM:=@List.take_left'
abbrev fO:=@Array.getElem?_eq_some_iff
abbrev fP:=@Array.replicate_succ
abbrev fQ:=@Array.replicate_zero
abbrev fU:=@List.map_map
abbrev fV:=@beq_self_eq_true
abbrev fZ:=@Go.World.cell?_setCell_same
abbrev gm:=@List.append_toArray
abbrev gp:=@List.mergeSort_perm
abbrev gq:=@Array.getElem?_modify
abbrev gu:=@List.length_singleton
abbrev gy:=@of_decide_eq_true
abbrev gz:=@Nat.two_pow_add_eq_or_of_lt
abbrev gG:=@Nat.mul_comm
abbrev gJ:=@decide_eq_false_iff_not
abbrev gK:=@Go.run_underlying
abbrev gQ:=@List.all_eq_true
abbrev gU:=@Array.toList_inj
abbrev gV:=@List.length_drop
abbrev gW:=@List.map_toArray
abbrev gY:=@List.drop_eq_getElem_cons
abbrev gZ:=@List.toList_toArray
abbrev ig:=@List.push_toArray
abbrev ik:=@Nat.le_succ
abbrev iq:=@List.length_filter_le
abbrev iw:=@List.set_append_right
abbrev iy:=@List.take_append_drop
abbrev iD:=@ByteArray.ext
abbrev iE:=@Prod.mk.injEq
abbrev iF:=@List.drop_left'
abbrev iG:=@Nat.zero_lt_one
abbrev iH:=@List.find?_eq_none
abbrev iI:=@List.any_eq_true
abbrev iJ:=@List.not_mem_nil
abbrev iK:=@Bool.true_and
abbrev iL:=@Bool.false_and
abbrev iM:=@Nat.mod_lt
abbrev iO:=@List.mem_range
abbrev iP:=@List.map_congr_left
abbrev iQ:=@List.mem_of_find?_eq_some
abbrev iR:=@List.pairwise_iff_getElem
abbrev iT:=@List.mem_or_eq_of_mem_set
abbrev iU:=@Array.getElem?_toList
abbrev iV:=@Nat.lt_of_le_of_lt
abbrev iW:=@List.mem_replicate
abbrev iY:=@List.flatMap_nil
abbrev iZ:=@List.getElem?_of_mem
abbrev je:=@List.any_eq_false
abbrev jf:=@Int.toNat_natCast
abbrev jg:=@List.getElem?_replicate
abbrev jh:=@Go.Lib.run_convert_string_bytes
abbrev ji:=@Nat.min_eq_left
abbrev jk:=@Go.MapKept.run_getObj_map
abbrev jl:=@Go.MapKept.run_setObj_map
abbrev jm:=@Go.results_none
abbrev jo:=@Go.setRow_other
abbrev jr:=@List.length_eq_one_iff
abbrev jw:=@Nat.mod_eq_of_lt
abbrev jy:=@List.ext_getElem
abbrev jA:=@List.Perm.refl
abbrev jB:=@Nat.xor_lt_two_pow
abbrev jC:=@List.getElem?_zip_eq_some
abbrev jD:=@Go.wpList_load_row
abbrev jE:=@Bool.eq_iff_iff
abbrev jF:=@Go.Oper.semAt_some
abbrev jG:=@Go.Sem.run_bind
abbrev jH:=@Bool.or_eq_false_iff
abbrev jI:=@BitVec.ofInt_natCast
abbrev jJ:=@Go.wpList_append_own
abbrev jK:=@List.foldl_append
abbrev jL:=@Nat.add_zero
abbrev jM:=@Nat.mul_le_mul_right
abbrev jO:=@Int.le_refl
abbrev jP:=@beq_iff_eq
abbrev jQ:=@List.getElem_of_mem
abbrev jR:=@Array.toList_append
abbrev jS:=@Go.IntKind.wrap_u32
abbrev jT:=@List.foldl_nil
abbrev jU:=@Go.World.frozen?_alloc_old
abbrev jV:=@BitVec.toNat_ofNat
abbrev jW:=@List.getElem?_set_self
abbrev jX:=@ByteArray.append_assoc
abbrev jY:=@or_false
abbrev jZ:=@Array.getElem?_setIfInBounds
abbrev ku:=@List.perm_append_comm
abbrev kz:=@List.length_mergeSort
abbrev kC:=@Nat.or_lt_two_pow
abbrev kD:=@Go.World.ownsRow_nil
abbrev kE:=@Go.DataW.held.inj
abbrev kF:=@Go.Calls.quiet_of
abbrev kG:=@Go.info_parts
abbrev kH:=@List.dropWhile_cons_of_pos
abbrev kJ:=@List.filter_cons
abbrev kK:=@Go.RowKit.Below.heap_alloc
abbrev kL:=@List.map_set
abbrev kM:=@Go.wpQuiet_step
abbrev kN:=@Nat.zero_lt_succ
abbrev kP:=@Nat.min_eq_right
abbrev kQ:=@List.mem_flatMap
abbrev kR:=@List.mem_reverse
abbrev kS:=@Nat.lt_succ_self
abbrev kT:=@Option.getD_some
abbrev kU:=@Iff.rfl
abbrev kV:=@List.length_pos_iff
abbrev kW:=@List.replicate_succ
abbrev kX:=@List.getElem?_range
abbrev kY:=@Go.callsIn_of_wp
abbrev kZ:=@List.eq_of_mem_replicate
abbrev lh:=@List.find?_some
abbrev lq:=@Nat.div_le_self
abbrev lu:=@Go.Obj.cells.injEq
abbrev lD:=@Bool.false_eq_true
abbrev lF:=@Array.ext_getElem?
abbrev lG:=@Go.RowKit.Below.refl
abbrev lH:=@List.pairwise_singleton
abbrev lI:=@List.pairwise_mergeSort
abbrev lJ:=@List.filter_congr
abbrev lK:=@Nat.lt_or_ge
abbrev lM:=@List.getElem?_set
abbrev lN:=@Go.wp_loop_rounds
abbrev lQ:=@Go.Result.andThen_ok
abbrev lS:=@Bool.not_false
abbrev lT:=@List.ext_getElem?
abbrev lU:=@Nat.sub_self
abbrev lV:=@List.drop_of_length_le
abbrev lW:=@Go.Lib.cell_of_heap
abbrev lX:=@List.take_length
abbrev lY:=@List.mem_nil_iff
abbrev lZ:=@Go.rounds_succ
abbrev mf:=@List.getElem?_set_ne
abbrev mg:=@Bool.and_eq_true_iff
abbrev mi:=@List.count_le_length
abbrev mr:=@List.pairwise_append
abbrev mD:=@Go.leaves_cons
abbrev mF:=@List.range_succ
abbrev mG:=@Array.length_toList
abbrev mJ:=@List.drop_replicate
abbrev mM:=@Nat.add_comm
abbrev mO:=@Nat.zero_mul
abbrev mP:=@Go.bodyPost_end
abbrev mQ:=@List.map_replicate
abbrev mV:=@Nat.eq_zero_or_pos
abbrev mW:=@Nat.add_sub_cancel
abbrev mX:=@Array.extract_size
abbrev mY:=@Int.mul_le_mul
abbrev mZ:=@of_decide_eq_false
abbrev ng:=@Nat.mul_one
abbrev ni:=@Bool.not_true
abbrev nD:=@Nat.not_lt
end Go.Proofs.YtopbkdebihcmcaaGreatDoor
