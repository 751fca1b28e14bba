import Derived.Lib.Hide
import Derived.Test.YtbcmmbeadgiiiaaGreatDoorProg
import Derived.Test.YtbcmmbeadgiiiaaGreatDoorYAA
import Derived.Test.YtbcmmbeadgiiiaaGreatDoorYAC
import Derived.WalkSmall
import Derived.Deep.WholeRow
import Derived.Lib.ConvBytes
set_option linter.all false
namespace Go.Proofs.YtbcmmbeadgiiiaaGreatDoor
open Go.RowKit Tryz
set_option maxRecDepth 100000
set_option maxHeartbeats 16000000
variable{ops:Array Oper}{args:Array Value}{Q:Exit->Act->World->Prop}{f:FuncId}{k:IntKind}{l:List Nat}{rest:List Oper}{xs:List Value}{B base cap g i n:Nat}{S S':Nat->Prop}{p:Option Addr}{P:Program}{v:Value}{a b c w w':World}
abbrev _root_.Go.RowKit.Hid.o:=@Go.RowKit.Hid.out
abbrev _root_.Go.Calls.m:=@Go.Calls.mono
abbrev _root_.Eq.t:=@Eq.trans
abbrev _root_.Iff.t:=@Iff.trans
abbrev _root_.List.Perm.t:=@List.Perm.trans
abbrev _root_.Eq.s:=@Eq.symm
abbrev _root_.Iff.s:=@Iff.symm
abbrev _root_.Ne.s:=@Ne.symm
abbrev _root_.List.Perm.s:=@List.Perm.symm
abbrev _root_.Go.CallsIn.m:=@Go.CallsIn.mono
abbrev _root_.Go.RoundIn.m:=@Go.RoundIn.mono
abbrev _root_.Go.RowKit.Below.m:=@Go.RowKit.Below.mono
abbrev _root_.Go.RowKit.Below.t:=@Go.RowKit.Below.trans
structure Keep(S:Nat->Prop)(w w':World):Prop where
 os:w'.os=w.os
 tape:w'.tape=w.tape
 output:w'.output=w.output
 size:w.heap.size<=w'.heap.size
 block:∀k,k<w.heap.size->¬S k->w'.heap[k]? =w.heap[k]?
def qw:Nat->Prop:=λ_=>False
def qJ(b:Nat):Nat->Prop:=λk=>k=b
def Keep.refl(S:Nat->Prop)(w:World):Keep S w w:=⟨rfl,rfl,rfl,Nat.le_refl _,λ_ _ _=>rfl⟩
def Keep.t(h:Keep S a b)(k:Keep S' b c)(hs:∀i,i<a.heap.size->S' i->S i):Keep S a c:=
 ⟨k.os.t h.os,k.tape.t h.tape,k.output.t h.output,Nat.le_trans h.size k.size,λi hi hn=>
  (k.block i (Nat.lt_of_lt_of_le hi h.size) (λs=>hn (hs i hi s))).t (h.block i hi hn)⟩
def Keep.then(h:Keep S a b)(k:Keep S b c):Keep S a c:=h.t k (λ_ _ s=>s)
def Keep.qo(h:Keep S a b)(k:Keep qw b c):Keep S a c:=h.t k (λ_ _ s=>s.elim)
def Keep.m(h:Keep S a b)(hs:∀i,i<a.heap.size->S i->S' i):Keep S' a b:=
 ⟨h.os,h.tape,h.output,h.size,λi hi hn=>h.block i hi (λs=>hn (hs i hi s))⟩
def Keep.yw(h:Keep qw a b):Keep S a b:=h.m (λ_ _ s=>s.elim)
def Keep.drew(h:Keep S a w):Keep S a w.drew:=⟨h.os,h.tape,h.output,h.size,h.block⟩
def Keep.drewN(h:Keep S a w)(n:Nat):Keep S a (w.drewN n):=⟨h.os,h.tape,h.output,h.size,h.block⟩
def Keep.alloc(h:Keep S a w)(o:Obj):Keep S a (w.alloc o):=
 h.qo ⟨rfl,rfl,rfl,by simp,λk hk _=>Below.heap_alloc _ _ _ hk⟩
def Keep.setCell(h:Keep S a w){p:Addr}(hp:S p.block∨a.heap.size<=p.block)(u:Value):Keep S a (w.setCell p u):=by
 refine⟨h.os,h.tape,h.output,?_,?_⟩
 ·have:=h.size
  simpa [World.setCell]using this
 intro k hk hn;rw[Below.heap_setCell _ _ _ _ (λe=>by rcases hp with hp|hp;exact hn (e▸hp);omega)];exact h.block k hk hn
def Keep.tK(h:Keep (qJ B) a w)(i:Nat)(u:Value):Keep (qJ B) a (w.setCell ⟨B,i,none⟩ u):=h.setCell (p:=⟨B,i,none⟩) (.inl rfl) u
def Keep.cell(h:Keep S w w'){p:Addr}(hp:p.block<w.heap.size)(hn:¬S p.block):w'.cell? p=w.cell? p:=
 World.cell?_of_block (w:=w) (h.block p.block hp hn)
def Keep.frozen(h:Keep S w w'){p:Addr}(hp:p.block<w.heap.size)(hn:¬S p.block):w'.frozen? p=w.frozen? p:=
 World.frozen?_of_block (w:=w) (h.block p.block hp hn)
def lt_of_heap{b:Nat}{o:Obj}(h:w.heap[b]? =some o):b<w.heap.size:=by
 rcases Nat.lt_or_ge b w.heap.size with h'|h'
 ·exact h'
 simp[Array.getElem?_eq_none h']at h
def Keep.heap(h:Keep S w w'){b:Nat}{o:Obj}(hb:w.heap[b]? =some o)(hn:¬S b):w'.heap[b]? =some o:=
 (h.block b (lt_of_heap hb) hn).t hb
def Keep.toBelow(h:Keep qw w w'):Below w.heap.size w w':=⟨h.os,h.tape,h.output,h.size,λk hk=>h.block k hk (λx=>x)⟩
def Keep.Em(h:Below w.heap.size w w'):Keep qw w w':=⟨h.os,h.tape,h.output,h.size,λk hk _=>h.block k hk⟩
def Ext(w:World):Type:= { w':World//Keep qw w w' }
def _root_.Go.World.ext(w:World)(x:Ext w):World:=x.1
def rZ(w:World)(x:Ext w):Keep qw w (w.ext x):=x.2
def zvi(h:Keep qw w w'):∃x:Ext w,w'=w.ext x:=⟨⟨w',h⟩,rfl⟩
@[go_sem] theorem cell?_ext (w:World) (x:Ext w) (b o:Nat) (hb:b<w.heap.size):(w.ext x).cell? ⟨b,o,none⟩=w.cell? ⟨b,o,none⟩:=(rZ w x).cell (p:=⟨b,o,none⟩) hb (λx=>x)
def ints(k:IntKind)(l:List Nat):Array Value:=(l.map λ(n:Nat)=>Value.int k (n:Int)).toArray
def Row(w:World)(B:Nat)(k:IntKind)(T:TypeId)(l:List Nat):Prop:=w.heap[B]? =some (.cells (ints k l) T (0,0))
def Row.lt{w:World}{B:Nat}{k:IntKind}{T:TypeId}{l:List Nat}(h:Row w B k T l):B<w.heap.size:=lt_of_heap h
def Row.cell{T:TypeId}(h:Row w B k T l)(i:Nat)(hi:i<l.length):w.cell? ⟨B,i,none⟩=some (.int k ((l.getD i 0:Nat):Int)):=by unfold Row at h;simp[World.cell?,h,ints,hi]
def Row.free{T:TypeId}(h:Row w B k T l)(i:Nat):w.frozen? ⟨B,i,none⟩=false:=by unfold Row at h;simp[World.frozen?,h]
def Row.drewN{T:TypeId}(h:Row w B k T l)(n:Nat):Row (w.drewN n) B k T l:=h
def Row.store{T:TypeId}(h:Row w B k T l)(i:Nat){v:Int}(hv:v=(n:Int)):
  Row (w.setCell ⟨B,i,none⟩ (.int k v)) B k T (l.set i n):=by
 have rE:=h.lt;unfold Row at h⊢;have h':w.heap[B]= .cells (ints k l) T (0,0):=by simpa [Array.getElem?_eq_getElem rE]using h
 show(w.heap.modify B _)[B]? =_;rw[Array.getElem?_eq_getElem (by simpa using rE),Array.getElem_modify_self,h',hv];simp[ints]
def Row.qm{T:TypeId}(h:Row w B k T l)(hk:Keep S w w')(hn:¬S B):Row w' B k T l:=hk.heap h hn
def Row.alloc{T:TypeId}(h:Row w B k T l)(o:Obj):Row (w.alloc o) B k T l:=(Below.heap_alloc w o B h.lt).t h
def Row.grown{T:TypeId}(h:Row w B k T l){row:Option Nat}(hg:w.grownBy w' row)(hn:some B≠row):Row w' B k T l:=(hg.block B h.lt hn).t h
def qL{o:Oper}{a:Act}(hgd:o.guard=none)(ty:TypeId)(x y:Operand)(ho:o.op= .store ty x y)
  (g:Nat) (t:TypeId) (cs c':Array Value) (hx:a.eval x= .pointer (some ⟨g,0,none⟩)) (hy:a.eval y= .agg c') (hg:w.heap[g]? =some (.cells cs t (0,0)))
  (hi:(P.info? ty).map (·.size)=some c'.size) (n:Nat) (hn:cs.size=n) (hn':c'.size=n) (h1:c'.all (·.oneCell')=true)
  (h:wpList P ops Q rest (a.put o.dst undef) (w.setRow g c')):wpList P ops Q (o::rest) a w:=
 wpList_plain hgd λK hK=>by unfold Oper.wp execOp;simp only[ho,hx,hy,Instr.storeAt,Instr.sureAddr,Sem.run_bind,Sem.run_pure,Result.andThen_ok,run_storeVar_row w g t ty cs c' hg hi (hn.t hn'.s) h1];exact hK _ _ h
def qO{cs c':Array Value}{t:TypeId}(hg:w.heap[g]? =some (.cells cs t (0,0))):(w.setRow g c').heap[g]? =some (.cells c' t (0,0)):=setRow_heap w g cs c' t _ hg
def Keep.setRow(h:Keep S a w)(hg:S g∨a.heap.size<=g)(c:Array Value):Keep S a (w.setRow g c):=by
 refine⟨h.os,h.tape,h.output,?_,?_⟩
 ·have:=h.size
  simpa [World.setRow]using this
 intro k hk hn;rw[setRow_other w g k _ (λe=>by subst e;rcases hg with hg|hg;exact hn hg;omega)];exact h.block k hk hn
def Keep.grown{row:Option Nat}(h:Keep S a w)(hg:w.grownBy w' row)(hr:∀k,row=some k->S k∨a.heap.size<=k):Keep S a w':=
 ⟨hg.os.t h.os,hg.tape.t h.tape,hg.output.t h.output,Nat.le_trans h.size hg.size,λk hk hn=>
  (hg.block k (Nat.lt_of_lt_of_le hk h.size) (λe=>by rcases hr k e.s with s|s;exact hn s;omega)).t (h.block k hk hn)⟩
def Fh(k:IntKind)(l:List Nat):(ints k l).size=l.length:=by simp[ints]
def Pv(k:IntKind)(l:List Nat):(ints k l).all (·.oneCell')=true:=by rw[Array.all_eq_true_iff_forall_mem];intro v hv;simp only[ints,List.mem_toArray,List.mem_map]at hv;obtain⟨n,_,rfl⟩:=hv;rfl
def EE{T E:TypeId}{len:Nat}{kd k1:IntKind}{d:TypeDesc}(hu:P.underlying T=some (.array len E))(hE:P.underlying E=some d)(hd:d= .int k1)(hs:(P.info? E).map (·.size)=some 1)
  (l:List Nat) (i:Nat) (hl:l.length=len) (hi:i<len) (w:World):(Instr.index T (.agg (ints kd l)) (.int .i64 i)).run P w= .ok (.int kd ((l.getD i 0:Nat):Int)) w:=by
 subst hd;cases hq:P.info? E with
 | none=>simp[hq]at hs
 | some inf=>
  have h1:inf.size=1:=by simpa [hq]using hs
  have hi':i<l.length:=by omega
  have hc:(ints kd l)[i]? =some (.int kd ((l.getD i 0:Nat):Int)):=by simp[ints,hi']
  have hii:(i:Int)<(len:Int):=by omega
  simp[Instr.index,asIntOf,run_underlying hu,run_underlying hE,sizeOf,typeInfo,hq,h1,part,isAgg,hc,hi]
def rJ(w:World)(news:List Value)(t:TypeId):∀(j:Nat) (u:Value),news[j]? =some u->(w.alloc (.cells news.toArray t)).cell? ((⟨w.heap.size,0,none⟩:Addr).add j)=some u:=by
 intro j u hu;have Dz:(⟨w.heap.size,0,none⟩:Addr).add j=⟨w.heap.size,j,none⟩:=by unfold Addr.add;split<;>simp_all
 rw[Dz,cell_of_row _ _ j _ t (0,0) (heap_alloc_new w _)]
 simpa using hu
def zsi(k:IntKind)(a b c d:Int):∀u∈ [Value.int k a,Value.int k b,Value.int k c,Value.int k d],u.oneCell'=true:=by intro u hu;simp only[List.mem_cons,List.not_mem_nil,or_false]at hu;rcases hu with rfl|rfl|rfl|rfl<;>rfl
def EL(k:IntKind)(a:Int):∀u∈ [Value.int k a],u.oneCell'=true:=by intro u hu;simp only[List.mem_cons,List.not_mem_nil,or_false]at hu;subst hu;rfl
def DV(l:List Nat):List Value:=l.map λ(x:Nat)=>Value.int .u8 (x:Int)
def zev(l:List Nat):(DV l).length=l.length:=by simp[DV]
def zl(a b:List Nat):DV (a++b)=DV a++DV b:=by simp[DV]
def VR(l:List Nat):strOfNums (l.map λ(x:Nat)=>(x:Int))=uu l:=by unfold strOfNums uu;rw[List.map_map];rfl
def BU{E:TypeId}{src dst:TypeId}(h:w.ownsRow base E 1 v l.length (DV l))
  (hs:P.underlying src=some (.slice E)) (he:P.underlying E=some (.int .u8)) (hd:P.underlying dst=some .string):(convert src dst v).run P w= .ok (.string (uu l)) w:=by
 rcases h.2 with⟨rfl,hn⟩|⟨g,cap,cur,rfl,_,hg,_,_,_,zyh⟩
 ·have:l= []:=List.eq_nil_of_length_eq_zero hn
  subst this;exact run_convert_bytes_nil w src E hs he 0 0 dst hd
 ·rw[run_convert_bytes_arg w src E hs he g 0 l.length cap (l.map λ(x:Nat)=>(x:Int)) (by simp) ?_ dst hd,VR];intro i hi;rw[Nat.zero_add,cell_of_row w g i cur E (0,0) hg];have h1:(cur.toList.take (l.length*1))[i]? =(DV l)[i]? :=by rw[zyh]
  rw[List.getElem?_take,if_pos (by omega)]at h1;simp only[Array.getElem?_toList]at h1;rw[h1];simp[DV,hi]
def wU(w:World)(B:Nat)(E:TypeId)(l:List Nat):Prop:=
 ∃cur fr,w.heap[B]? =some (.cells cur E fr)∧cur.toList.take l.length=DV l∧∀i,i<l.length->(decide (fr.1<=i)&&decide (i<fr.2))=false
def wU.lt{w:World}{B:Nat}{E:TypeId}{l:List Nat}(h:wU w B E l):B<w.heap.size:=by obtain⟨cur,fr,hb,_⟩:=h;exact lt_of_heap hb
def zrk{cur:Array Value}(h:cur.toList.take l.length=DV l)(i:Nat)(hi:i<l.length):cur[i]? =some (.int .u8 ((l.getD i 0:Nat):Int)):=by
 have h1:(cur.toList.take l.length)[i]? =(DV l)[i]? :=by rw[h]
 rw[List.getElem?_take,if_pos hi]at h1;simp only[Array.getElem?_toList]at h1;rw[h1];simp[DV,hi]
def wU.cell{E:TypeId}(h:wU w B E l)(i:Nat)(hi:i<l.length):w.cell? ⟨B,i,none⟩=some (.int .u8 ((l.getD i 0:Nat):Int)):=by obtain⟨cur,fr,hb,ht,_⟩:=h;rw[cell_of_row w B i cur E fr hb];exact zrk ht i hi
def wU.free{E:TypeId}(h:wU w B E l)(i:Nat)(hi:i<l.length):w.frozen? ⟨B,i,none⟩=false:=by
 obtain⟨cur,fr,hb,_,hf⟩:=h;obtain⟨lo,hi'⟩:=fr
 simpa [World.frozen?,hb]using hf i hi
def wU.drewN{E:TypeId}(h:wU w B E l)(n:Nat):wU (w.drewN n) B E l:=h
def wU.store{E:TypeId}(h:wU w B E l)(i:Nat)(hi:i<l.length){v:Int}(hv:v=(n:Int)):wU (w.setCell ⟨B,i,none⟩ (.int .u8 v)) B E (l.set i n):=by
 obtain⟨cur,fr,hb,ht,hf⟩:=h;have rE:=lt_of_heap hb;refine⟨cur.setIfInBounds i (.int .u8 v),fr,?_,?_,?_⟩
 ·have h':w.heap[B]= .cells cur E fr:=by simpa [Array.getElem?_eq_getElem rE]using hb
  show(w.heap.modify B _)[B]? =_;rw[Array.getElem?_eq_getElem (by simpa using rE),Array.getElem_modify_self,h'];rfl
 ·rw[List.length_set,Array.toList_setIfInBounds,List.take_set,ht,hv];simp[DV,List.map_set]
 intro j hj;exact hf j (by simpa using hj)
def wU.qm{E:TypeId}(h:wU w B E l)(hk:Keep S w w')(hn:¬S B):wU w' B E l:=by obtain⟨cur,fr,hb,r⟩:=h;exact⟨cur,fr,hk.heap hb hn,r⟩
def wU.ofBytes(w:World)(E:TypeId)(s:ByteArray):wU (Lib.bytesWorld w E s) w.heap.size E (bs s):=by
 refine⟨_,_,Lib.bytesWorld_at_new w E s,?_,?_⟩
 ·rw[ry];unfold Lib.bytesCells;rw[Array.toList_append];have e:(Array.map (λb=>Value.int .u8 (b.toNat:Int)) s.data).toList=DV (bs s):=by
   simp[DV,bs,List.map_map]
  have el:(DV (bs s)).length=s.size:=by rw[zev,ry]
  rw[e,List.take_append_of_le_length (by omega),List.take_of_length_le (by omega)]
 intro i hi
 have:i<(Lib.bytesCells w E s).size:=by unfold Lib.bytesCells;rw[ry]at hi;have e:s.data.size=s.size:=rfl;simp only[Array.size_append,Array.size_map];omega
 simp;omega
def Keep.bytesWorld(h:Keep S a w)(E:TypeId)(s:ByteArray):Keep S a (Lib.bytesWorld w E s):=by
 refine h.qo ⟨?_,?_,?_,?_,?_⟩
 ·rfl
 ·rfl
 ·rfl
 ·rw[Lib.bytesWorld_size];omega
 intro k hk _;exact Lib.bytesWorld_at_old w E s k hk
def yF{E:TypeId}{src dst:TypeId}(h:wU w B E l)
  (hs:P.underlying src=some (.slice E)) (he:P.underlying E=some (.int .u8)) (hd:P.underlying dst=some .string):(convert src dst (.slice (some ⟨B,0,none⟩) l.length cap)).run P w= .ok (.string (uu l)) w:=by
 rw[run_convert_bytes_arg w src E hs he B 0 l.length cap (l.map λ(x:Nat)=>(x:Int)) (by simp) ?_ dst hd,VR];intro i hi;rw[Nat.zero_add,h.cell i hi];simp[hi]
def zbH{T:TypeId}(hu:P.underlying T=some .string)(s:ByteArray)(k:IntKind)(i:Int)(n:Nat)(hi:i=n)(hn:n<s.size)(w:World):
  (Instr.index T (.string s) (.int k i)).run P w= .ok (.int .u8 (((bs s).getD n 0:Nat):Int)) w:=by
 subst hi;rw[xZ s n hn];simp[Instr.index,asIntOf,run_underlying hu,hn]
def ED(w:World){E:TypeId}{src dst:TypeId}(hs:P.underlying src=some (.slice E))(he:P.underlying E=some (.int .u8))(hd:P.underlying dst=some .string)(x:Int)(n:Nat)(hx:x=n):
  (convert src dst (.slice (some ⟨w.heap.size,0,none⟩) 1 1)).run P (w.alloc (.cells #[.int .u8 x] E))= .ok (.string (uu [n])) (w.alloc (.cells #[.int .u8 x] E)):=by
 subst hx;exact yF (l:= [n]) ⟨_,_,heap_alloc_new w _,rfl,λi _=>by simp⟩ hs he hd
def cellsOf(k:IntKind)(l:List Nat):List Value:=l.map λ(x:Nat)=>Value.int k (x:Int)
def PR(k:IntKind)(l:List Nat):(cellsOf k l).length=l.length:=by simp[cellsOf]
def BV(k:IntKind)(a b:List Nat):cellsOf k (a++b)=cellsOf k a++cellsOf k b:=by simp[cellsOf]
def PT(k:IntKind)(l:List Nat)(i:Nat)(h:i<l.length):(cellsOf k l)[i]? =some (.int k ((l.getD i 0:Nat):Int)):=by simp[cellsOf,h]
def uH(w:World)(B:Nat)(E:TypeId)(k:IntKind)(l:List Nat):Prop:=
 ∃cur fr,w.heap[B]? =some (.cells cur E fr)∧cur.toList.take l.length=cellsOf k l∧∀i,i<l.length->(decide (fr.1<=i)&&decide (i<fr.2))=false
def uH.lt{w:World}{B:Nat}{E:TypeId}{k:IntKind}{l:List Nat}(h:uH w B E k l):B<w.heap.size:=by obtain⟨cur,fr,hb,_⟩:=h;exact lt_of_heap hb
def uH.cell{E:TypeId}(h:uH w B E k l)(i:Nat)(hi:i<l.length):w.cell? ⟨B,i,none⟩=some (.int k ((l.getD i 0:Nat):Int)):=by
 obtain⟨cur,fr,hb,ht,_⟩:=h;rw[cell_of_row w B i cur E fr hb];have h1:(cur.toList.take l.length)[i]? =(cellsOf k l)[i]? :=by rw[ht]
 rw[List.getElem?_take,if_pos hi,PT k l i hi]at h1
 simpa using h1
def uH.free{E:TypeId}(h:uH w B E k l)(i:Nat)(hi:i<l.length):w.frozen? ⟨B,i,none⟩=false:=by
 obtain⟨cur,fr,hb,_,hf⟩:=h;obtain⟨lo,hi'⟩:=fr
 simpa [World.frozen?,hb]using hf i hi
def uH.drewN{E:TypeId}(h:uH w B E k l)(n:Nat):uH (w.drewN n) B E k l:=h
def uH.store{E:TypeId}(h:uH w B E k l)(i:Nat){v:Int}(hv:v=(n:Int)):uH (w.setCell ⟨B,i,none⟩ (.int k v)) B E k (l.set i n):=by
 obtain⟨cur,fr,hb,ht,hf⟩:=h;have rE:=lt_of_heap hb;refine⟨cur.setIfInBounds i (.int k v),fr,?_,?_,?_⟩
 ·have h':w.heap[B]= .cells cur E fr:=by simpa [Array.getElem?_eq_getElem rE]using hb
  show(w.heap.modify B _)[B]? =_;rw[Array.getElem?_eq_getElem (by simpa using rE),Array.getElem_modify_self,h'];rfl
 ·rw[List.length_set,Array.toList_setIfInBounds,List.take_set,ht,hv];simp[cellsOf,List.map_set]
 intro j hj;exact hf j (by simpa using hj)
def uH.qm{E:TypeId}(h:uH w B E k l)(hk:Keep S w w')(hn:¬S B):uH w' B E k l:=by obtain⟨cur,fr,hb,r⟩:=h;exact⟨cur,fr,hk.heap hb hn,r⟩
def uH.zfZ{E:TypeId}(h:w.ownsRow base E 1 (.slice (some ⟨g,0,none⟩) l.length cap) l.length (cellsOf k l)):uH w g E k l:=by
 rcases h.2 with⟨h,_⟩|⟨g',TG,cur,hv,_,hg,_,_,_,ht⟩
 ·cases h
 cases hv
 refine⟨cur,(0,0),hg,by rw[Nat.mul_one]at ht;exact ht,λi _=>by simp⟩
def Pn{E:TypeId}{size:Nat}(h:w.ownsRow base E size v n xs)(hn:0<n):∃g cap,v= .slice (some ⟨g,0,none⟩) n cap∧base<=g:=by
 rcases h.2 with⟨_,h0⟩|⟨g,cap,cur,hv,hb,_⟩
 ·omega
 exact⟨g,cap,hv,hb⟩
def Keep.ownsRow(hk:Keep S w w'){E:TypeId}{size:Nat}(h:w.ownsRow base E size v n xs)(hn:∀b,v.ownBlock=some b->¬S b):w'.ownsRow base E size v n xs:=by
 refine⟨h.1,?_⟩;rcases h.2 with h2|⟨g,cap,cur,hv,hg,hh,r⟩
 ·exact .inl h2
 subst hv;exact .inr ⟨g,cap,cur,rfl,hg,hk.heap hh (hn g rfl),r⟩
def qW{c:Code}{a:Act}(R:World->Prop)(h:R w)(k:∀w1,R w1->Code.wp P c Q a w1):Code.wp P c Q a w:=k w h
def Yo(k:IntKind)(l:List Nat):∀u∈cellsOf k l,u.oneCell'=true:=by intro u hu;simp only[cellsOf,List.mem_map]at hu;obtain⟨n,_,rfl⟩:=hu;rfl
def uH.cells{E:TypeId}(h:uH w B E k l)(j:Nat)(u:Value)(hj:(cellsOf k l)[j]? =some u):w.cell? ((⟨B,0,none⟩:Addr).add j)=some u:=by
 have rE:j<l.length:=by
  have:=(List.getElem?_eq_some_iff.mp hj).1
  rwa [PR]at this
 rw[PT k l j rE]at hj;have Dz:(⟨B,0,none⟩:Addr).add j=⟨B,j,none⟩:=by unfold Addr.add;split<;>simp_all
 rw[Dz,h.cell j rE,hj]
def Clear(fz:Nat×Nat)(n:Nat):Prop:=∀i,i<n->(decide (fz.1<=i)&&decide (i<fz.2))=false
def Clear.zero(n:Nat):Clear (0,0) n:=λi _=>by simp
def qF(w:World)(base:Nat)(e:TypeId)(size:Nat)(v:Value)(n:Nat)(xs:List Value):Prop:=
 xs.length=n*size∧
 ((v= .slice none 0 0∧n=0)∨∃g cap cur fz,v= .slice (some ⟨g,0,none⟩) n cap∧base<=g∧w.heap[g]? =some (.cells cur e fz)∧Clear fz cur.size∧n<=cap∧cap<=maxLen∧cur.size=cap*size∧cur.toList.take (n*size)=xs)
section
variable {w:World}{base:Nat}{e:TypeId}{size:Nat}{v:Value}{n:Nat}{xs:List Value}
def qF.of(h:w.ownsRow base e size v n xs):qF w base e size v n xs:=
 ⟨h.1,h.2.elim .inl λ⟨g,cap,cur,hv,hb,hg,r⟩=> .inr ⟨g,cap,cur,(0,0),hv,hb,hg,Clear.zero _,r⟩⟩
def qF.nil(w:World)(base:Nat)(e:TypeId)(size:Nat):qF w base e size (.slice none 0 0) 0 []:=⟨by simp,.inl ⟨rfl,rfl⟩⟩
def qF.down{zsX:Nat}(h:qF w zsX e size v n xs)(hb:base<=zsX):qF w base e size v n xs:=
 ⟨h.1,h.2.elim .inl λ⟨g,cap,cur,fz,hv,hg,r⟩=> .inr ⟨g,cap,cur,fz,hv,Nat.le_trans hb hg,r⟩⟩
def qF.lt(h:qF w base e size v n xs):∀k,v.ownBlock=some k->base<=k∧k<w.heap.size:=by
 intro k hk;rcases h.2 with⟨hv,_⟩|⟨g,cap,cur,fz,hv,hb,hg,_⟩
 ·rw[hv]at hk;cases hk
 rw[hv]at hk;obtain rfl:g=k:=Option.some.inj hk;exact⟨hb,lt_of_heap hg⟩
def qF.qm(h:qF w base e size v n xs)(hk:Keep S w w')(hn:∀b,v.ownBlock=some b->¬S b):qF w' base e size v n xs:=by
 refine⟨h.1,?_⟩;rcases h.2 with h2|⟨g,cap,cur,fz,hv,hg,hh,r⟩
 ·exact .inl h2
 exact .inr ⟨g,cap,cur,fz,hv,hg,hk.heap hh (hn g (by rw[hv];rfl)),r⟩
def qF.drewN(h:qF w base e size v n xs)(k:Nat):qF (w.drewN k) base e size v n xs:=h
def qF.alloc(h:qF w base e size v n xs)(o:Obj):qF (w.alloc o) base e size v n xs:=h.qm ((Keep.refl qw w).alloc o) (λ_ _ x=>x)
def qF.some(h:qF w base e size v n xs)(hn:0<n):∃g cap,v= .slice (some ⟨g,0,none⟩) n cap∧base<=g∧n<=cap:=by
 rcases h.2 with⟨_,h0⟩|⟨g,cap,cur,fz,hv,hb,_,_,hc,_⟩
 ·omega
 exact⟨g,cap,hv,hb,hc⟩
def qF.cells(h:qF w base e size v n xs)(hg:v.ownBlock=Option.some g):∀j u,xs[j]? =Option.some u->w.cell? ((⟨g,0,none⟩:Addr).add j)=Option.some u:=by
 intro j u hu;rcases h.2 with⟨hv,_⟩|⟨g',cap,cur,fz,hv,_,hh,_,_,_,_,ht⟩
 ·rw[hv]at hg;cases hg
 rw[hv]at hg;obtain rfl:g'=g:=Option.some.inj hg;have Dz:(⟨g',0,none⟩:Addr).add j=⟨g',j,none⟩:=by unfold Addr.add;split<;>simp_all
 rw[Dz,cell_of_row w g' j cur e fz hh];rw[<-ht,List.getElem?_take]at hu;split at hu
 ·simpa using hu
 cases hu
end
def BX(P:Program)(g o:Nat)(t:TypeId)(fz:Nat×Nat)(vs:List Value):∀(i:Nat) (cur:Array Value) (w:World),w.heap[g]? =some (.cells cur t fz)->Clear fz cur.size->o+i+vs.length<=cur.size->
  (∀v∈vs,v.oneCell'=true)->(storeCells ⟨g,o,none⟩ vs i).run P w= .ok () (w.setRow g (cur.toList.take (o+i)++vs++cur.toList.drop (o+i+vs.length)).toArray):=by
 induction vs with
 | nil=>
  intro i cur w hg _ _ _;have e:(cur.toList.take (o+i)++ []++cur.toList.drop (o+i+([]:List Value).length)).toArray=cur:=by simp
  rw[e,setRow_self w g cur t fz hg];rfl
 | cons v vs ih=>
  intro i cur w hg hf hl h1;rw[List.length_cons]at hl;have Dz:(⟨g,o,none⟩:Addr).add i=⟨g,o+i,none⟩:=by unfold Addr.add;split<;>simp_all
  have yh:o+i<cur.size:=by omega
  have hc:w.cell? ⟨g,o+i,none⟩=some cur[o+i]:=by simp[World.cell?,hg,yh]
  have hz:w.frozen? ⟨g,o+i,none⟩=false:=by
   have:=hf (o+i) yh;obtain⟨lo,hi⟩:=fz
   simpa [World.frozen?,hg]using this
  have hs:(store ((⟨g,o,none⟩:Addr).add i) v).run P w= .ok () (w.setRow g (cur.setIfInBounds (o+i) v)):=by rw[Dz,run_store P w _ v _ (h1 v (List.mem_cons_self ..)),hc];simp[hz,setCell_eq_setRow w g (o+i) cur t fz v hg]
  have hr:=ih (i+1) (cur.setIfInBounds (o+i) v) (w.setRow g (cur.setIfInBounds (o+i) v)) (setRow_heap w g cur _ t _ hg) (by simpa using hf) (by simp;omega) (λx hx=>h1 x (List.mem_cons_of_mem _ hx));have zzu:=list_seg_step cur.toList (o+i) v vs (by simp;omega);simp only[storeCells,Sem.run_bind,hs,Result.andThen_ok,hr,setRow_setRow];refine congrArg (λl:List Value=>Result.ok () (w.setRow g l.toArray)) ?_
  simpa [Array.toList_setIfInBounds,Nat.add_assoc]using zzu
section
variable {P:Program}(w:World)
def NJ(base:Nat)(t ty e:TypeId)(i:TypeInfo)(z:Value)(size bytes:Nat)(ht:P.underlying t=some (.slice e))(hi:P.info? e=some i)(hz:i.zero=some z)
  (NY:i.size=size) (hby:i.bytes=bytes) (hzs:z.cells.size=size) (uF:0<size) (v:Value) (n:Nat) (xs:List Value) (ru:qF w base e size v n xs)
  (a:Addr) (m c:Nat) (news:List Value) (hl:news.length=m*size) (TS:∀j u,news[j]? =some u->w.cell? (a.add j)=some u) (h1:∀u∈news,u.oneCell'=true)
  (h63:n+m<=maxLen) (Gi:(n+m)*bytes<=140737488355328) (Ee:base<=w.heap.size):
  ∃v' w',(Builtin.append_ #[t,t] ty #[v,.slice (some a) m c]).run P w= .ok v' w'∧qF w' base e size v' (n+m) (xs++news)∧w.grownBy w' v.ownBlock∧(v'.ownBlock=v.ownBlock∨∀b,v'.ownBlock=some b->w.heap.size<=b):=by
 rcases ru.2 with⟨hv,hn⟩|⟨g,cap,cur,fz,hv,hbg,hg,hfz,hnc,hcm,zu,htk⟩
 ·obtain⟨v',w',r1,r2,r3,_⟩:=run_append_own (P:=P) w w.heap.size t ty e i z size bytes ht hi hz NY hby hzs uF v n xs ⟨ru.1,.inl ⟨hv,hn⟩⟩ a m c news hl TS h1 h63 Gi (Nat.le_refl _);exact⟨v',w',r1,(qF.of r2).down Ee,r3,.inr λb hb=>(r2.lt b hb).1⟩
 ·have VH:=ru.cells (g:=g) (by rw[hv];rfl);have hlen:(xs++news).length=(n+m)*size:=by rw[List.length_append,ru.1,hl,Nat.add_mul]
  subst hv;subst NY;subst hby;by_cases znS:n+m<=cap
  ·have zzY:n*i.size+news.length<=cur.size:=by
    rw[hl,zu,<-Nat.add_mul];exact Nat.mul_le_mul_right _ znS
   have hf:=run_firstCells_some (P:=P) w i.size m a m c news hl TS;have yx:=BX P g (n*i.size) e fz news 0 cur w hg hfz (by simpa using zzY) h1;simp only[Nat.add_zero]at yx;have hr:(Builtin.append_ #[t,t] ty #[.slice (some ⟨g,0,none⟩) n cap,.slice (some a) m c]).run P w= .ok (.slice (some ⟨g,0,none⟩) (n+m) cap) (w.setRow g (cur.toList.take (n*i.size)++news++cur.toList.drop (n*i.size+news.length)).toArray):=by simp[Builtin.append_,run_underlying ht,sizeOf,typeInfo,hi,Builtin.lenOf,znS,hf,Addr.add_lit,yx]
   have TE:(cur.toList.take (n*i.size)++news++cur.toList.drop (n*i.size+news.length)).toArray.size=cur.size:=by simp only[List.size_toArray,List.length_append,List.length_take,List.length_drop,Array.length_toList];omega
   refine⟨_,_,hr,⟨hlen,.inr ⟨g,cap,_,fz,rfl,hbg,setRow_heap w g cur _ e _ hg,by rw[TE];exact hfz,znS,hcm,by rw[TE];exact zu,?_⟩⟩,⟨rfl,rfl,rfl,by simp,λk _ hk=>setRow_other w g k _ (λe=>hk (by simp[Value.ownBlock,e]))⟩,.inl rfl⟩;rw[htk,<-hlen];exact List.take_left
  have hsmall:n+m<=9223372036854775807:=by simp only[maxLen]at h63;omega
  have hr:=run_append_grow (P:=P) w t ty e i z ht hi hz ⟨g,0,none⟩ n cap xs ru.1 VH a m c news hl TS (by omega) (by omega) (growslice_fits (by omega) Gi);have hge:=grownCap_ge w (n+m) cap e;refine⟨_,_,hr,⟨hlen,.inr ⟨w.heap.size,_,_,(0,0),rfl,Ee,heap_alloc_new w.drew _,Clear.zero _,hge,grownCap_le_maxLen w (n+m) cap e h63,?_,?_⟩⟩,⟨rfl,rfl,rfl,by simp,λk hk _=>Below.heap_alloc w.drew _ k hk⟩,.inr λb hb=>by obtain rfl:w.heap.size=b:=Option.some.inj hb;exact Nat.le_refl _⟩
  ·simp only[Array.size_append,List.size_toArray,size_zeroCells,hzs,ru.1,hl,<-Nat.add_mul]
   congr 1
   omega
  simp only[Array.toList_append,List.append_assoc];rw[<-List.append_assoc,<-hlen];exact List.take_left
def tC{o:Oper}{a:Act}(hgd:o.guard=none)(s x:Operand)(t:TypeId)
  (ho:o.op= .call { callee:= .builtin .append,args:= #[s,x],argTypes:= #[t,t] })
  (base:Nat) (e:TypeId) (i:TypeInfo) (z:Value) (size bytes:Nat) (ht:P.underlying t=some (.slice e)) (hi:P.info? e=some i) (hz:i.zero=some z)
  (NY:i.size=size) (hby:i.bytes=bytes) (hzs:z.cells.size=size) (uF:0<size) (v:Value) (n:Nat) (xs:List Value) (hs:a.eval s=v) (ru:qF w base e size v n xs)
  (ad:Addr) (m c:Nat) (news:List Value) (hx:a.eval x= .slice (some ad) m c) (hl:news.length=m*size) (TS:∀j u,news[j]? =some u->w.cell? (ad.add j)=some u) (h1:∀u∈news,u.oneCell'=true)
  (h63:n+m<=maxLen) (Gi:(n+m)*bytes<=140737488355328) (Ee:base<=w.heap.size)
  (h:∀v' w',qF w' base e size v' (n+m) (xs++news)->w.grownBy w' v.ownBlock->wpList P ops Q rest (a.put o.dst v') w'):wpList P ops Q (o::rest) a w:=by
 refine wpList_plain hgd λK hK=> ?_;obtain⟨v',w',hr,h2,h3,_⟩:=NJ (P:=P) w base t o.type e i z size bytes ht hi hz NY hby hzs uF v n xs ru ad m c news hl TS h1 h63 Gi Ee;unfold Oper.wp execOp;simp only[ho,resolve,invoke,builtin,Sem.run_bind,Sem.run_pure,Result.andThen_ok,List.map_toArray,List.map_cons,List.map_nil,hs,hx,hr];exact hK _ _ (h v' w' h2 h3)
def rY{o:Oper}{a:Act}(hgd:o.guard=none)(s x:Operand)(t:TypeId)
  (ho:o.op= .call { callee:= .builtin .append,args:= #[s,x],argTypes:= #[t,t] })
  (base:Nat) (e:TypeId) (i:TypeInfo) (z:Value) (size bytes:Nat) (ht:P.underlying t=some (.slice e)) (hi:P.info? e=some i) (hz:i.zero=some z)
  (NY:i.size=size) (hby:i.bytes=bytes) (hzs:z.cells.size=size) (uF:0<size) (v:Value) (n:Nat) (xs:List Value) (hs:a.eval s=v) (ru:qF w base e size v n xs)
  (ad:Addr) (m c:Nat) (news:List Value) (hx:a.eval x= .slice (some ad) m c) (hl:news.length=m*size) (TS:∀j u,news[j]? =some u->w.cell? (ad.add j)=some u) (h1:∀u∈news,u.oneCell'=true)
  (h63:n+m<=maxLen) (Gi:(n+m)*bytes<=140737488355328) (Ee:base<=w.heap.size)
  (h:∀v' w',qF w' base e size v' (n+m) (xs++news)->w.grownBy w' v.ownBlock->(v'.ownBlock=v.ownBlock∨∀b,v'.ownBlock=some b->w.heap.size<=b)->wpList P ops Q rest (a.put o.dst v') w'):wpList P ops Q (o::rest) a w:=by
 refine wpList_plain hgd λK hK=> ?_;obtain⟨v',w',hr,h2,h3,h4⟩:=NJ (P:=P) w base t o.type e i z size bytes ht hi hz NY hby hzs uF v n xs ru ad m c news hl TS h1 h63 Gi Ee;unfold Oper.wp execOp;simp only[ho,resolve,invoke,builtin,Sem.run_bind,Sem.run_pure,Result.andThen_ok,List.map_toArray,List.map_cons,List.map_nil,hs,hx,hr];exact hK _ _ (h v' w' h2 h3 h4)
end
def qF.ofBytes(w:World)(base:Nat)(E:TypeId)(s:ByteArray)(hb:base<=w.heap.size)(hs:s.size<=1000000):qF (Lib.bytesWorld w E s) base E 1 (.slice (Option.some ⟨w.heap.size,0,none⟩) s.size (grownCap w s.size 0 E)) s.size (DV (bs s)):=by
 have hge:=grownCap_ge w s.size 0 E;have hle:grownCap w s.size 0 E<=maxLen:=grownCap_le_maxLen w s.size 0 E (by unfold maxLen;omega);have e:(Array.map (λb=>Value.int .u8 (b.toNat:Int)) s.data).toList=DV (bs s):=by simp[DV,bs,List.map_map]
 have el:(DV (bs s)).length=s.size:=by rw[zev,ry]
 refine⟨by rw[el,Nat.mul_one],.inr ⟨_,_,_,_,rfl,hb,Lib.bytesWorld_at_new w E s,?_,hge,hle,?_,?_⟩⟩
 ·intro i hi;simp;omega
 ·unfold Lib.bytesCells;have e1:s.data.size=s.size:=rfl;simp only[Array.size_append,Array.size_map,Array.size_replicate];omega
 unfold Lib.bytesCells;rw[Array.toList_append,e,Nat.mul_one,List.take_append_of_le_length (by omega),List.take_of_length_le (by omega)]
def wU.yw{E:TypeId}(h:qF w base E 1 (.slice (some ⟨g,0,none⟩) l.length cap) l.length (DV l)):wU w g E l:=by
 rcases h.2 with⟨h,_⟩|⟨g',TG,cur,fz,hv,_,hg,hf,hc,_,hs,ht⟩
 ·cases h
 cases hv
 exact⟨cur,fz,hg,by rw[Nat.mul_one]at ht;exact ht,λi hi=>hf i (by omega)⟩
def uH.yw{E:TypeId}(h:qF w base E 1 (.slice (some ⟨g,0,none⟩) l.length cap) l.length (cellsOf k l)):uH w g E k l:=by
 rcases h.2 with⟨h,_⟩|⟨g',TG,cur,fz,hv,_,hg,hf,hc,_,hs,ht⟩
 ·cases h
 cases hv
 exact⟨cur,fz,hg,by rw[Nat.mul_one]at ht;exact ht,λi hi=>hf i (by omega)⟩
def qF.lit(w:World)(base:Nat)(e:TypeId)(size:Nat)(cs:Array Value)(n:Nat)(hb:base<=w.heap.size)(hn:n<=maxLen)(hs:cs.size=n*size):qF (w.alloc (.cells cs e)) base e size (.slice (Option.some ⟨w.heap.size,0,none⟩) n n) n cs.toList:=by refine⟨by rw[Array.length_toList,hs],.inr ⟨_,n,cs,(0,0),rfl,hb,heap_alloc_new w _,Clear.zero _,Nat.le_refl _,hn,hs,?_⟩⟩;rw[List.take_of_length_le (by rw[Array.length_toList,hs];exact Nat.le_refl _)]
def YI{off k:Nat}{E:TypeId}{src dst:TypeId}(h:wU w B E l)(hk:off+k<=l.length)
  (hs:P.underlying src=some (.slice E)) (he:P.underlying E=some (.int .u8)) (hd:P.underlying dst=some .string):(convert src dst (.slice (some ⟨B,off,none⟩) k cap)).run P w= .ok (.string (uu ((l.drop off).take k))) w:=by
 have hlen:((l.drop off).take k).length=k:=by rw[List.length_take,List.length_drop];omega
 have h1:=run_convert_bytes_arg (P:=P) w src E hs he B off k cap (((l.drop off).take k).map λ(x:Nat)=>(x:Int)) (by rw[List.length_map,hlen]) ?_ dst hd
 ·rw[h1,VR]
 ·intro i hi;rw[h.cell (off+i) (by omega)];have hi2:off+i<l.length:=by omega
  simp[hi,hi2]
def qQ{ops rest:_}{a:Act}(R:World->Prop)(h:R w)(k:∀w1,R w1->wpList P ops Q rest a w1):wpList P ops Q rest a w:=k w h
def Strs(w:World)(v:Value)(l:List ByteArray):Prop:=
 (l= []∧∃p c,v= .slice p 0 c)∨∃B off c,v= .slice (some ⟨B,off,none⟩) l.length c∧B<w.heap.size∧∀i,i<l.length->w.cell? ⟨B,off+i,none⟩=some (.string (l.getD i ⟨#[]⟩))
def Strs.len{l:List ByteArray}(h:Strs w v l):∃p c,v= .slice p l.length c:=by
 rcases h with⟨rfl,p,c,hv⟩|⟨B,off,c,hv,_⟩
 ·exact⟨p,c,hv⟩
 exact⟨_,c,hv⟩
def Strs.at{c:Nat}{l:List ByteArray}(h:Strs w (.slice p n c) l)(hl:0<l.length):∃B off,p=some ⟨B,off,none⟩∧n=l.length∧B<w.heap.size∧∀i,i<l.length->w.cell? ⟨B,off+i,none⟩=some (.string (l.getD i ⟨#[]⟩)):=by
 rcases h with⟨rfl,_⟩|⟨B,off,c,hv,hB,hc⟩
 ·simp at hl
 cases hv
 exact⟨B,off,rfl,rfl,hB,hc⟩
def Strs.qm{l:List ByteArray}(h:Strs w v l)(hk:Keep S w w')(hn:∀b,v.ownBlock=some b->¬S b):Strs w' v l:=by
 rcases h with h|⟨B,off,c,hv,hB,hc⟩
 ·exact .inl h
 refine .inr ⟨B,off,c,hv,Nat.lt_of_lt_of_le hB hk.size,λi hi=> ?_⟩;rw[hk.cell (p:=⟨B,off+i,none⟩) hB (hn B (by rw[hv];rfl))];exact hc i hi
def Strs.lit{E:TypeId}(l:List ByteArray):Strs (w.alloc (.cells (l.map Value.string).toArray E)) (.slice (some ⟨w.heap.size,0,none⟩) l.length l.length) l:=by refine .inr ⟨w.heap.size,0,l.length,rfl,by simp,λi hi=> ?_⟩;rw[Nat.zero_add,cell_of_row _ _ i _ E (0,0) (heap_alloc_new w _)];simp[hi]
instance (w:World):Nonempty (Ext w):=⟨⟨w,Keep.refl _ _⟩⟩
section
variable {P:Program}
def zdJ{α:Sort _}(f:World->α->Prop)(a:α):(∀w',(∃x:Ext w,w'=w.ext x)->f w' a)=(∀x:Ext w,f (w.ext x) a):=
 propext ⟨λh x=>h _ ⟨x,rfl⟩,λh _ ⟨x,e⟩=>e▸h x⟩
def Ll{id:Nat}{a:Act}{l:List Oper}(n:Nat)(hm:P.follows .mixedOrders=true)(hB:Region.lexTailB .any l.toArray n=true)
  (h:wpQuiet P l.toArray (λw'=>∃x:Ext w,w'=w.ext x) (λa'=>∀x:Ext w,wpList P l.toArray Q (l.drop n) a' (w.ext x)) (l.take n) a):(Code.region id l.toArray true).wp P Q a w:=by
 refine UA (λw'=>∃x:Ext w,w'=w.ext x) n hm hB ⟨⟨_,(Keep.refl qw w).drew⟩,rfl⟩ ?_
 have:(λa'=>∀w',(∃x:Ext w,w'=w.ext x)->wpList P l.toArray Q (l.drop n) a' w')=(λa'=>∀x:Ext w,wpList P l.toArray Q (l.drop n) a' (w.ext x)):=
  funext λa'=>zdJ (λw' a'=>wpList P l.toArray Q (l.drop n) a' w') a'
 rwa [this]
def rX{id:Nat}{a:Act}{l:List Oper}(hm:P.follows .mixedOrders=true)(hB:Region.lexB .any l.toArray=true)
  (h:wpQuiet P l.toArray (λw'=>∃x:Ext w,w'=w.ext x) (λa'=>∀x:Ext w,Q .normal a' (w.ext x)) l a):(Code.region id l.toArray true).wp P Q a w:=by
 refine Xw (λw'=>∃x:Ext w,w'=w.ext x) hm hB ⟨⟨_,(Keep.refl qw w).drew⟩,rfl⟩ ?_
 have:(λa'=>∀w',(∃x:Ext w,w'=w.ext x)->Q .normal a' w')=(λa'=>∀x:Ext w,Q .normal a' (w.ext x)):=
  funext λa'=>zdJ (λw' a'=>Q .normal a' w') a'
 rwa [this]
def vw(x:Ext w)(h:Calls P f args (w.ext x) λe w'=>e= .returned v∧Keep qw (w.ext x) w'):
  Calls P f args (w.ext x) λe w''=>e= .returned v∧∃y:Ext w,w''=w.ext y:=
 h.m λ_ _ ⟨he,hk⟩=>⟨he,zvi ((rZ w x).qo hk)⟩
def Qb(x:Ext w)(h:Calls P f args (w.ext x) λe w'=>e= .returned v∧w'=w.ext x):
  Calls P f args (w.ext x) λe w''=>e= .returned v∧∃y:Ext w,w''=w.ext y:=
 h.m λ_ _ ⟨he,hk⟩=>⟨he,x,hk⟩
end
section
variable {P:Program}
def Lp(w:World)(g off:Nat)(t ty:TypeId)(cs:Array Value)(fr:Nat×Nat)(part:Array Value)(d:TypeDesc)(hg:w.heap[g]? =some (.cells cs t fr))
  (Gu:∀j v,part[j]? =some v->cs[off+j]? =some v)
  (hu:P.underlying ty=some d) (hd:(match d with| .struct _| .array _ _=>true|_=>false)=true) (hi:(P.info? ty).map (·.size)=some part.size):
  (loadVar ty ⟨g,off,none⟩).run P w= .ok (.agg part) w:=by
 have hl:(loadCells ⟨g,off,none⟩ part.toList.length).run P w= .ok part.toList.toArray w:=
  run_loadCells_list (P:=P) w ⟨g,off,none⟩ part.toList (λj v hv=>by
   have Dz:(⟨g,off,none⟩:Addr).add j=⟨g,off+j,none⟩:=by unfold Addr.add;split<;>simp_all
   rw[Dz,cell_of_row w g (off+j) cs t fr hg];exact Gu j v (by simpa using hv))
 cases hq:P.info? ty with
 | none=>simp[hq]at hi
 | some i=>
  have hs:i.size=part.size:=by simpa [hq]using hi
  have zqJ:(isAgg ty).run P w= .ok true w:=by unfold isAgg;rw[Sem.run_bind,run_underlying hu w];cases d<;>simp_all
  simp only[Array.length_toList,Array.toArray_toList]at hl;simp[loadVar,Sem.run_bind,zqJ,sizeOf,typeInfo,hq,hs,hl]
def zeK{o:Oper}{a:Act}{K:Act->World->Prop}(ty:TypeId)(x:Operand)(ho:o.op= .load ty x)
  (g off:Nat) (hx:a.eval x= .pointer (some ⟨g,off,none⟩)) (t:TypeId) (cs:Array Value) (fr:Nat×Nat) (part:Array Value) (d:TypeDesc) (hg:w.heap[g]? =some (.cells cs t fr))
  (Gu:∀j v,part[j]? =some v->cs[off+j]? =some v)
  (hu:P.underlying ty=some d) (hd:(match d with| .struct _| .array _ _=>true|_=>false)=true) (hi:(P.info? ty).map (·.size)=some part.size)
  (h:K (a.put o.dst (.agg part)) w):o.wp P a w K Q:=by
 unfold Oper.wp execOp;simp only[ho,hx,Instr.loadAt,Instr.sureAddr,Sem.run_bind,Sem.run_pure,Result.andThen_ok,Lp w g off t ty cs fr part d hg Gu hu hd hi];exact h
def Fz{o:Oper}{a:Act}(hgd:o.guard=none)(ty:TypeId)(x:Operand)(ho:o.op= .load ty x)
  (g off:Nat) (hx:a.eval x= .pointer (some ⟨g,off,none⟩)) (t:TypeId) (cs:Array Value) (fr:Nat×Nat) (part:Array Value) (d:TypeDesc) (hg:w.heap[g]? =some (.cells cs t fr))
  (Gu:∀j v,part[j]? =some v->cs[off+j]? =some v)
  (hu:P.underlying ty=some d) (hd:(match d with| .struct _| .array _ _=>true|_=>false)=true) (hi:(P.info? ty).map (·.size)=some part.size)
  (h:wpList P ops Q rest (a.put o.dst (.agg part)) w):wpList P ops Q (o::rest) a w:=
 wpList_plain hgd λ_ hK=>zeK ty x ho g off hx t cs fr part d hg Gu hu hd hi (hK _ _ h)
def rO{o:Oper}{a:Act}{C:World->Prop}{Z:Act->Prop}(hw:Region.wanted o (yielded ops a.tmps)=true)(ty:TypeId)(x:Operand)(ho:o.op= .load ty x)
  (g off:Nat) (hx:a.eval x= .pointer (some ⟨g,off,none⟩)) (t:TypeId) (cs:Array Value) (fr:Nat×Nat) (part:Array Value) (d:TypeDesc) (hg:∀x:wE C,x.w.heap[g]? =some (.cells cs t fr))
  (Gu:∀j v,part[j]? =some v->cs[off+j]? =some v)
  (hu:P.underlying ty=some d) (hd:(match d with| .struct _| .array _ _=>true|_=>false)=true) (hi:(P.info? ty).map (·.size)=some part.size)
  (h:vY P ops C Z rest (a.put o.dst (.agg part))):vY P ops C Z (o::rest) a:=by
 unfold vY;rw[if_pos hw];refine⟨.agg part,λy=> ?_,h⟩;unfold execOp;simp only[ho,hx,Instr.loadAt,Instr.sureAddr,Sem.run_bind,Sem.run_pure,Result.andThen_ok,Lp y.w g off t ty cs fr part d (hg y) Gu hu hd hi]
def vU(cs:Array Value)(off:Nat)(part:Array Value):Array Value:=(cs.toList.take off++part.toList++cs.toList.drop (off+part.size)).toArray
def U9(w:World)(g off:Nat)(t ty:TypeId)(cs part:Array Value)(hg:w.heap[g]? =some (.cells cs t (0,0)))(hi:(P.info? ty).map (·.size)=some part.size)
  (ho:off+part.size<=cs.size) (h1:part.all (·.oneCell')=true):
  (storeVar ty ⟨g,off,none⟩ (.agg part)).run P w= .ok () (w.setRow g (vU cs off part)):=by
 have:=BX P g off t (0,0) part.toList 0 cs w hg (Clear.zero _) (by simp;omega) (λv hv=>Array.all_eq_true_iff_forall_mem.1 h1 v (by simpa using hv));simp only[Nat.add_zero,Array.length_toList]at this;cases hq:P.info? ty with
 | none=>simp[hq]at hi
 | some i=>
  have hs:part.size=i.size:=by simp[hq]at hi;omega
  rw[hs]at this;simp[storeVar,sizeOf,typeInfo,hq,Value.cells,hs,this,vU]
def uG{o:Oper}{a:Act}(hgd:o.guard=none)(ty:TypeId)(x y:Operand)(ho:o.op= .store ty x y)
  (g off:Nat) (t:TypeId) (cs part:Array Value) (hx:a.eval x= .pointer (some ⟨g,off,none⟩)) (hy:a.eval y= .agg part) (hg:w.heap[g]? =some (.cells cs t (0,0)))
  (hi:(P.info? ty).map (·.size)=some part.size) (hn:off+part.size<=cs.size) (h1:part.all (·.oneCell')=true)
  (h:wpList P ops Q rest (a.put o.dst undef) (w.setRow g (vU cs off part))):wpList P ops Q (o::rest) a w:=
 wpList_plain hgd λK hK=>by unfold Oper.wp execOp;simp only[ho,hx,hy,Instr.storeAt,Instr.sureAddr,Sem.run_bind,Sem.run_pure,Result.andThen_ok,U9 w g off t ty cs part hg hi hn h1];exact hK _ _ h
end
section
variable {P:Program}{ops:Array Oper}{md:Region.Mode}{C:World->Prop}{Q:Exit->Act->World->Prop}
def ZH(md:Region.Mode)(ops:Array Oper):List (Bool×Nat)->Array Bool->Bool
 | [],done=>(List.range ops.size).all λj=>done.getD j false
 | (true,i)::r,done=>(Region.ready md ops done).contains i&&Region.free md ops done i&&Qw md ops done i&&ZH md ops r (done.setIfInBounds i true)
 | (false,i)::r,done=>decide (Region.ready md ops done= [i])&&ZH md ops r (done.setIfInBounds i true)
def uy(P:Program)(ops:Array Oper)(C:World->Prop)(Q:Exit->Act->World->Prop):List (Bool×Nat)->Act->World->Prop
 | [],a,w=>Q .normal a w
 | (true,i)::r,a,w=>vY P ops C (λa'=>uy P ops C Q r a' w) (qC ops [i]) a
 | (false,i)::r,a,w=>C w∧wpList P ops (Exit.then (uy P ops C Q r) Q) (qC ops [i]) a w
def Nb(zY:Region.noSelect ops=true)(hQ:∀c (a:Act) d v w,Q (.panic c) (a.put d v) w->Q (.panic c) a w):
  ∀(L:List (Bool×Nat)) (done:Array Bool) (a:Act) (w:World),ZH md ops L done=true->uy P ops C Q L a w->O4 P md ops C Q L.length done a w
 | [],done,a,w,hB,h=>⟨λj hj=>List.all_eq_true.1 hB j (List.mem_range.2 hj),h⟩
 | (false,i)::r,done,a,w,hB,h=>by simp only[ZH,Bool.and_eq_true,decide_eq_true_eq]at hB;refine⟨h.1,λh0=>(by rw[hB.1]at h0;cases h0),λj hj=> ?_⟩;obtain⟨_,o,ho,_⟩:=mem_ready.1 hj;rw[hB.1,List.mem_singleton]at hj;subst hj;exact wpOp_mono (λa' w' h'=>Nb zY hQ r _ a' w' hB.2 h') (Dl ho h.2)
 | (true,i)::r,done,a,w,hB,h=>by
  simp only[ZH,Bool.and_eq_true]at hB;obtain⟨⟨⟨hr,hf⟩,hw⟩,Ry⟩:=hB;have Yy:i∈Region.ready md ops done:=by simpa using hr
  obtain⟨_,o,h0,_⟩:=mem_ready.1 Yy;unfold uy at h;simp only[qC,h0]at h;unfold vY at h;by_cases IE:Region.wanted o (yielded ops a.tmps)=true
  ·simp only[IE,if_true]at h;obtain⟨v,hv,hK⟩:=h;exact CP h0 (Region.noSelect_spec zY) (λc a w hq=>hQ c a _ _ w hq) _ done a w (Region.free_spec h0 hf) Yy (AQ hw) (.inl ⟨IE,λw hC=>hv ⟨w,hC⟩⟩) (Nb zY hQ r _ _ w Ry hK)
  simp only[IE,Bool.false_eq_true,if_false]at h;exact CP h0 (Region.noSelect_spec zY) (λc a w hq=>hQ c a _ _ w hq) _ done a w (Region.free_spec h0 hf) Yy (AQ hw) (.inr ⟨by simpa using IE,rfl⟩) (Nb zY hQ r _ _ w Ry h)
def zcg{id:Nat}{l:List Oper}{a:Act}(C:World->Prop)(L:List (Bool×Nat))(hm:P.follows .mixedOrders=true)(hB:(Region.noSelect l.toArray&&ZH .any l.toArray L (Array.replicate l.toArray.size false)&&decide (L.length=l.toArray.size))=true)
  (hQ:∀c (a:Act) d v w,Q (.panic c) (a.put d v) w->Q (.panic c) a w)
  (h:uy P l.toArray C Q L a w.drew):(Code.region id l.toArray true).wp P Q a w:=by
 simp only[Bool.and_eq_true,decide_eq_true_eq]at hB;obtain⟨⟨zY,hB⟩,hl⟩:=hB;refine wp_region_any hm ?_;have H:=MX _ _ _ _ (Nb (md:= .any) zY hQ L _ a w.drew hB h)
 rwa [hl]at H
def qX{id:Nat}{l:List Oper}{a:Act}(C:World->Prop)(L:List (Bool×Nat))(h:uy P l.toArray C Q L a w.drew)(hm:P.follows .mixedOrders=true:=by kernel_rfl)(hB:(Region.noSelect l.toArray&&ZH .any l.toArray L (Array.replicate l.toArray.size false)&&decide (L.length=l.toArray.size))=true:=by kernel_rfl)
  (hQ:∀c (a:Act) d v w,Q (.panic c) (a.put d v) w->Q (.panic c) a w:=by intro c a d v w h;cases d<;>exact h):(Code.region id l.toArray true).wp P Q a w:=
 zcg C L hm hB hQ h
end
section
variable {P:Program}{ops:Array Oper}{md:Region.Mode}{C D:World->Prop}{b:Nat}{Q:Exit->Act->World->Prop}
def ZQ(P:Program)(md:Region.Mode)(ops:Array Oper)(b:Nat)(D C:World->Prop)(Q:Exit->Act->World->Prop):Nat->Array Bool->Act->World->Prop
 | 0,listed,a,w=>(∀j,j<ops.size->listed.getD j false=true)∧Q .normal a w
 | fuel+1,listed,a,w=>(D w∧(listed.getD b false=false->C w))∧(Region.ready md ops listed= []->Q .normal a w)∧
  ∀i∈Region.ready md ops listed,wpOp P ops Q i (ZQ P md ops b D C Q fuel (listed.setIfInBounds i true)) a w
def zaD:∀(fuel:Nat) (listed:Array Bool) (a:Act) (w:World),ZQ P md ops b D C Q fuel listed a w->wpAny P md ops Q fuel listed a w
 | 0,listed,a,w,h=>by
  refine⟨?_,h.2⟩;cases hr:Region.ready md ops listed with
  | nil=>rfl
  | cons j r=>
   have hj:j∈Region.ready md ops listed:=by rw[hr];exact List.mem_cons_self
   obtain⟨h0,o,ho,_⟩:=mem_ready.1 hj;have h1:=h.1 j (Array.getElem?_eq_some_iff.1 ho).1;rw[getD_both h0]at h1;cases h1
 | fuel+1,listed,a,w,h=>⟨h.2.1,λi hi=>wpOp_mono (λa' w' h'=>zaD fuel _ a' w' h') (h.2.2 i hi)⟩
def zi9(md:Region.Mode)(ops:Array Oper)(b i:Nat):Prop:=∃ob,ops[b]? =some ob∧∃e∈ob.after,Region.binds md e=true∧e.on=i
def GL{oi:Oper}{E:World->Prop}(Rw:b≠i)(hi:ops[i]? =some oi)(znf:∀(j:Nat) (o:Oper) cs b,ops[j]? =some o->o.op≠ .select cs b)
  (hQ:∀c a w,Q (.panic c) (a.put oi.dst v) w->Q (.panic c) a w):
  ∀(fuel:Nat) (listed:Array Bool) (a:Act) (w:World),
   (∀j oj,ops[j]? =some oj->j≠i->listed.getD j true=false->(∀e∈oj.after,Region.binds md e=true->e.on≠i)->oi.apart ops oj=true)->
   ((∀w,D w->E w)∨((∀w,C w->E w)∧zi9 md ops b i∧listed.getD b false=false))->
   i∈Region.ready md ops listed->Z8 md ops listed i->CE P ops E oi v a->
   ZQ P md ops b D C Q fuel (listed.setIfInBounds i true) (a.put oi.dst v) w->ZQ P md ops b D C Q (fuel+1) listed a w:=by
 intro fuel
 induction fuel with
 | zero=>
  intro listed a w _ _ hr haw hy H;obtain⟨j,oj,Xd,IG,hun,_⟩:=haw;have h1:=H.1 j (Array.getElem?_eq_some_iff.1 Xd).1;rw[getD_set_ne false (λe=>IG e.s),getD_both hun]at h1;cases h1
 | succ fuel ih=>
  intro listed a w zf9 hD hr haw hy H;have hC:D w∧(listed.getD b false=false->C w):=⟨H.1.1,λhb=>H.1.2 (by rw[getD_set_ne false (λe=>Rw e.s)];exact hb)⟩
  refine⟨hC,λh=>(by rw[h]at hr;cases hr),λj hj=> ?_⟩;by_cases IG:j=i
  ·subst IG;refine hy.wpOp hi ?_ H;rcases hD with hD|⟨hD,_,hb⟩
   ·exact hD w hC.1
   exact hD w (hC.2 hb)
  have h1:=H.2.2 j (ready_mono hj IG);obtain⟨zni,oj,Xd,vz⟩:=mem_ready.1 hj;have zlj:∀e∈oj.after,Region.binds md e=true->e.on≠i:=λe he hb heq=>by
   have h1:=vz e he hb;have h0:=(mem_ready.1 hr).1;rw[heq,getD_both h0]at h1;cases h1
  have h2:=zc5 Xd (zf9 j oj Xd IG zni zlj) (λcs b=>znf i oi cs b hi) (λcs b=>znf j oj cs b Xd) hQ hy h1;have zi7:∀k ok,ops[k]? =some ok->k≠i->(listed.setIfInBounds j true).getD k true=false->
    (∀e∈ok.after,Region.binds md e=true->e.on≠i)->oi.apart ops ok=true:=λk ok hk hki hun Dv=>by
   refine zf9 k ok hk hki ?_ Dv;by_cases YT:j=k
   ·subst YT;exact zni
   ·rw[getD_set_ne true YT]at hun;exact hun
  have zt0:Z8 md ops (listed.setIfInBounds j true) i:=by
   obtain⟨k,ok,zN,hki,hun,e,he,hb,hon⟩:=haw;refine⟨k,ok,zN,hki,?_,e,he,hb,hon⟩;have YT:j≠k:=λejk=>by subst ejk;rw[Xd]at zN;cases zN;exact zlj e he hb hon
   rw[getD_set_ne true YT];exact hun
  have hD':(∀w,D w->E w)∨((∀w,C w->E w)∧zi9 md ops b i∧(listed.setIfInBounds j true).getD b false=false):=by
   rcases hD with hD|⟨hD,hE,hb⟩
   ·exact .inl hD
   refine .inr ⟨hD,hE,?_⟩;obtain⟨ob,hob,e,he,hbd,hon⟩:=hE;have hjb:j≠b:=λejb=>by
    subst ejb;rw[Xd]at hob;cases hob;exact zlj e he hbd hon
   rw[getD_set_ne false hjb];exact hb
  refine wpOp_mono (λa' w' h3=>ih (listed.setIfInBounds j true) a' w' zi7 hD' (ready_mono hr (Ne.s IG)) zt0 h3.1 ?_) h2;rw[Array.setIfInBounds_comm _ _ IG];exact h3.2
def zn4(md:Region.Mode)(ops:Array Oper)(b i:Nat):Bool:=match ops[b]? with|some ob=>ob.after.any (λe=>Region.binds md e&&decide (e.on=i))|none=>false
def zk0(h:zn4 md ops b i=true):zi9 md ops b i:=by
 unfold zn4 at h;cases ho:ops[b]? with
 | none=>rw[ho]at h;cases h
 | some ob=>
  rw[ho]at h;obtain⟨e,he,hb⟩:=Array.any_eq_true'.1 h;simp only[Bool.and_eq_true,decide_eq_true_eq]at hb;exact⟨ob,ho,e,he,hb.1,hb.2⟩
def O7(md:Region.Mode)(ops:Array Oper)(b:Nat):List (Nat×Nat)->Array Bool->Bool
 | [],done=>(List.range ops.size).all λj=>done.getD j false
 | (0,i)::r,done=>decide (Region.ready md ops done= [i])&&O7 md ops b r (done.setIfInBounds i true)
 | (1,i)::r,done=>(Region.ready md ops done).contains i&&Region.free md ops done i&&Qw md ops done i&&decide (b≠i)&&zn4 md ops b i&& !done.getD b false&&O7 md ops b r (done.setIfInBounds i true)
 | (_,i)::r,done=>(Region.ready md ops done).contains i&&Region.free md ops done i&&Qw md ops done i&&decide (b≠i)&&O7 md ops b r (done.setIfInBounds i true)
def EY(P:Program)(ops:Array Oper)(b:Nat)(D C:World->Prop)(Q:Exit->Act->World->Prop):List (Nat×Nat)->Bool->Act->World->Prop
 | [],_,a,w=>Q .normal a w
 | (0,i)::r,p,a,w=>D w∧(p=true->C w)∧wpList P ops (Exit.then (EY P ops b D C Q r (if i=b then false else p)) Q) (qC ops [i]) a w
 | (1,i)::r,p,a,w=>vY P ops C (λa'=>EY P ops b D C Q r p a' w) (qC ops [i]) a
 | (_,i)::r,p,a,w=>vY P ops D (λa'=>EY P ops b D C Q r p a' w) (qC ops [i]) a
def zjb(zY:Region.noSelect ops=true)(hbs:b<ops.size)(hQ:∀c (a:Act) d v w,Q (.panic c) (a.put d v) w->Q (.panic c) a w):
  ∀(L:List (Nat×Nat)) (done:Array Bool) (p:Bool) (a:Act) (w:World),done.size=ops.size->p= !done.getD b false->O7 md ops b L done=true->EY P ops b D C Q L p a w->ZQ P md ops b D C Q L.length done a w:=by
 intro L
 induction L with
 | nil=>intro done p a w uF hp hB h;exact⟨λj hj=>List.all_eq_true.1 hB j (List.mem_range.2 hj),h⟩
 | cons x r ih=>
  intro done p a w uF hp hB h;obtain⟨n,i⟩:=x
  match n,hB,h with
  | 0,hB,h=>
   simp only[O7,Bool.and_eq_true,decide_eq_true_eq]at hB;refine⟨⟨h.1,λhb=>h.2.1 (by rw[hp,hb];rfl)⟩,λh0=>(by rw[hB.1]at h0;cases h0),λj hj=> ?_⟩;obtain⟨_,o,ho,_⟩:=mem_ready.1 hj;rw[hB.1,List.mem_singleton]at hj;subst hj;refine wpOp_mono (λa' w' h'=>ih _ _ a' w' (by simpa using uF) ?_ hB.2 h') (Dl ho h.2.2);by_cases e:j=b
   ·subst e;rw[if_pos rfl];simp[Array.getD,uF,hbs]
   rw[if_neg e,getD_set_ne false e];exact hp
  | 1,hB,h=>
   simp only[O7,Bool.and_eq_true,decide_eq_true_eq,Bool.not_eq_true']at hB;obtain⟨⟨⟨⟨⟨⟨hr,hf⟩,hw⟩,Rw⟩,hed⟩,hun⟩,Ry⟩:=hB;have Yy:i∈Region.ready md ops done:=by simpa using hr
   obtain⟨_,o,h0,_⟩:=mem_ready.1 Yy;unfold EY at h;simp only[qC,h0]at h;unfold vY at h;have hp':p= !(done.setIfInBounds i true).getD b false:=by rw[getD_set_ne false (λe=>Rw e.s)];exact hp
   by_cases IE:Region.wanted o (yielded ops a.tmps)=true
   ·simp only[IE,if_true]at h;obtain⟨v,hv,hK⟩:=h;exact GL (E:=C) Rw h0 (Region.noSelect_spec zY) (λc a w hq=>hQ c a _ _ w hq) _ done a w (Region.free_spec h0 hf) (.inr ⟨λ_ h=>h,zk0 hed,hun⟩) Yy (AQ hw) (.inl ⟨IE,λw hC=>hv ⟨w,hC⟩⟩) (ih _ p _ w (by simpa using uF) hp' Ry hK)
   simp only[IE,Bool.false_eq_true,if_false]at h;exact GL (E:=C) Rw h0 (Region.noSelect_spec zY) (λc a w hq=>hQ c a _ _ w hq) _ done a w (Region.free_spec h0 hf) (.inr ⟨λ_ h=>h,zk0 hed,hun⟩) Yy (AQ hw) (.inr ⟨by simpa using IE,rfl⟩) (ih _ p _ w (by simpa using uF) hp' Ry h)
  | n+2,hB,h=>
   simp only[O7,Bool.and_eq_true,decide_eq_true_eq]at hB;obtain⟨⟨⟨⟨hr,hf⟩,hw⟩,Rw⟩,Ry⟩:=hB;have Yy:i∈Region.ready md ops done:=by simpa using hr
   obtain⟨_,o,h0,_⟩:=mem_ready.1 Yy;unfold EY at h;simp only[qC,h0]at h;unfold vY at h;have hp':p= !(done.setIfInBounds i true).getD b false:=by rw[getD_set_ne false (λe=>Rw e.s)];exact hp
   by_cases IE:Region.wanted o (yielded ops a.tmps)=true
   ·simp only[IE,if_true]at h;obtain⟨v,hv,hK⟩:=h;exact GL (E:=D) Rw h0 (Region.noSelect_spec zY) (λc a w hq=>hQ c a _ _ w hq) _ done a w (Region.free_spec h0 hf) (.inl λ_ h=>h) Yy (AQ hw) (.inl ⟨IE,λw hC=>hv ⟨w,hC⟩⟩) (ih _ p _ w (by simpa using uF) hp' Ry hK)
   simp only[IE,Bool.false_eq_true,if_false]at h;exact GL (E:=D) Rw h0 (Region.noSelect_spec zY) (λc a w hq=>hQ c a _ _ w hq) _ done a w (Region.free_spec h0 hf) (.inl λ_ h=>h) Yy (AQ hw) (.inr ⟨by simpa using IE,rfl⟩) (ih _ p _ w (by simpa using uF) hp' Ry h)
def Iz{id:Nat}{l:List Oper}{a:Act}(b:Nat)(D C:World->Prop)(L:List (Nat×Nat))(hm:P.follows .mixedOrders=true)(hB:(Region.noSelect l.toArray&&O7 .any l.toArray b L (Array.replicate l.toArray.size false)&&decide (L.length=l.toArray.size)&&decide (b<l.toArray.size))=true)
  (hQ:∀c (a:Act) d v w,Q (.panic c) (a.put d v) w->Q (.panic c) a w)
  (h:EY P l.toArray b D C Q L true a w.drew):(Code.region id l.toArray true).wp P Q a w:=by
 simp only[Bool.and_eq_true,decide_eq_true_eq]at hB;obtain⟨⟨⟨zY,hB⟩,hl⟩,hbs⟩:=hB;refine wp_region_any hm ?_;have H:=zaD _ _ _ _ (zjb (md:= .any) zY hbs hQ L _ true a w.drew (by simp) (by simp[Array.getD]) hB h)
 rwa [hl]at H
end
def vM(w:World)(v:Value)(l:List Int):Prop:=
 (l= []∧∃p c,v= .slice p 0 c)∨∃B off c,v= .slice (some ⟨B,off,none⟩) l.length c∧B<w.heap.size∧∀i,i<l.length->w.cell? ⟨B,off+i,none⟩=some (.int .i64 (l.getD i 0))
def vM.len{l:List Int}(h:vM w v l):∃p c,v= .slice p l.length c:=by
 rcases h with⟨rfl,p,c,hv⟩|⟨B,off,c,hv,_⟩
 ·exact⟨p,c,hv⟩
 exact⟨_,c,hv⟩
def vM.at{c:Nat}{l:List Int}(h:vM w (.slice p n c) l)(hl:0<l.length):∃B off,p=some ⟨B,off,none⟩∧n=l.length∧B<w.heap.size∧∀i,i<l.length->w.cell? ⟨B,off+i,none⟩=some (.int .i64 (l.getD i 0)):=by
 rcases h with⟨rfl,_⟩|⟨B,off,c,hv,hB,hc⟩
 ·simp at hl
 cases hv
 exact⟨B,off,rfl,rfl,hB,hc⟩
def vM.qm{l:List Int}(h:vM w v l)(hk:Keep S w w')(hn:∀b,v.ownBlock=some b->¬S b):vM w' v l:=by
 rcases h with h|⟨B,off,c,hv,hB,hc⟩
 ·exact .inl h
 refine .inr ⟨B,off,c,hv,Nat.lt_of_lt_of_le hB hk.size,λi hi=> ?_⟩;rw[hk.cell (p:=⟨B,off+i,none⟩) hB (hn B (by rw[hv];rfl))];exact hc i hi
def vM.lit{E:TypeId}(l:List Int):vM (w.alloc (.cells (l.map (Value.int .i64)).toArray E)) (.slice (some ⟨w.heap.size,0,none⟩) l.length l.length) l:=by refine .inr ⟨w.heap.size,0,l.length,rfl,by simp,λi hi=> ?_⟩;rw[Nat.zero_add,cell_of_row _ _ i _ E (0,0) (heap_alloc_new w _)];simp[hi]
def MK(s:List UInt8)(i:Nat):List UInt8:=(s.drop (200*i)).take 200
def Yn(s:List UInt8):∀n:Nat,(List.range n).flatMap (MK s)=s.take (200*n)
 | 0=>by simp
 | n+1=>by rw[List.range_succ,List.flatMap_append,Yn s n,Nat.mul_succ,List.take_add];simp[MK]
def zka{s:List UInt8}(h:s.length<=200*n):(List.range n).flatMap (MK s)=s:=by rw[Yn,List.take_of_length_le h]
def zj9(s:List UInt8)(i:Nat):(MK s i).length<=200:=by rw[MK,List.length_take];omega
def Gs(s:ByteArray)(i:Nat):ByteArray:=s.extract (200*i) s.size
def E5(s:ByteArray)(i:Nat):ByteArray:=s.extract (200*i) (200*i+200)
def toList_extract(s:ByteArray)(a b:Nat):(s.extract a b).data.toList=(s.data.toList.drop a).take (b-a):=by rw[ByteArray.data_extract,Array.toList_extract,List.extract_eq_take_drop]
def PQ(s:ByteArray)(i:Nat):(E5 s i).data.toList=MK s.data.toList i:=by rw[E5,toList_extract,MK,Nat.add_sub_cancel_left]
def DN(s:ByteArray)(i:Nat):(Gs s i).data.toList=s.data.toList.drop (200*i):=by rw[Gs,toList_extract,List.take_of_length_le];rw[List.length_drop];exact Nat.le_refl _
def zjX(s:ByteArray):Gs s 0=s:=by apply ByteArray.ext;apply Array.toList_inj.1;rw[DN];rfl
def zjY(s:ByteArray)(i:Nat):(Gs s i).size=s.size-200*i:=by
 have:(Gs s i).data.toList.length=_:=congrArg List.length (DN s i)
 rw[List.length_drop]at this;exact this
def zmF(s:ByteArray)(i:Nat):(Gs s i).extract 0 (min (Gs s i).size 200)=E5 s i∧(Gs s i).extract (min (Gs s i).size 200) (Gs s i).size=Gs s (i+1):=by
 have hl:(Gs s i).data.toList.length=(Gs s i).size:=rfl;constructor
 ·apply ByteArray.ext;apply Array.toList_inj.1;rw[toList_extract,PQ,DN,List.drop_zero,Nat.sub_zero,MK];rw[DN]at hl;rw[<-hl];rcases Nat.le_total ((s.data.toList.drop (200*i)).length) 200 with h|h
  ·rw[Nat.min_eq_left h,List.take_length,List.take_of_length_le h]
  rw[Nat.min_eq_right h]
 apply ByteArray.ext;apply Array.toList_inj.1;rw[toList_extract,DN,DN,List.drop_drop];rw[DN]at hl;rw[<-hl];rcases Nat.le_total ((s.data.toList.drop (200*i)).length) 200 with h|h
 ·rw[Nat.min_eq_left h];rw[List.length_drop]at h;have h1:s.data.toList.drop (200*(i+1))= []:=List.drop_eq_nil_iff.2 (by omega);rw[h1,Nat.sub_self,List.take_zero]
 rw[Nat.min_eq_right h,List.take_of_length_le (by rw[List.length_drop,List.length_drop];omega)]
 congr 1
def F5(s:ByteArray)(i:Nat):(E5 s i).size<=200:=by have h:=zj9 s.data.toList i;rw[<-PQ]at h;exact h
def zcJ{s:ByteArray}(h:s.size<=6400):((List.range 32).map (E5 s)).flatMap (λt=>t.data.toList)=s.data.toList:=by rw[List.flatMap_map];have e:(λi=>(E5 s i).data.toList)=MK s.data.toList:=funext (PQ s);rw[e];exact zka h
inductive Tr where
 | fin
 | no
 | rd (i:Nat) (t:Tr)
 | alt (i:Nat) (t:Tr) (u:Tr)
def Tr.len:Tr->Nat
 | .fin=>0
 | .no=>0
 | .rd _ t=>t.len+1
 | .alt _ t _=>t.len+1
def Tr.alts:Tr->List Nat
 | .alt i _ u=>i::u.alts
 | _=> []
section
variable {P:Program}{ops:Array Oper}{md:Region.Mode}{C:World->Prop}{Q:Exit->Act->World->Prop}
def okT(md:Region.Mode)(ops:Array Oper):Tr->Option Nat->Array Bool->Bool
 | .fin,none,done=>(List.range ops.size).all λj=>done.getD j false
 | .no,some _,_=>true
 | .rd i t,none,done=>(Region.ready md ops done).contains i&&Region.free md ops done i&&Qw md ops done i&&okT md ops t none (done.setIfInBounds i true)
 | .alt i t u,none,done=>decide (Region.ready md ops done=i::u.alts)&&okT md ops t none (done.setIfInBounds i true)&&okT md ops u (some t.len) done
 | .alt i t u,some n,done=>decide (t.len=n)&&okT md ops t none (done.setIfInBounds i true)&&okT md ops u (some n) done
 | _,_,_=>false
def wC(P:Program)(ops:Array Oper)(C:World->Prop)(Q:Exit->Act->World->Prop):Tr->Bool->Act->World->Prop
 | .fin,_,a,w=>Q .normal a w
 | .no,_,_,_=>True
 | .rd i t,_,a,w=>vY P ops C (λa'=>wC P ops C Q t true a' w) (qC ops [i]) a
 | .alt i t u,true,a,w=>C w∧wpList P ops (Exit.then (wC P ops C Q t true) Q) (qC ops [i]) a w∧wC P ops C Q u false a w
 | .alt i t u,false,a,w=>wpList P ops (Exit.then (wC P ops C Q t true) Q) (qC ops [i]) a w∧wC P ops C Q u false a w
def zk2(n:Nat):∀(u:Tr) (done:Array Bool) (a:Act) (w:World),okT md ops u (some n) done=true->wC P ops C Q u false a w->∀j∈u.alts,∃t:Tr,t.len=n∧SizeOf.sizeOf t<SizeOf.sizeOf u∧okT md ops t none (done.setIfInBounds j true)=true∧wpList P ops (Exit.then (wC P ops C Q t true) Q) (qC ops [j]) a w
 | .fin,_,_,_,_,_,j,hj=>by cases hj
 | .no,_,_,_,_,_,j,hj=>by cases hj
 | .rd _ _,_,_,_,_,_,j,hj=>by cases hj
 | .alt i t u,done,a,w,hB,h,j,hj=>by
  simp only[okT,Bool.and_eq_true,decide_eq_true_eq]at hB;rcases List.mem_cons.1 hj with rfl|hj
  ·exact⟨t,hB.1.1,by simp;omega,hB.1.2,h.1⟩
  obtain⟨t',h1,h2,h3,h4⟩:=zk2 n u done a w hB.2 h.2 j hj;exact⟨t',h1,by simp;omega,h3,h4⟩
def FV(zY:Region.noSelect ops=true)(hQ:∀c (a:Act) d v w,Q (.panic c) (a.put d v) w->Q (.panic c) a w)
  (t:Tr) (done:Array Bool) (a:Act) (w:World) (hB:okT md ops t none done=true) (h:wC P ops C Q t true a w):O4 P md ops C Q t.len done a w:=by
 match t,hB,h with
 | .fin,hB,h=>exact⟨λj hj=>List.all_eq_true.1 hB j (List.mem_range.2 hj),h⟩
 | .no,hB,h=>cases hB
 | .rd i t,hB,h=>
  simp only[okT,Bool.and_eq_true]at hB;obtain⟨⟨⟨hr,hf⟩,hw⟩,Ry⟩:=hB;have Yy:i∈Region.ready md ops done:=by simpa using hr
  obtain⟨_,o,h0,_⟩:=mem_ready.1 Yy;unfold wC at h;simp only[qC,h0]at h;unfold vY at h;by_cases IE:Region.wanted o (yielded ops a.tmps)=true
  ·simp only[IE,if_true]at h;obtain⟨v,hv,hK⟩:=h;exact CP h0 (Region.noSelect_spec zY) (λc a w hq=>hQ c a _ _ w hq) _ done a w (Region.free_spec h0 hf) Yy (AQ hw) (.inl ⟨IE,λw hC=>hv ⟨w,hC⟩⟩) (FV zY hQ t _ _ w Ry hK)
  simp only[IE,Bool.false_eq_true,if_false]at h;exact CP h0 (Region.noSelect_spec zY) (λc a w hq=>hQ c a _ _ w hq) _ done a w (Region.free_spec h0 hf) Yy (AQ hw) (.inr ⟨by simpa using IE,rfl⟩) (FV zY hQ t _ _ w Ry h)
 | .alt i t u,hB,h=>
  simp only[okT,Bool.and_eq_true,decide_eq_true_eq]at hB;refine⟨h.1,λh0=>(by rw[hB.1.1]at h0;cases h0),λj hj=> ?_⟩;obtain⟨_,o,ho,_⟩:=mem_ready.1 hj;rw[hB.1.1]at hj;rcases List.mem_cons.1 hj with rfl|hj
  ·exact wpOp_mono (λa' w' h'=>FV zY hQ t _ a' w' hB.1.2 h') (Dl ho h.2.1)
  obtain⟨t',h1,h2,h3,h4⟩:=zk2 t.len u done a w hB.2 h.2.2 j hj;exact wpOp_mono (λa' w' h'=>by have:=FV zY hQ t' _ a' w' h3 h';rwa [h1]at this) (Dl ho h4)
termination_by SizeOf.sizeOf t
def zL{id:Nat}{l:List Oper}{a:Act}(C:World->Prop)(t:Tr)(hm:P.follows .mixedOrders=true)(hB:(Region.noSelect l.toArray&&okT .any l.toArray t none (Array.replicate l.toArray.size false)&&decide (t.len=l.toArray.size))=true)
  (hQ:∀c (a:Act) d v w,Q (.panic c) (a.put d v) w->Q (.panic c) a w)
  (h:wC P l.toArray C Q t true a w.drew):(Code.region id l.toArray true).wp P Q a w:=by
 simp only[Bool.and_eq_true,decide_eq_true_eq]at hB;obtain⟨⟨zY,hB⟩,hl⟩:=hB;refine wp_region_any hm ?_;have H:=MX _ _ _ _ (FV (md:= .any) zY hQ t _ a w.drew hB h)
 rwa [hl]at H
end
abbrev af:=ByteArray
def ah(S:Nat->Prop)(w:World):Keep S w w:=Keep.refl S w
def aj{t:Sort _}(a:t):∃x,x=a:=⟨_,rfl⟩
abbrev ak:=Keep qw
abbrev au(v:Value)(w:World)(e:Ending)(x:World):=e= .returned v∧Keep qw w x
abbrev ax:=World
abbrev ay:=Value
abbrev aB:=TypeId
abbrev aC:=@Go.Lib.hid
abbrev aF:=@List.getElem?_toArray
abbrev aG:=@List.getD_eq_getElem?_getD
abbrev aH:=@List.getElem?_cons_succ
abbrev aI:=@List.getElem?_cons_zero
abbrev aK:=@List.getElem?_eq_getElem
abbrev aN:=@List.length_append
abbrev aO:=@Go.cell_of_row
abbrev aP:=@List.length_map
abbrev aQ:=@Go.heap_alloc_new
abbrev aS:=@Nat.le_refl
abbrev aT:=@List.getElem?_eq_some_iff
abbrev aU:=@Option.some.inj
abbrev aV:=@if_neg
abbrev aW:=@decide_eq_true_eq
abbrev aX:=@List.getElem?_map
abbrev aY:=@Go.IntWalk.i64_in
abbrev aZ:=@List.take_succ_eq_append_getElem
abbrev bf:=@List.length_cons
abbrev bg:=@List.take_of_length_le
abbrev bu:=@if_pos
abbrev bC:=@List.append_assoc
abbrev bD:=@List.mem_cons_of_mem
abbrev bF:=@decide_eq_true
abbrev bG:=@List.mem_of_getElem?
abbrev bH:=@List.map_cons
abbrev bI:=@Bool.and_eq_true
abbrev bJ:=@List.mem_singleton
abbrev bK:=@Go.Proofs.Tryz.underlying9
abbrev bP:=@List.length_replicate
abbrev bQ:=@Nat.le_trans
abbrev bT:=@List.getElem?_append_right
abbrev bU:=@Go.Lib.frozen_of_heap
abbrev bW:=@List.mem_cons_self
abbrev bY:=@List.mem_map
abbrev bZ:=@List.size_toArray
abbrev cO:=@decide_eq_false
abbrev cZ:=@List.length_nil
abbrev dh:=@List.map_nil
abbrev dA:=@List.drop_succ_cons
abbrev dB:=@congrArg
abbrev dD:=@List.take_zero
abbrev dE:=@List.take_succ_cons
abbrev dF:=@List.drop_zero
abbrev dG:=@Go.Proofs.Tryz.underlying153
abbrev dH:=@Nat.lt_of_lt_of_le
abbrev dI:=@Go.ByteArray.toList_eq
abbrev dJ:=@List.length_take
abbrev dK:=@List.map_append
abbrev dL:=@List.getElem?_append_left
abbrev dM:=@Go.Proofs.Tryz.underlying66
abbrev dN:=@ByteArray.size_append
abbrev dO:=@List.mem_cons
abbrev dP:=@Go.wpQuiet_nil
abbrev dQ:=@Array.getElem?_eq_getElem
abbrev dR:=@List.pairwise_cons
abbrev dS:=@List.append_nil
abbrev dU:=@List.flatMap_append
abbrev dV:=@List.eq_nil_of_length_eq_zero
abbrev dW:=@Array.size_push
abbrev dX:=@List.mem_append
abbrev dY:=@List.foldl_cons
abbrev dZ:=@List.flatMap_cons
abbrev eu:=@beq_eq_false_iff_ne
abbrev eF:=@Go.bodyPost_ret
abbrev eH:=@Nat.zero_add
abbrev eP:=@List.find?_cons
abbrev eQ:=@Go.Proofs.Tryz.underlying5
abbrev eU:=@Bool.not_eq_true'
abbrev eY:=@ByteArray.data_append
abbrev fA:=@Bool.or_eq_true
abbrev fC:=@List.length_set
abbrev fD:=@List.toList_toArray
abbrev fE:=@List.pairwise_map
abbrev fF:=@beq_self_eq_true
abbrev fG:=@Go.Proofs.Tryz.underlying3
abbrev fH:=@List.map_toArray
abbrev fJ:=@List.setIfInBounds_toArray
abbrev fK:=@ByteArray.size_extract
abbrev fM:=@of_decide_eq_true
abbrev fO:=@List.getElem_mem
abbrev fP:=@Nat.zero_le
abbrev fQ:=@Array.getElem_modify_self
abbrev fU:=@Go.run_underlying
abbrev fV:=@List.cons_append
abbrev fZ:=@List.nil_append
abbrev gm:=@Go.setRow_other
abbrev gq:=@decide_eq_false_iff_not
abbrev gu:=@Go.Proofs.Tryz.underlying88
abbrev gy:=@List.mem_filter
abbrev gG:=@Go.run_callFunc_extern
abbrev gI:=@Go.World.cell?_alloc_lt
abbrev gJ:=@List.getElem?_take
abbrev gK:=@Go.RowKit.Below.heap_setCell
abbrev gQ:=@List.length_filter_le
abbrev gU:=@List.map_congr_left
abbrev gV:=@List.all_eq_true
abbrev gW:=@Option.map_some
abbrev gY:=@List.length_drop
abbrev gZ:=@List.take_left'
abbrev ig:=@Go.World.ownsRow.lt
abbrev ik:=@Go.wpList_append_own
abbrev iq:=@List.mem_of_mem_take
abbrev iw:=@List.foldl_nil
abbrev iy:=@List.map_map
abbrev iC:=@Go.info_parts
abbrev iD:=@of_decide_eq_false
abbrev iE:=@List.set_append_right
abbrev iF:=@List.length_singleton
abbrev iG:=@List.getElem_of_mem
abbrev iH:=@Bool.false_and
abbrev iI:=@Array.getElem?_eq_some_iff
abbrev iJ:=@List.mem_range
abbrev iK:=@Go.block_lt_of_cell
abbrev iL:=@List.foldl_append
abbrev iM:=@List.getElem?_of_mem
abbrev iO:=@List.pairwise_iff_getElem
abbrev iP:=@Go.Proofs.Tryz.underlying105
abbrev iQ:=@Bool.eq_iff_iff
abbrev iR:=@Array.toList_inj
abbrev iT:=@List.not_mem_nil
abbrev iU:=@Array.getElem?_modify
abbrev iV:=@List.take_append_drop
abbrev iW:=@Nat.two_pow_add_eq_or_of_lt
abbrev iY:=@Nat.add_zero
abbrev iZ:=@Go.Proofs.Tryz.underlying130
abbrev jf:=@List.find?_eq_none
abbrev jg:=@Nat.lt_of_le_of_lt
abbrev jh:=@Nat.mod_lt
abbrev ji:=@List.mem_replicate
abbrev jk:=@ByteArray.ext
abbrev jl:=@List.drop_left'
abbrev jm:=@List.any_eq_true
abbrev jo:=@Go.MapKept.run_getObj_map
abbrev jy:=@Array.getElem?_eq_none
abbrev jA:=@Nat.mul_comm
abbrev jB:=@List.drop_eq_getElem_cons
abbrev jC:=@List.mergeSort_perm
abbrev jD:=@Option.some.injEq
abbrev jE:=@Go.Proofs.Tryz.underlying23
abbrev jF:=@List.getElem?_eq_none
abbrev jG:=@Bool.true_and
abbrev jH:=@Prod.mk.injEq
abbrev jI:=@Go.wpList_load_row
abbrev jJ:=@Go.Lib.run_convert_string_bytes
abbrev jK:=@Go.wpQuiet_step
abbrev jM:=@Nat.mod_eq_of_lt
abbrev jO:=@Nat.mul_le_mul_right
abbrev jP:=@List.getElem?_replicate
abbrev jQ:=@Array.replicate_succ
abbrev jR:=@Array.replicate_zero
abbrev jS:=@Go.MapKept.run_setObj_map
abbrev jT:=@List.any_eq_false
abbrev jU:=@List.replicate_zero
abbrev jV:=@List.append_toArray
abbrev jW:=@Array.toList_append
abbrev jX:=@Nat.div_le_self
abbrev jY:=@List.mem_of_find?_eq_some
abbrev jZ:=@beq_iff_eq
abbrev ku:=@List.flatMap_nil
abbrev kz:=@Nat.sub_self
abbrev kC:=@List.Perm.refl
abbrev kD:=@Bool.or_eq_false_iff
abbrev kE:=@Nat.or_lt_two_pow
abbrev kF:=@Go.Proofs.Tryz.underlying81
abbrev kG:=@Go.World.ownsRow_nil
abbrev kH:=@List.push_toArray
abbrev kJ:=@Int.toNat_natCast
abbrev kK:=@Go.Proofs.Tryz.underlying49
abbrev kL:=@Go.Proofs.Tryz.underlying67
abbrev kM:=@Nat.min_eq_left
abbrev kN:=@Go.Calls.quiet_of_same
abbrev kP:=@List.getElem?_range
abbrev kQ:=@Nat.div_div_eq_div_mul
abbrev kR:=@List.map_set
abbrev kS:=@Option.map_eq_some_iff
abbrev kT:=@Nat.add_assoc
abbrev kU:=@Go.Proofs.Tryz.underlying4
abbrev kV:=@List.ext_getElem
abbrev kW:=@Array.ext_getElem?
abbrev kX:=@Nat.xor_lt_two_pow
abbrev kY:=@Go.Calls.quiet_of
abbrev kZ:=@Go.Proofs.Tryz.underlying222
abbrev lq:=@Nat.eq_zero_or_pos
abbrev lu:=@List.perm_append_comm
abbrev lD:=@Array.getElem?_toList
abbrev lF:=@List.getElem?_zip_eq_some
abbrev lH:=@List.range_succ
abbrev lI:=@Go.callsIn_wide
abbrev lJ:=@Go.Sem.run_bind
abbrev lK:=@BitVec.ofInt_natCast
abbrev lM:=@Go.Proofs.Tryz.underlying80
abbrev lN:=@or_false
abbrev lQ:=@Go.results_none
abbrev lS:=@Go.Proofs.Tryz.ntmps46
abbrev lT:=@List.mem_append_left
abbrev lU:=@Array.all_eq_true_iff_forall_mem
abbrev lV:=@List.pairwise_singleton
abbrev lW:=@Go.IntKind.wrap_u32
abbrev lX:=@Go.wp_loop_rounds
abbrev lY:=@Go.World.frozen?_alloc_old
abbrev lZ:=@Go.World.size_alloc
abbrev mf:=@List.mem_flatMap
abbrev mg:=@List.mem_reverse
abbrev mi:=@Nat.mul_one
abbrev mr:=@Go.Proofs.Tryz.func46
abbrev mD:=@BitVec.toNat_ofNat
abbrev mF:=@Nat.pow_succ
abbrev mG:=@List.getElem?_set_self
abbrev mJ:=@List.drop_of_length_le
abbrev mM:=@List.filter_map
abbrev mO:=@List.filter_congr
abbrev mP:=@Go.Maps.keyOf_int_mk
abbrev mQ:=@Go.Result.andThen_ok
abbrev mV:=@Go.Proofs.Tryz.underlying73
abbrev mW:=@Go.DataW.held.inj
abbrev mX:=@Go.rounds_succ
abbrev mY:=@Nat.pow_le_pow_right
abbrev mZ:=@List.dropWhile_cons_of_pos
abbrev ng:=@List.filter_cons
abbrev nG:=@Go.IntKind.wrap_u64
abbrev nH:=@Go.MapKept.heap_set
abbrev nJ:=@Go.RowKit.Below.heap_alloc
abbrev nK:=@Nat.min_eq_right
abbrev nM:=@List.take_length
abbrev nN:=@Option.getD_some
abbrev nO:=@List.drop_replicate
abbrev nP:=@List.Perm.eq_of_pairwise
abbrev nR:=@List.find?_some
abbrev nS:=@Go.Obj.cells.injEq
abbrev nT:=@Bool.false_eq_true
abbrev nU:=@Go.World.ownsMap_made
abbrev nV:=@List.getElem?_drop
abbrev nX:=@Go.Proofs.Tryz.underlying323
abbrev nY:=@Go.RowKit.Below.refl
abbrev nZ:=@List.filter_append
abbrev og:=@Array.extract_size
abbrev oh:=@Go.Proofs.Tryz.underlying106
abbrev oq:=@List.pairwise_mergeSort
abbrev ou:=@Nat.lt_or_ge
abbrev oz:=@Nat.zero_mul
abbrev oD:=@List.getElem?_set
abbrev oG:=@Nat.add_comm
abbrev oH:=@Go.Addr.add_lit
abbrev oI:=@Go.Proofs.Tryz.underlying64
abbrev oJ:=@Go.Proofs.Tryz.results67
abbrev oK:=@Go.Proofs.Tryz.func129
abbrev oL:=@Bool.not_false
abbrev oM:=@getElem!_pos
abbrev oN:=@UInt8.ofNat_toNat
abbrev oO:=@Go.Proofs.Tryz.underlying45
abbrev oP:=@List.length_mergeSort
abbrev oQ:=@Go.Lib.cell_of_heap
abbrev oU:=@Nat.not_lt
abbrev oV:=@List.mem_nil_iff
abbrev oW:=@Go.Proofs.Tryz.zeroValue45
abbrev oZ:=@Go.callsIn_of_wp
abbrev o7:=@Go.World.ownsMap.update
abbrev o8:=@List.replicate_succ'
abbrev o9:=@List.getElem?_set_ne
abbrev pg:=@List.mem_of_mem_drop
abbrev pq:=@Bool.and_eq_true_iff
abbrev pz:=@List.count_le_length
abbrev pF:=@List.pairwise_append
abbrev pG:=@BitVec.toNat_or
abbrev pI:=@Go.Oper.semAt_some
abbrev pJ:=@Array.length_toList
abbrev pK:=@List.filter_eq_self
abbrev pM:=@List.length_pos_iff
abbrev pO:=@List.dropWhile_cons
abbrev pR:=@Go.wpList_plain
abbrev pU:=@Nat.pow_zero
abbrev pV:=@Ne.symm
abbrev pW:=@List.map_replicate
abbrev pY:=@Nat.add_sub_cancel
abbrev qc:=@Int.mul_le_mul
abbrev qf:=@List.set_cons_zero
abbrev qg:=@Go.Maps.has_eq
abbrev qh:=@Int.le_refl
abbrev qi:=@Bool.not_true
abbrev qj:=@Nat.lt_irrefl
abbrev ql:=@List.cons.inj
abbrev ae:=Calls prog
def ag{p:Prop}(h:p):RowKit.Hid p:=Lib.hid h
