import Derived.Test.YtopbkdebihcmcaaGreatDoorYAD
import Derived.Test.YtopbkdebihcmcaaGreatDoorYAZ
set_option linter.unusedSimpArgs false
set_option linter.unusedVariables false
namespace Go.Proofs.YtopbkdebihcmcaaGreatDoor
open Go.RowKit
set_option maxRecDepth 100000
set_option maxHeartbeats 16000000
theorem zjv:(Tryz.prog.info? 35).map (·.size)=some 2:=by kernel_rfl
theorem zfa:(Tryz.prog.info? 5).map (λi=>(i.zero,i.size,i.bytes))=some (some (.int .u8 0),1,1):=by kernel_rfl
theorem zgs(b:Nat)(w:World)(h0:w.cell? ⟨b,0,none⟩=some (.pointer (some ⟨b,0,none⟩))):
  Calls Tryz.prog 17 #[.pointer (some ⟨b,0,none⟩)] w λe w'=>e= .returned (.tuple #[])∧w'=w:=by
 obtain⟨j,hj,_⟩:=Option.map_eq_some_iff.1 zjv;go_enter Tryz.func17,Tryz.ntmps17;go_wp2;rw[Lib.run_neq_ptr_same w _ Tryz.underlying32 hj];go_wp2;go_end0;exact⟨rfl,rfl⟩
theorem zev(b:Nat)(w:World)(h0:w.cell? ⟨b,0,none⟩=some (.pointer none))(hsh:w.shape? b=some (35,2))(hfz:w.frozen? ⟨b,0,none⟩=false):
  Calls Tryz.prog 17 #[.pointer (some ⟨b,0,none⟩)] w λe w'=>e= .returned (.tuple #[])∧w'=w.setCell ⟨b,0,none⟩ (.pointer (some ⟨b,0,none⟩)):=by
 obtain⟨j,hj,hjs⟩:=Option.map_eq_some_iff.1 zjv;go_enter Tryz.func17,Tryz.ntmps17;go_wp2;rw[Lib.run_to_unsafe w ⟨b,0,none⟩ Tryz.underlying32 Tryz.underlying71 hj (by rw[hjs];decide) hsh (kN 1)];simp only[Result.andThen];rw[Oper.upon_value];go_wp2;rw[fC Tryz.func33 (by kernel_rfl) (by kernel_rfl) (by kernel_rfl) (e:=Extern.AbiNoEscape.same) (by kernel_rfl)];rw[Lib.run_noEscape];simp only[Result.andThen];rw[Oper.upon_value];go_wp2;rw[Lib.run_from_unsafe w ⟨b,0,none⟩ Tryz.underlying71 Tryz.underlying32 hj hsh (by kernel_rfl)];simp only[Result.andThen];rw[Oper.upon_value];go_wp2;go_end0;exact⟨rfl,rfl⟩
def Wr(B b:Nat)(w:World)(x:Nat):Prop:=x=b∨(B<=x∧∃cs fz,w.heap[x]? =some (.cells cs 5 fz))
theorem Wr.trans{B b:Nat}{w0 w1 w2:World}(h:Keep (Wr B b w0) w0 w1)(k:Keep (Wr B b w1) w1 w2):Keep (Wr B b w0) w0 w2:=
 h.trans k (λi hi hs=>by
  by_cases e:Wr B b w0 i
  ·exact e
  ·rcases hs with hs|⟨h1,cs,fz,h2⟩
   ·exact .inl hs
   ·rw[h.block i hi e]at h2;exact .inr ⟨h1,cs,fz,h2⟩)
abbrev IsB(B b:Nat)(l:List UInt8)(w:World):Prop:=Lib.IsBuilderF 35 5 B b (Lib.byteCells l) w
theorem zc0(w:World):IsB w.heap.size w.heap.size [] (w.alloc (.cells #[.pointer none,.slice none 0 0] 35)):=
 .inl ⟨aF _,.slice none 0 0,aG w _,⟨rfl,.inl ⟨rfl,rfl⟩⟩,by intro h;cases h⟩
theorem IsB.keep{B b:Nat}{l:List UInt8}{w w':World}(h:IsB B b l w){S:Nat->Prop}(hk:Keep S w w')(hb:¬S b)(hS:∀x,B<=x->x<w.heap.size->(∃cs fz,w.heap[x]? =some (.cells cs 5 fz))->¬S x):IsB B b l w':=by
 have key:∀p,Lib.BuilderAtF 35 5 B b p (Lib.byteCells l) w->Lib.BuilderAtF 35 5 B b p (Lib.byteCells l) w':=by
  rintro p ⟨hB,v,hh,hown,hne⟩;refine⟨hB,v,hk.heap hh hb,?_,hne⟩;obtain⟨hl,hown⟩:=hown;refine⟨hl,?_⟩;rcases hown with h|⟨g,cap,cur,fz,hv,hbg,hg,r⟩
  ·exact .inl h
  ·exact .inr ⟨g,cap,cur,fz,hv,hbg,hk.heap hg (hS g hbg (lt_of_heap hg) ⟨_,_,hg⟩),r⟩
 exact h.imp (key _) (key _)
theorem IsB.oz{B b:Nat}{l:List UInt8}{w w':World}(h:IsB B b l w)(hk:Keep nM w w'):IsB B b l w':=h.keep hk (λx=>x) (λ_ _ _ _ x=>x)
theorem check_any(B b:Nat)(bs:List Value)(w:World)(h:Lib.IsBuilderF 35 5 B b bs w):
  Calls Tryz.prog 17 #[.pointer (some ⟨b,0,none⟩)] w λe w'=>e= .returned (.tuple #[])∧Lib.BuilderAtF 35 5 B b (.pointer (some ⟨b,0,none⟩)) bs w'∧Keep (nY b) w w':=by
 rcases h with h|h
 ·refine(zev b w h.cell0 h.shape h.frozen0).mono ?_;rintro e w' ⟨rfl,rfl⟩;exact⟨rfl,h.used _,(ah (nY b) w).set1 0 _⟩
 ·refine(zgs b w h.cell0).mono ?_;rintro e w' ⟨rfl,rfl⟩;exact⟨rfl,h,ah _ _⟩
theorem write_any(B b:Nat)(l:List UInt8)(s:af)(w:World)(h:IsB B b l w)(hlen:l.length+s.size<=1000000000)(hBw:B<=w.heap.size):
  Calls Tryz.prog 8 #[.pointer (some ⟨b,0,none⟩),.string s] w λe w'=>e= .returned (.tuple #[.int .i64 s.size,.nilIface])∧IsB B b (l++s.data.toList) w'∧Keep (Wr B b w) w w':=by
 obtain⟨i0,hi,hz0,hz1,hz2⟩:=kG zfa;obtain⟨bs,hbs⟩:∃bs,bs=Lib.byteCells l:=⟨_,rfl⟩
 have hbl:bs.length=l.length:=by rw[hbs];simp[Lib.byteCells]
 have h':Lib.IsBuilderF 35 5 B b bs w:=by rw[hbs];exact h
 have hfin:Lib.byteCells (l++s.data.toList)=bs++Lib.strCells s:=by rw[hbs];simp[Lib.byteCells,Lib.strCells]
 have Hbl:=Lib.hid hbl;have yH:=Lib.hid hfin;have zpZ:=Lib.hid (check_any B b bs w h');have Hh:=Lib.hid h';clear hbs hbl hfin h h';go_enter Tryz.func8,Tryz.ntmps8;go_wp2_with fail;refine zpZ.out.mono ?_;rintro e w1 ⟨rfl,h1,k1⟩;obtain⟨hB,v,hbk,hown,hne⟩:=h1;have c0:w1.cell? ⟨b,0,none⟩=some (.pointer (some ⟨b,0,none⟩)):=by rw[lW hbk];rfl
 have c1:w1.cell? ⟨b,1,none⟩=some v:=by rw[lW hbk];rfl
 have hs1:=k1.size;have hl2:=Hbl.out;go_wp2_with (at_builtin;refine Lib.wpList_append_own_stringF _ rfl _ _ 33 9 rfl B 5 i0 Tryz.underlying33 Tryz.underlying9 hi hz0 hz1 hz2 _ _ _ rfl hown s rfl ?c3 ?c4 ?c5 ?_)
 case c3=>unfold maxLen;omega
 case c4=>omega
 case c5=>omega
 intro v' w2 hown' hgrow _;have hlt:b<w1.heap.size:=lt_of_heap hbk;have hb2:w2.heap[b]? =some (.cells #[.pointer (some ⟨b,0,none⟩),v] 35 (0,0)):=by rw[hgrow.block b hlt (λe=>hne e.symm)];exact hbk
 have d0:w2.cell? ⟨b,0,none⟩=some (.pointer (some ⟨b,0,none⟩)):=by rw[lW hb2];rfl
 have d1:w2.cell? ⟨b,1,none⟩=some v:=by rw[lW hb2];rfl
 have f1:w2.frozen? ⟨b,1,none⟩=false:=dZ hb2 1;obtain⟨ao,n',cap,rfl⟩:∃ao n' cap,v'= .slice ao n' cap:=by
  rcases hown'.2 with⟨hv,_⟩|⟨g,cap,cur,fz,hv,_⟩
  ·exact⟨_,_,_,hv⟩
  ·exact⟨_,_,_,hv⟩
 go_wp2
 go_ret2
 refine⟨rfl,?_,?_⟩
 ·show Lib.IsBuilderF 35 5 B b (Lib.byteCells (l++s.data.toList)) _;rw[yH.out];exact .inr (Lib.BuilderAtF.put (T:=35) (e:=5) hB hb2 (bs':=bs++Lib.strCells s) (by rw[ay,Lib.strCells_length];first|exact hown'|(rw[hl2];exact hown')) (by decide))
 ·have k2:Keep (Wr B b w1) w1 (w2.setCell ⟨b,1,none⟩ (.slice ao n' cap)):=by
   refine((ah _ _).grown hgrow (λk hk=> .inl (.inr ?_))).setCell (p:=⟨b,1,none⟩) (.inl (.inl rfl)) _;rcases hown.2 with⟨hv,_⟩|⟨g,cap,cur,fz,hv,hbg,hg,_⟩
   ·rw[hv]at hk;cases hk
   ·rw[hv]at hk;obtain rfl:g=k:=aH hk;exact⟨hbg,_,_,hg⟩
  exact Wr.trans (k1.mono (λi _ hi=> .inl hi)) k2
end Go.Proofs.YtopbkdebihcmcaaGreatDoor
