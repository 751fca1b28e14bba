import Derived.Test.YtnmhgehpddipdaaGreatDoorYBK
import Derived.Test.YtnmhgehpddipdaaGreatDoorYBR
set_option linter.unusedSimpArgs false
set_option linter.unusedVariables false
namespace Go.Proofs.YtnmhgehpddipdaaGreatDoor
open Go.RowKit Go.Cof
def OldS(w W:World)(DD:Nat)(Q:Nat->Prop)(n:Nat)(b:BaseV)(kk:Nat)(z:Prop):Prop:=
 ∃P BB D C V d k iv img,DeskS w W P DD BB D C deskSec V d n b k iv img∧k<=kk∧(∀x,Q x↔(P x∨x=DD∨iv.ownBlock=some x))∧(∀g,iv.ownBlock=some g->w.heap.size<=g∧∃cs fz,W.heap[g]? =some (.cells cs 9 fz))∧(z->∃V0,InvV deskSec V0 img 1)
def OldL(w W:World)(DD:Nat)(Q:Nat->Prop)(n:Nat)(z:Prop):Prop:=
 ∃P D C bv iv B,DeskL w W P DD D C deskSec bv iv B n∧(∀x,Q x↔(P x∨x=DD))∧(∃V0,InvV deskSec V0 B 1)∧(z->bv= .pointer none)
theorem oldS_stays(w:World)(DD n:Nat)(b:BaseV)(kk:Nat)(z:Prop):Stays w λW Q=>OldS w W DD Q n b kk z:=by
 refine⟨?_,?_,?_⟩
 ·rintro W W' Q X ⟨P,BB,D,C,V,d,k,iv,img,h,hk,hQ,hty,hz⟩ K hX
  refine⟨P,BB,D,C,V,d,k,iv,img,h.other K (λx hx hl=> ?_),hk,hQ,λg hg=> ?_,hz⟩
  ·obtain⟨h1,h2,h3,h4⟩:=hX x hx hl
   exact⟨h1,λe=>h2 ((hQ x).2 (.inr (.inl e))),λe=>h2 ((hQ x).2 (.inl e)),λg hg e=>h2 ((hQ x).2 (.inr (.inr (e▸hg)))),h3,h4⟩
  ·obtain⟨h1,cs,fz,h2⟩:=hty g hg
   have hlt:g<W.heap.size:=lt_of_heap h2
   have K2:Keep (λx=>X x∧x<W.heap.size) W W':=K.mono λi hi hx=>⟨hx,hi⟩
   exact⟨h1,cs,fz,K2.heap h2 (λe=>(hX g e.1 e.2).2.1 ((hQ g).2 (.inr (.inr hg))))⟩
 ·rintro W Q ⟨P,BB,D,C,V,d,k,iv,img,h,hk,hQ,hty,hz⟩ x hx
  rcases(hQ x).1 hx with hx|rfl|hx
  ·exact⟨h.base.new x hx,h.base.lt x hx⟩
  ·exact⟨h.new,h.row.lt⟩
  ·exact⟨(hty x hx).1,(h.isep x hx).2.2⟩
 ·rintro W Q ⟨P,BB,D,C,V,d,k,iv,img,h,hk,hQ,hty,hz⟩ x c f hx hh
  rcases(hQ x).1 hx with hx|rfl|hx
  ·exact h.base.noBytes x c f hx hh
  ·exact absurd (two_types hh h.row) (by decide)
  ·obtain⟨_,cs,fz,h2⟩:=hty x hx
   exact absurd (two_types hh h2) (by decide)
theorem oldL_stays(w:World)(DD n:Nat)(z:Prop):Stays w λW Q=>OldL w W DD Q n z:=by
 refine⟨?_,?_,?_⟩
 ·rintro W W' Q X ⟨P,D,C,bv,iv,B,h,hQ,hz⟩ K hX
  refine⟨P,D,C,bv,iv,B,h.other K (λx hx hl=> ?_),hQ,hz⟩
  obtain⟨h1,h2,h3,h4⟩:=hX x hx hl
  exact⟨h1,λe=>h2 ((hQ x).2 (.inr e)),λe=>h2 ((hQ x).2 (.inl e))⟩
 ·rintro W Q ⟨P,D,C,bv,iv,B,h,hQ,hz⟩ x hx
  rcases(hQ x).1 hx with hx|rfl
  ·exact⟨h.own x hx,h.lt x hx⟩
  ·exact⟨h.new,h.row.lt⟩
 ·rintro W Q ⟨P,D,C,bv,iv,B,h,hQ,hz⟩ x c f hx hh
  rcases(hQ x).1 hx with hx|rfl
  ·exact h.noBytes x c f hx hh
  ·exact absurd (two_types hh h.row) (by decide)
section
variable {w W:World}{DD:Nat}{Q:Nat->Prop}
theorem oldS_step{P:Nat->Prop}{BB D C:Nat}{V:VaultV}{d:DevV}{n:Nat}{b:BaseV}{k:Nat}{iv:Value}{img:List ByteArray}{w':World}{P':Nat->Prop}{V':VaultV}{d':DevV}{n':Nat}{b':BaseV}{k' kk':Nat}{z':Prop}(hs:DeskS w W P DD BB D C deskSec V d n b k iv img)(h':DeskS w w' P' DD BB D C deskSec V' d' n' b' k' iv img)(hk:k'<=kk')(hQ:∀x,Q x↔(P x∨x=DD∨iv.ownBlock=some x))(hty:∀g,iv.ownBlock=some g->w.heap.size<=g∧∃cs fz,W.heap[g]? =some (.cells cs 9 fz))(hz:z'->∃V0,InvV deskSec V0 img 1)(hg:Grow W P P')(K:Keep P W w'):
  (∃Q',OldS w w' DD Q' n' b' kk' z'∧Grow W Q Q')∧Keep Q W w':=by
 refine⟨⟨λx=>P' x∨x=DD∨iv.ownBlock=some x,⟨P',BB,D,C,V',d',k',iv,img,h',hk,λx=>Iff.rfl,λg hg=> ?_,hz⟩,λx hx=> ?_⟩,K.mono λi hi hx=>(hQ i).2 (.inl hx)⟩
 ·obtain⟨h1,cs,fz,h2⟩:=hty g hg
  exact⟨h1,cs,fz,K.heap h2 (hs.isep g hg).1⟩
 ·rcases hx with hx|hx|hx
  ·exact(hg x hx).imp (λh=>(hQ x).2 (.inl h)) id
  ·exact .inl ((hQ x).2 (.inr (.inl hx)))
  ·exact .inl ((hQ x).2 (.inr (.inr hx)))
def makeL:ByteArray:=⟨#[109,97,107,101,32,50]⟩
def commitL:ByteArray:=⟨#[99,111,109,109,105,116]⟩
def openL:ByteArray:=⟨#[111,112,101,110]⟩
def itemsL:ByteArray:=⟨#[105,116,101,109,115]⟩
def putT(name:ByteArray)(i:Nat):List (List UInt8):= [[112,117,116],name.data.toList,[45],Lib.itoa (i:Int),[49]]
def putL(name:ByteArray)(i:Nat):ByteArray:=⟨(joinSp (putT name i)).toArray⟩
theorem words_make:wordsL makeL= [⟨#[109,97,107,101]⟩,⟨#[50]⟩]:=
 wordsL_join makeL [[109,97,107,101],[50]] (by simp) rfl (by unfold PlainW;decide)
theorem words_commit:wordsL commitL= [⟨#[99,111,109,109,105,116]⟩]:=
 wordsL_join commitL [[99,111,109,109,105,116]] (by simp) rfl (by unfold PlainW;decide)
theorem words_image:wordsL imageTxt= [⟨#[105,109,97,103,101]⟩]:=
 wordsL_join imageTxt [[105,109,97,103,101]] (by simp) rfl (by unfold PlainW;decide)
theorem words_lay:wordsL layTxt= [⟨#[108,97,121]⟩]:=
 wordsL_join layTxt [[108,97,121]] (by simp) rfl (by unfold PlainW;decide)
theorem words_open:wordsL openL= [⟨#[111,112,101,110]⟩]:=
 wordsL_join openL [[111,112,101,110]] (by simp) rfl (by unfold PlainW;decide)
theorem words_items:wordsL itemsL= [⟨#[105,116,101,109,115]⟩]:=
 wordsL_join itemsL [[105,116,101,109,115]] (by simp) rfl (by unfold PlainW;decide)
theorem itoa_digit:∀i,i<10->Lib.itoa ((i:Nat):Int)= [(48+i:Nat).toUInt8]:=by decide+kernel
theorem words_put{name:ByteArray}(h:nameB name=true){i:Nat}(hi:i<4):wordsL (putL name i)=⟨#[112,117,116]⟩::name::⟨#[45]⟩:: [((i:Nat):Int),1].map numTx:=by
 have hw:=wordsL_join (putL name i) (putT name i) (by simp[putT]) (by rw[putL]) ?_
 ·have e1:(⟨name.data.toList.toArray⟩:ByteArray)=name:=by apply ByteArray.ext;simp
  have e2:numTx 1=⟨#[49]⟩:=by decide+kernel
  rw[hw,putT]
  simp only[List.map_cons,List.map_nil,e1,e2]
  rfl
 ·intro x hx
  simp only[putT,List.mem_cons,List.not_mem_nil,or_false]at hx
  rcases hx with rfl|rfl|rfl|rfl|rfl
  ·exact⟨by simp,by unfold PlainW;decide⟩
  ·refine⟨λe=> ?_,λc hc=> ?_⟩
   ·simp only[nameB,Bool.and_eq_true,decide_eq_true_eq]at h
    exact h.1.1.1 (by apply ByteArray.ext;apply Array.toList_inj.1;rw[e])
   ·have h1:=name_mem h c hc
    unfold alnumC at h1
    omega
  ·exact⟨by simp,by unfold PlainW;decide⟩
  ·rw[itoa_digit i (by omega)]
   refine⟨by simp,?_⟩
   unfold PlainW
   intro c hc
   simp at hc
   subst hc
   have:i=0∨i=1∨i=2∨i=3:=by omega
   rcases this with rfl|rfl|rfl|rfl<;>decide
  ·exact⟨by simp,by unfold PlainW;decide⟩
theorem OldS.imp{n:Nat}{b:BaseV}{kk kk':Nat}{z z':Prop}(h:OldS w W DD Q n b kk z)(hk:kk<=kk')(hz:z'->z):OldS w W DD Q n b kk' z':=by
 obtain⟨P,BB,D,C,V,d,k,iv,img,h,hk1,hQ,hty,hz1⟩:=h
 exact⟨P,BB,D,C,V,d,k,iv,img,h,Nat.le_trans hk1 hk,hQ,hty,λx=>hz1 (hz x)⟩
theorem said_make2:Said (freshV deskSec).texts ⟨2,[],[]⟩:= .inl ⟨join_of_texts (λs hs=>List.eq_of_mem_replicate hs),rfl⟩
theorem tr_make(G:BaseVars w)(K0:Keep NoB w W){kk:Nat}{z:Prop}(h:OldS w W DD Q 0 nilB kk z):
  Calls Tryz.prog 27 #[.pointer (some ⟨DD,0,none⟩),.string makeL] W λe W'=>e= .returned (.string makeTxt)∧(∃Q',OldS w W' DD Q' 0 ⟨2,[],[]⟩ kk z∧Grow W Q Q')∧Keep Q W W':=by
 refine stays_ok (oldS_stays w DD 0 nilB kk z) (oldS_stays w DD 0 ⟨2,[],[]⟩ kk z) K0 h (by decide) words_make (by decide) (by simp) (does_make DD) (enters_of Tryz.func129 (by kernel_rfl) rfl) ?_
 rintro w1 ⟨P,BB,D,C,V,d,k,iv,img,h,hk,hQ,hty,hz⟩ K1 q c S hc hx
 have hV:V=freshV deskSec:=h.inv.fresh rfl
 refine(deskDim_ok h (by rw[hV];exact said_make2) G S).mono ?_
 rintro e w2 ⟨he,h2,K2⟩
 exact⟨he,oldS_step h h2 hk hQ hty hz (Grow.refl _ _) K2⟩
theorem tr_commit(G:BaseVars w)(K0:Keep NoB w W){n:Nat}{b:BaseV}{kk:Nat}{z:Prop}(h:OldS w W DD Q n b kk z)(hn:n<900)(hb:b.dim≠0)(hkk:kk<900000):
  Calls Tryz.prog 27 #[.pointer (some ⟨DD,0,none⟩),.string commitL] W λe W'=>e= .returned (.string (commitTxt (n+1)))∧(∃Q',OldS w W' DD Q' (n+1) (doneB b) kk z∧Grow W Q Q')∧Keep Q W W':=by
 refine stays_ok (oldS_stays w DD n b kk z) (oldS_stays w DD (n+1) (doneB b) kk z) K0 h (by decide) words_commit (by decide) (by simp) (does_commit DD) (enters_of Tryz.func118 (by kernel_rfl) rfl) ?_
 rintro w1 ⟨P,BB,D,C,V,d,k,iv,img,h,hk,hQ,hty,hz⟩ K1 q c S hc hx
 refine(deskCommit_ok h G (by omega) hn hb deskSec_size q c).mono ?_
 rintro e w2 ⟨he,⟨V',d',P',h2,hg⟩,K2⟩
 exact⟨he,oldS_step h h2 hk hQ hty hz hg K2⟩
theorem tr_image(G:BaseVars w)(K0:Keep NoB w W){b:BaseV}{kk:Nat}{z:Prop}(h:OldS w W DD Q 1 b kk z):
  Calls Tryz.prog 27 #[.pointer (some ⟨DD,0,none⟩),.string imageTxt] W λe W'=>e= .returned (.string imageTxt)∧(∃Q',OldS w W' DD Q' 1 b kk True∧Grow W Q Q')∧Keep Q W W':=by
 refine stays_ok (oldS_stays w DD 1 b kk z) (oldS_stays w DD 1 b kk True) K0 h (by decide) words_image (by decide) (by simp) (does_image DD) (enters_of Tryz.func126 (by kernel_rfl) rfl) ?_
 rintro w1 ⟨P,BB,D,C,V,d,k,iv,img,h,hk,hQ,hty,hz⟩ K1 q c S hc hx
 refine(deskKeep_ok h q c).mono ?_
 rintro e w2 ⟨he,⟨iv',h2,hg⟩,K2⟩
 have hw:w.heap.size<=w1.heap.size:=K1.size
 refine⟨he,⟨λx=>P x∨x=DD∨iv'.ownBlock=some x,⟨P,BB,D,C,V,d,k,iv',d.sure,h2,hk,λx=>Iff.rfl,λg hgg=>⟨Nat.le_trans hw (hg g hgg).1,(hg g hgg).2⟩,λ_=>⟨V,h.inv⟩⟩,λx hx=> ?_⟩,K2.mono λi hi hx=>(hQ i).2 (.inr (.inl hx))⟩
 rcases hx with hx|hx|hx
 ·exact .inl ((hQ x).2 (.inl hx))
 ·exact .inl ((hQ x).2 (.inr (.inl hx)))
 ·exact .inr (hg x hx).1
def itO(name:ByteArray)(i:Nat):PItem:=(name,⟨#[]⟩,[((i:Nat):Int),1])
theorem tr_put(G:BaseVars w)(K0:Keep NoB w W){n:Nat}{b:BaseV}{kk:Nat}{z:Prop}(h:OldS w W DD Q n b kk z)(hkk:kk<900000){name:ByteArray}(hnm:nameB name=true){i:Nat}(hi:i<4)(hp:(putB b (itO name i)).1=0):
  Calls Tryz.prog 27 #[.pointer (some ⟨DD,0,none⟩),.string (putL name i)] W λe W'=>e= .returned (.string putTxt)∧(∃Q',OldS w W' DD Q' n (putB b (itO name i)).2 (kk+1) z∧Grow W Q Q')∧Keep Q W W':=by
 have hsz:(putL name i).size<=1000000:=by
  have h1:(putL name i).size=(joinSp (putT name i)).length:=rfl
  have h2:name.data.toList.length<=10:=nameB_size hnm
  have h3:=itoa_digit i (by omega)
  rw[h1,putT,h3]
  simp only[joinSp,List.length_append,List.length_cons,List.length_nil]
  omega
 refine stays_ok (oldS_stays w DD n b kk z) (oldS_stays w DD n (putB b (itO name i)).2 (kk+1) z) K0 h hsz (words_put hnm hi) (by decide) (by simp) (does_put DD) (enters_of Tryz.func131 (by kernel_rfl) rfl) ?_
 rintro w1 ⟨P,BB,D,C,V,d,k,iv,img,h,hk,hQ,hty,hz⟩ K1 q c S hc hx
 have hnum:∀v∈ [((i:Nat):Int),1],Lib.atoiAll (Lib.itoa v)= .ok v∧(Lib.itoa v).length<=1000000:=by
  have h1:∀j,j<4->Lib.atoiAll (Lib.itoa ((j:Nat):Int))= .ok ((j:Nat):Int)∧(Lib.itoa ((j:Nat):Int)).length<=1000000:=by decide+kernel
  intro v hv
  simp only[List.mem_cons,List.not_mem_nil,or_false]at hv
  rcases hv with rfl|rfl
  ·exact h1 i hi
  ·exact h1 1 (by decide)
 refine(deskPut_ok h G (by omega) name ⟨#[45]⟩ [((i:Nat):Int),1] rfl (by simp) S rfl hnum hp hc (by simp) (λx hb hq=>hx x hb ((hQ x).2 (.inl hq)))).mono ?_
 rintro e w2 ⟨he,h2,K2⟩
 exact⟨he,oldS_step h h2 (Nat.succ_le_succ hk) hQ hty hz (Grow.refl _ _) K2⟩
theorem layP_same(l:List ByteArray)(hl:l.length=66)(h:∀i,i<66->(l.getD i ⟨#[]⟩).size=256):layP l=l:=by
 refine ext_getD ⟨#[]⟩ (by rw[layP,List.length_map,List.length_range,hl]) λi hi=> ?_
 rw[layP,List.length_map,List.length_range]at hi
 rw[layP,List.getD_eq_getElem?_getD,List.getElem?_map,List.getElem?_range hi]
 show laidAt l i=_
 rw[laidAt,if_pos (by omega)]
 have h2:=h i hi
 apply bs_inj
 rw[bs_extract,bs_append,List.drop_zero,List.take_append_of_le_length (by rw[bs_len];omega),List.take_of_length_le (by rw[bs_len];omega)]
theorem tr_lay(G:BaseVars w)(K0:Keep NoB w W){n:Nat}{b:BaseV}{kk:Nat}(h:OldS w W DD Q n b kk True):
  Calls Tryz.prog 27 #[.pointer (some ⟨DD,0,none⟩),.string layTxt] W λe W'=>e= .returned (.string layTxt)∧(∃Q',OldL w W' DD Q' n False∧Grow W Q Q')∧Keep Q W W':=by
 refine stays_ok (oldS_stays w DD n b kk True) (oldL_stays w DD n False) K0 h (by decide) words_lay (by decide) (by simp) (does_lay DD) (enters_of Tryz.func128 (by kernel_rfl) rfl) ?_
 rintro w1 ⟨P,BB,D,C,V,d,k,iv,img,h,hk,hQ,hty,hz⟩ K1 q c S hc hx
 obtain⟨V0,hi⟩:=hz trivial
 have hL2:=hi.blen
 have hB2:=hi.bsz
 refine(deskLay_ok h (by omega) (λs hs=> ?_) q c).mono ?_
 ·obtain⟨i,hi,rfl⟩:=List.getElem_of_mem hs
  have:=hB2 i (by omega)
  rw[List.getD_eq_getElem?_getD,List.getElem?_eq_getElem hi,Option.getD_some]at this
  omega
 ·rintro e w2 ⟨he,⟨P',h2,hs⟩,K2⟩
  rw[layP_same img hL2 hB2]at h2
  exact⟨he,⟨λx=>P' x∨x=DD,⟨P',D,C,_,iv,img,h2,λx=>Iff.rfl,⟨V0,hi⟩,λx=>x.elim⟩,λx hx=> .inl ((hQ x).2 (hx.elim (λh=> .inl (hs x h)) (λh=> .inr (.inl h))))⟩,K2.mono λi hi hx=>(hQ i).2 (.inl hx)⟩
theorem tr_open(G:BaseVars w)(K0:Keep NoB w W){n:Nat}{z:Prop}(h:OldL w W DD Q n z)(h1:1<n)(hn:n<1000):
  Calls Tryz.prog 27 #[.pointer (some ⟨DD,0,none⟩),.string openL] W λe W'=>e= .returned (.string (errTxt 15))∧(∃Q',OldL w W' DD Q' n True∧Grow W Q Q')∧Keep Q W W':=by
 refine stays_bad (oldL_stays w DD n z) (oldL_stays w DD n True) K0 h G.items.pow 15 (by decide) (by decide) words_open (by decide) (by simp) (does_open DD) (enters_of Tryz.func130 (by kernel_rfl) rfl) ?_
 rintro w1 ⟨P,D,C,bv,iv,B,h,hQ,⟨V0,hi⟩,hz⟩ K1 q c St hc hx
 obtain⟨S,wv,fu,hd,hP⟩:=h.dev
 have hPC:P C:=(hP C).2 (.inr rfl)
 have hne:DD≠C:=λe=>h.sep (e▸hPC)
 have hDd:¬DevB D S wv DD:=λx=>h.sep ((hP DD).2 (.inl x))
 have hCd:¬DevB D S wv C:=λx=>devB_count hd h.cnt x
 have KD:Keep (OneB DD) w1 (w1.setCell ⟨DD,2,none⟩ (.pointer none)):=(Keep.refl _ _).set1 2 _
 refine(deskOpen_bad q c (R:=λw'=>DeskRow w' DD D C (.pointer none) deskSec iv∧(DevIs w' D S wv ⟨B,[],fu⟩∧CountAt w' C n)∧Keep (λi=>i=DD∨i=C) w1 w') (again_bad (R:=λw'=>DevIs w' D S wv ⟨B,[],fu⟩∧CountAt w' C n) (λa b ha K=>⟨ha.1.keep K (λ_ _ x=>x),ha.2.keep K (λx=>x)⟩) h.row hne λW1 KW=> ?_)).mono ?_
 ·have KA:Keep (OneB DD) w1 W1:=KD.thenN KW
  have KB:Keep NoB w W1:=h.keep.trans KA (λi hi e=>by have e:i=DD:=e;have:=h.new;omega)
  have hd1:DevIs W1 D S wv ⟨B,[],fu⟩:=hd.keep KA (λb hb e=>by have e:b=DD:=e;exact hDd (e▸hb))
  have hc1:=h.cnt.keep KA (λe=>by have e:C=DD:=e;exact hne e.symm)
  refine(baseOpen_bad hd1 hc1 (by omega) hi.bsz deskSec_size (G.rounds.keep KB (λx=>x)) (inv_old hi h1)).mono ?_
  rintro e w2 ⟨he,hc2,K2⟩
  have KE:Keep NoB w w2:=KB.trans K2 (λi hi e=>by have e:i=C:=e;have:=h.own C hPC;omega)
  exact⟨he,G.errs.keep KE (λx=>x),⟨hd1.keep K2 (λb hb e=>by have e:b=C:=e;exact hCd (e▸hb)),hc2⟩,K2⟩
 ·rintro e w2 ⟨he,hr,⟨hd2,hc2⟩,K2⟩
  have KE:Keep NoB w w2:=h.keep.trans K2 (λi hi e=>by have:=h.own C hPC;have:=h.new;rcases e with e|e<;>omega)
  exact⟨he,⟨Q,⟨P,D,C,_,iv,B,⟨hr,⟨S,wv,fu,hd2,hP⟩,hc2,KE,h.own,h.sep,h.new⟩,hQ,⟨V0,hi⟩,λ_=>rfl⟩,Grow.refl _ _⟩,K2.mono λi hi e=>(hQ i).2 (e.elim .inr (λe=> .inl (e▸hPC)))⟩
theorem tr_items(G:BaseVars w)(K0:Keep NoB w W){n:Nat}(h:OldL w W DD Q n True):
  Calls Tryz.prog 27 #[.pointer (some ⟨DD,0,none⟩),.string itemsL] W λe W'=>e= .returned (.string (errTxt 8))∧(∃Q',OldL w W' DD Q' n True∧Grow W Q Q')∧Keep Q W W':=by
 refine stays_bad (oldL_stays w DD n True) (oldL_stays w DD n True) K0 h G.items.pow 8 (by decide) (by decide) words_items (by decide) (by simp) (does_items DD) (enters_of Tryz.func127 (by kernel_rfl) rfl) ?_
 rintro w1 ⟨P,D,C,bv,iv,B,h,hQ,hi,hz⟩ K1 q c St hc hx
 obtain rfl:=hz trivial
 refine(deskItems_none h.row (G.errs.keep K1 (λx=>x)) q c).mono ?_
 rintro e w2 ⟨he,K2⟩
 exact⟨he,⟨Q,⟨P,D,C,_,iv,B,h.keepN K2,hQ,hi,λ_=>rfl⟩,Grow.refl _ _⟩,K2.ofN⟩
def bOld(name:ByteArray):Nat->BaseV
 | 0=>⟨2,[],[]⟩
 | i+1=>doneB (putB (bOld name i) (itO name i)).2
theorem itO_ok{name:ByteArray}(hnm:nameB name=true){i:Nat}(hi:i<4):pitemB (itO name i) 2=true:=by
 have hf: [((i:Nat):Int),1].any farB=false:=by
  have h1:∀j,j<4-> [((j:Nat):Int),1].any farB=false:=by decide+kernel
  exact h1 i hi
 have hf2:(itO name i).2.2.any farB=false:=hf
 unfold pitemB
 rw[hf2,show(itO name i).1=name from rfl,hnm]
 rfl
theorem putB_zero{b:BaseV}{x:PItem}(hd:b.dim=2)(hx:pitemB x 2=true)(hl:b.next.length<60):putB b x=(0,{ b with wait:=putG b.wait x.1 (some x) }):=by
 rw[putB,if_neg (by omega),hd,if_neg (by rw[show((2:Nat):Int)=2 from rfl,hx];decide),if_neg (by rintro⟨_,h⟩;omega)]
theorem bOld_is{name:ByteArray}(hnm:nameB name=true):∀i,i<=4->(bOld name i).dim=2∧(bOld name i).wait= []∧(bOld name i).now.length<=i
 | 0,_=>⟨rfl,rfl,Nat.le_refl _⟩
 | i+1,h=>by
  obtain⟨h1,h2,h3⟩:=bOld_is hnm i (by omega)
  have hn:(bOld name i).next=(bOld name i).now:=by rw[BaseV.next,h2];rfl
  have hp:=putB_zero (b:=bOld name i) h1 (itO_ok hnm (by omega:i<4)) (by rw[hn];omega)
  rw[bOld,hp,doneB]
  refine⟨h1,rfl,?_⟩
  show(nextG (bOld name i).now (putG (bOld name i).wait (itO name i).1 (some (itO name i)))).length<=i+1
  rw[h2]
  show(putG (bOld name i).now (itO name i).1 (itO name i)).length<=i+1
  have:=putG_len (bOld name i).now (itO name i).1 (itO name i)
  omega
theorem put_old{name:ByteArray}(hnm:nameB name=true){i:Nat}(hi:i<4):(putB (bOld name i) (itO name i)).1=0:=by
 obtain⟨h1,h2,h3⟩:=bOld_is hnm i (by omega)
 have hn:(bOld name i).next=(bOld name i).now:=by rw[BaseV.next,h2];rfl
 rw[putB_zero h1 (itO_ok hnm hi) (by rw[hn];omega)]
def oldLine(name:ByteArray)(n k:Nat):ByteArray:=
 if k=0 then makeL else if k=1 then commitL else if k=2 then imageTxt else if k<3+2*n then(if k % 2=1 then putL name ((k-3)/2)else commitL)else if k=3+2*n then layTxt else if k=4+2*n then openL else itemsL
def oldSaid(n k:Nat):ByteArray:=
 if k=0 then makeTxt else if k=1 then commitTxt 1 else if k=2 then imageTxt else if k<3+2*n then(if k % 2=1 then putTxt else commitTxt ((k-3)/2+2))else if k=3+2*n then layTxt else if k=4+2*n then errTxt 15 else errTxt 8
def oldLs(name:ByteArray)(n:Nat):List ByteArray:=(List.range (6+2*n)).map (oldLine name n)
def oldAn(n:Nat):List ByteArray:=(List.range (6+2*n)).map (oldSaid n)
def cntK(k:Nat):Nat:=if k<=1 then 0 else 1+(k-3)/2
def baseK(name:ByteArray)(k:Nat):BaseV:=if k=0 then nilB else if k<=2 then⟨2,[],[]⟩else if k % 2=1 then bOld name ((k-3)/2)else(putB (bOld name ((k-3)/2)) (itO name ((k-3)/2))).2
def OldSt(w:World)(name:ByteArray)(n k:Nat)(Q:Nat->Prop)(DD:Nat)(W:World):Prop:=
 (k<=3+2*n∧OldS w W DD Q (cntK k) (baseK name k) (60+k) (3<=k))∨(3+2*n<k∧OldL w W DD Q (n+1) (4+2*n<k))
theorem range_getD{f:Nat->ByteArray}{m k:Nat}(h:k<m):((List.range m).map f).getD k ⟨#[]⟩=f k:=by
 rw[List.getD_eq_getElem?_getD,List.getElem?_map,List.getElem?_range h]
 rfl
theorem oldSes(G:BaseVars w){name:ByteArray}(hnm:nameB name=true){n:Nat}(h1:1<=n)(h4:n<=4):SesSt w (oldLs name n) (oldAn n) (OldSt w name n):=by
 refine⟨?_,?_,?_,?_,?_⟩
 ·intro W BB D C P DD h
  refine .inl ⟨by omega,P,BB,D,C,freshV deskSec,⟨sure0,[],-1⟩,60,.slice none 0 0,[],h,by omega,λx=>⟨λh=>h.elim .inl (λh=> .inr (.inl h)),λh=>h.elim .inl (λh=>h.elim .inr (λh=>by cases h))⟩,(λg hg=>by cases hg),λh=>by omega⟩
 ·intro k Q DD W hk K0 hT
  have hk':k<6+2*n:=by simpa [oldLs]using hk
  rw[oldLs,range_getD hk',oldAn,range_getD hk']
  by_cases k0:k=0
  ·subst k0
   rcases hT with⟨_,hT⟩|⟨h,_⟩
   ·refine(tr_make G K0 hT).mono ?_
    rintro e W' ⟨he,⟨Q',h2,hg⟩,K⟩
    exact⟨he,⟨Q',.inl ⟨by omega,h2.imp (by omega) (by omega)⟩,hg⟩,K⟩
   ·omega
  by_cases k1:k=1
  ·subst k1
   rcases hT with⟨_,hT⟩|⟨h,_⟩
   ·refine(tr_commit G K0 hT (by decide) (by show(2:Nat)≠0;decide) (by omega)).mono ?_
    rintro e W' ⟨he,⟨Q',h2,hg⟩,K⟩
    exact⟨he,⟨Q',.inl ⟨by omega,h2.imp (by omega) (by omega)⟩,hg⟩,K⟩
   ·omega
  by_cases k2:k=2
  ·subst k2
   rcases hT with⟨_,hT⟩|⟨h,_⟩
   ·refine(tr_image G K0 hT).mono ?_
    rintro e W' ⟨he,⟨Q',h2,hg⟩,K⟩
    exact⟨he,⟨Q',.inl ⟨by omega,h2.imp (by omega) (λ_=>trivial)⟩,hg⟩,K⟩
   ·omega
  by_cases k3:k<3+2*n
  ·rcases hT with⟨_,hT⟩|⟨h,_⟩
   rotate_left
   ·omega
   obtain⟨i,hi⟩:∃i,i=(k-3)/2:=⟨_,rfl⟩
   have hin:i<n:=by omega
   have hc:cntK k=1+i:=by rw[cntK,if_neg (by omega),hi]
   obtain⟨b1,b2,b3⟩:=bOld_is hnm i (by omega)
   by_cases ho:k % 2=1
   ·have hl:oldLine name n k=putL name i:=by rw[oldLine,if_neg k0,if_neg k1,if_neg k2,if_pos k3,if_pos ho,hi]
    have ha:oldSaid n k=putTxt:=by rw[oldSaid,if_neg k0,if_neg k1,if_neg k2,if_pos k3,if_pos ho]
    have hb:baseK name k=bOld name i:=by rw[baseK,if_neg k0,if_neg (by omega),if_pos ho,hi]
    have hc':cntK (k+1)=1+i:=by rw[cntK,if_neg (by omega)];omega
    have hb':baseK name (k+1)=(putB (bOld name i) (itO name i)).2:=by rw[baseK,if_neg (by omega),if_neg (by omega),if_neg (by omega),show(k+1-3)/2=i by omega]
    rw[hc,hb]at hT
    rw[hl,ha]
    refine(tr_put G K0 hT (by omega) hnm (by omega) (put_old hnm (by omega))).mono ?_
    rintro e W' ⟨he,⟨Q',h2,hg⟩,K⟩
    refine⟨he,⟨Q',.inl ⟨by omega,?_⟩,hg⟩,K⟩
    rw[hc',hb']
    exact h2.imp (by omega) (λ_=>by omega)
   ·have hl:oldLine name n k=commitL:=by rw[oldLine,if_neg k0,if_neg k1,if_neg k2,if_pos k3,if_neg ho]
    have ha:oldSaid n k=commitTxt (1+i+1):=by rw[oldSaid,if_neg k0,if_neg k1,if_neg k2,if_pos k3,if_neg ho,show(k-3)/2+2=1+i+1 by omega]
    have hb:baseK name k=(putB (bOld name i) (itO name i)).2:=by rw[baseK,if_neg k0,if_neg (by omega),if_neg ho,hi]
    have hc':cntK (k+1)=1+i+1:=by rw[cntK,if_neg (by omega)];omega
    have hb':baseK name (k+1)=doneB (putB (bOld name i) (itO name i)).2:=by rw[baseK,if_neg (by omega),if_neg (by omega),if_pos (by omega),show(k+1-3)/2=i+1 by omega];rfl
    have hd:(putB (bOld name i) (itO name i)).2.dim≠0:=by
     have hn:(bOld name i).next=(bOld name i).now:=by rw[BaseV.next,b2];rfl
     rw[putB_zero b1 (itO_ok hnm (by omega)) (by rw[hn];omega)]
     show(bOld name i).dim≠0
     omega
    rw[hc,hb]at hT
    rw[hl,ha]
    refine(tr_commit G K0 hT (by omega) hd (by omega)).mono ?_
    rintro e W' ⟨he,⟨Q',h2,hg⟩,K⟩
    refine⟨he,⟨Q',.inl ⟨by omega,?_⟩,hg⟩,K⟩
    rw[hc',hb']
    exact h2.imp (by omega) (λ_=>by omega)
  by_cases k4:k=3+2*n
  ·have hl:oldLine name n k=layTxt:=by rw[oldLine,if_neg k0,if_neg k1,if_neg k2,if_neg k3,if_pos k4]
   have ha:oldSaid n k=layTxt:=by rw[oldSaid,if_neg k0,if_neg k1,if_neg k2,if_neg k3,if_pos k4]
   have hc:cntK k=n+1:=by rw[cntK,if_neg (by omega)];omega
   rcases hT with⟨_,hT⟩|⟨h,_⟩
   rotate_left
   ·omega
   rw[hc]at hT
   rw[hl,ha]
   refine(tr_lay G K0 (hT.imp (Nat.le_refl _) (λ_=>by omega))).mono ?_
   rintro e W' ⟨he,⟨Q',⟨P,D,C,bv,iv,B,h2,hQ,hi,hz⟩,hg⟩,K⟩
   exact⟨he,⟨Q',.inr ⟨by omega,P,D,C,bv,iv,B,h2,hQ,hi,λh=>by omega⟩,hg⟩,K⟩
  ·rcases hT with⟨h,_⟩|⟨_,hT⟩
   ·omega
   by_cases k5:k=4+2*n
   ·have hl:oldLine name n k=openL:=by rw[oldLine,if_neg k0,if_neg k1,if_neg k2,if_neg k3,if_neg k4,if_pos k5]
    have ha:oldSaid n k=errTxt 15:=by rw[oldSaid,if_neg k0,if_neg k1,if_neg k2,if_neg k3,if_neg k4,if_pos k5]
    rw[hl,ha]
    refine(tr_open G K0 hT (by omega) (by omega)).mono ?_
    rintro e W' ⟨he,⟨Q',⟨P,D,C,bv,iv,B,h2,hQ,hi,hz⟩,hg⟩,K⟩
    exact⟨he,⟨Q',.inr ⟨by omega,P,D,C,bv,iv,B,h2,hQ,hi,λ_=>hz trivial⟩,hg⟩,K⟩
   ·have hl:oldLine name n k=itemsL:=by rw[oldLine,if_neg k0,if_neg k1,if_neg k2,if_neg k3,if_neg k4,if_neg k5]
    have ha:oldSaid n k=errTxt 8:=by rw[oldSaid,if_neg k0,if_neg k1,if_neg k2,if_neg k3,if_neg k4,if_neg k5]
    rw[hl,ha]
    obtain⟨P,D,C,bv,iv,B,h2,hQ,hi,hz⟩:=hT
    refine(tr_items G K0 ⟨P,D,C,bv,iv,B,h2,hQ,hi,λ_=>hz (by omega)⟩).mono ?_
    rintro e W' ⟨he,⟨Q',⟨P,D,C,bv,iv,B,h2,hQ,hi,hz⟩,hg⟩,K⟩
    exact⟨he,⟨Q',.inr ⟨by omega,P,D,C,bv,iv,B,h2,hQ,hi,λ_=>hz trivial⟩,hg⟩,K⟩
 ·rintro k Q DD W W' X (⟨h,hT⟩|⟨h,hT⟩) K hX
  ·exact .inl ⟨h,(oldS_stays w DD _ _ _ _).other W W' Q X hT K hX⟩
  ·exact .inr ⟨h,(oldL_stays w DD _ _).other W W' Q X hT K hX⟩
 ·rintro k Q DD W (⟨h,hT⟩|⟨h,hT⟩)
  ·exact(oldS_stays w DD _ _ _ _).own W Q hT
  ·exact(oldL_stays w DD _ _).own W Q hT
 ·rintro k Q DD W (⟨h,hT⟩|⟨h,hT⟩)
  ·exact(oldS_stays w DD _ _ _ _).bytes W Q hT
  ·exact(oldL_stays w DD _ _).bytes W Q hT
end
end Go.Proofs.YtnmhgehpddipdaaGreatDoor
namespace Go.Cof
open Go.RowKit Go.Proofs.YtnmhgehpddipdaaGreatDoor
theorem outL_join:∀ls:List ByteArray,ls≠ []->outL ls=(joinNL ls).data.toList++ [10]
 | [],h=>absurd rfl h
 | [x],_=>by simp[outL,joinNL]
 | x::y::r,_=>by
  have ih:=outL_join (y::r) (by simp)
  rw[joinNL_cons,outL,List.flatMap_cons,<-outL,ih]
  simp
theorem trim_outL{ls:List ByteArray}(h:ls≠ []):Lib.trimSuffix (outL ls) [10]=(joinNL ls).data.toList:=by
 rw[outL_join ls h,Lib.trimSuffix,if_pos (by simp[Lib.hasSuffix])]
 simp
theorem trim_outL'{ls:List ByteArray}(h:ls≠ []):(⟨(Lib.trimSuffix (⟨(outL ls).toArray⟩:ByteArray).data.toList nlB.data.toList).toArray⟩:ByteArray)=joinNL ls:=by
 show(⟨(Lib.trimSuffix (outL ls) [10]).toArray⟩:ByteArray)=_
 rw[trim_outL h]
theorem outL_range(f:Nat->ByteArray)(m:Nat):outL ((List.range (m+1)).map f)=outL ((List.range m).map f)++((f m).data.toList++ [10]):=by
 rw[outL,outL,List.range_succ,List.map_append,List.flatMap_append]
 simp
def oldTx(name:ByteArray)(n m:Nat):ByteArray:=⟨(outL ((List.range m).map (oldLine name n))).toArray⟩
theorem oldTx_start(name:ByteArray){n:Nat}(h:1<=n):oldTx name n 3=⟨#[109,97,107,101,32,50,10,99,111,109,109,105,116,10,105,109,97,103,101,10]⟩:=rfl
theorem ba_ext{a b:ByteArray}(h:a.data.toList=b.data.toList):a=b:=by
 apply ByteArray.ext
 exact Array.toList_inj.1 h
theorem app_list(a b:ByteArray):(a++b).data.toList=a.data.toList++b.data.toList:=by simp
theorem oldLine_put(name:ByteArray){n i:Nat}(h:i<n):oldLine name n (3+2*i)=putL name i:=by
 rw[oldLine,if_neg (by omega),if_neg (by omega),if_neg (by omega),if_pos (by omega),if_pos (by omega),show(3+2*i-3)/2=i by omega]
theorem oldLine_com(name:ByteArray){n i:Nat}(h:i<n):oldLine name n (3+2*i+1)=commitL:=by
 rw[oldLine,if_neg (by omega),if_neg (by omega),if_neg (by omega),if_pos (by omega),if_neg (by omega)]
theorem oldTx_step(name:ByteArray){n i:Nat}(h:i<n):oldTx name n (3+2*(i+1))=oldTx name n (3+2*i)++(⟨#[112,117,116,32]⟩++name++⟨#[32,45,32]⟩++⟨(Lib.itoa ((i:Nat):Int)).toArray⟩++⟨#[32,49,10,99,111,109,109,105,116,10]⟩):=by
 apply ba_ext
 rw[app_list,app_list,app_list,app_list,app_list]
 show outL ((List.range (3+2*i+1+1)).map (oldLine name n))=outL ((List.range (3+2*i)).map (oldLine name n))++_
 rw[outL_range,outL_range,oldLine_put name h,oldLine_com name h]
 simp[putL,putT,joinSp,commitL]
theorem oldTx_end(name:ByteArray){n:Nat}(h:1<=n):oldTx name n (6+2*n)=oldTx name n (3+2*n)++⟨#[108,97,121,10,111,112,101,110,10,105,116,101,109,115,10]⟩:=by
 apply ba_ext
 rw[app_list]
 show outL ((List.range (6+2*n)).map (oldLine name n))=outL ((List.range (3+2*n)).map (oldLine name n))++_
 rw[show 6+2*n=3+2*n+1+1+1 by omega,outL_range,outL_range,outL_range]
 have h1:oldLine name n (3+2*n)=layTxt:=by rw[oldLine,if_neg (by omega),if_neg (by omega),if_neg (by omega),if_neg (by omega),if_pos rfl]
 have h2:oldLine name n (3+2*n+1)=openL:=by rw[oldLine,if_neg (by omega),if_neg (by omega),if_neg (by omega),if_neg (by omega),if_neg (by omega),if_pos (by omega)]
 have h3:oldLine name n (3+2*n+1+1)=itemsL:=by rw[oldLine,if_neg (by omega),if_neg (by omega),if_neg (by omega),if_neg (by omega),if_neg (by omega),if_neg (by omega)]
 rw[h1,h2,h3]
 simp[layTxt,openL,itemsL]
theorem putL_facts{name:ByteArray}(hnm:nameB name=true){i:Nat}(hi:i<4):(putL name i).data.toList.length<=21∧(10:UInt8)∉(putL name i).data.toList:=by
 have h2:name.data.toList.length<=10:=nameB_size hnm
 have h3:=itoa_digit i (by omega)
 have h4:(10:UInt8)∉name.data.toList:=λh=>by
  have:=name_mem hnm _ h
  unfold alnumC at this
  simp at this
 have h5:(48+i:Nat).toUInt8≠10:=by
  have:i=0∨i=1∨i=2∨i=3:=by omega
  rcases this with rfl|rfl|rfl|rfl<;>decide
 constructor
 ·rw[putL,putT,h3]
  simp only[joinSp,List.length_append,List.length_cons,List.length_nil]
  omega
 ·rw[putL,putT,h3]
  simp only[joinSp,List.mem_append,List.mem_cons,List.not_mem_nil,or_false,not_or]
  exact⟨by decide,by decide,h4,by decide,by decide,by decide,λe=>h5 e.symm,by decide,by decide⟩
theorem oldLine_facts{name:ByteArray}(hnm:nameB name=true){n:Nat}(hn:n<=4)(k:Nat):(oldLine name n k).data.toList.length<=21∧(10:UInt8)∉(oldLine name n k).data.toList:=by
 unfold oldLine
 split
 ·exact⟨by decide,by decide⟩
 split
 ·exact⟨by decide,by decide⟩
 split
 ·exact⟨by decide,by decide⟩
 split
 ·split
  ·exact putL_facts hnm (by omega)
  ·exact⟨by decide,by decide⟩
 split
 ·exact⟨by decide,by decide⟩
 split
 ·exact⟨by decide,by decide⟩
 ·exact⟨by decide,by decide⟩
theorem oldSaid_facts{n:Nat}(hn:n<=4)(k:Nat):(oldSaid n k).data.toList.length<=21∧(10:UInt8)∉(oldSaid n k).data.toList:=by
 have hc:∀i,i<8->(commitTxt i).data.toList.length<=21∧(10:UInt8)∉(commitTxt i).data.toList:=by decide+kernel
 have he:∀i,i<16->(errTxt ((i:Nat):Int)).data.toList.length<=21∧(10:UInt8)∉(errTxt ((i:Nat):Int)).data.toList:=by decide+kernel
 unfold oldSaid
 split
 ·exact⟨by decide,by decide⟩
 split
 ·exact hc 1 (by decide)
 split
 ·exact⟨by decide,by decide⟩
 split
 ·split
  ·exact⟨by decide,by decide⟩
  ·exact hc _ (by omega)
 split
 ·exact⟨by decide,by decide⟩
 split
 ·exact he 15 (by decide)
 ·exact he 8 (by decide)
theorem outL_len_le(f:Nat->ByteArray)(h:∀k,(f k).data.toList.length<=21):∀m,(outL ((List.range m).map f)).length<=22*m
 | 0=>Nat.le_refl _
 | m+1=>by
  rw[outL_range,List.length_append,List.length_append]
  have h1:=outL_len_le f h m
  have h2:=h m
  simp only[List.length_cons,List.length_nil]
  omega
theorem pieces_outL(ls:List ByteArray)(h:∀x∈ls,(10:UInt8)∉x.data.toList):pieces 10 (outL ls)=ls.map (·.data.toList)++ [[]]:=by
 have h1:=pieces_rows 10 (ls.map (·.data.toList)) [] (λp hp=>by
  obtain⟨x,hx,rfl⟩:=List.mem_map.1 hp
  exact h x hx)
 rw[List.flatMap_map,List.append_nil]at h1
 exact h1
theorem texts_inj:∀ {a b:List ByteArray},a.map (λx=>x.data.toList)=b.map (λx=>x.data.toList)->a=b
 | [],[],_=>rfl
 | [],_::_,h=>by simp at h
 | _::_,[],h=>by simp at h
 | x::a,y::b,h=>by
  simp only[List.map_cons,List.cons.injEq]at h
  rw[ba_ext h.1,texts_inj h.2]
theorem oldP_is{n:Nat}(hn:n<=4){P:List ByteArray}(h:P.map (λx=>x.data.toList)=pieces 10 (outL (oldAn n))):P=oldAn n++ [(⟨#[]⟩:ByteArray)]:=by
 rw[pieces_outL _ (λx hx=>by
  obtain⟨k,_,rfl⟩:=List.mem_map.1 hx
  exact(oldSaid_facts hn k).2)]at h
 have h2:P.map (λx=>x.data.toList)=(oldAn n++ [(⟨#[]⟩:ByteArray)]).map (λx=>x.data.toList):=by rw[h,List.map_append];rfl
 exact texts_inj h2
theorem oldP_at{n:Nat}{k:Nat}(hk:k<6+2*n):(oldAn n++ [(⟨#[]⟩:ByteArray)]).getD k ⟨#[]⟩=oldSaid n k:=by
 have hl:(oldAn n).length=6+2*n:=by simp[oldAn]
 rw[List.getD_eq_getElem?_getD,List.getElem?_append_left (by omega),<-List.getD_eq_getElem?_getD,oldAn,range_getD hk]
end Go.Cof
namespace Go.Proofs.YtnmhgehpddipdaaGreatDoor
open Go.RowKit Go.Cof
def TextsAt(b m:Nat)(P:List ByteArray)(W:World):Prop:=∀i,i<m->W.cell? ⟨b,i,none⟩=some (.string (P.getD i ⟨#[]⟩))
set_option maxRecDepth 100000
set_option maxHeartbeats 8000000 in
theorem deskOld_any{w:World}(name:ByteArray)(n0:Int)(G:BaseVars w):Calls Tryz.prog 3 #[.string name,.int .i64 n0] w λe w'=>e= .returned (.bool true)∧Keep NoB w w':=by
 have HG:=Lib.hid G
 have BV:∀ {W:World},Keep NoB w W->BaseVars W:=λK=>⟨HG.out.rounds.keep K (λx=>x),HG.out.items.keep K,HG.out.errs.keep K (λx=>x)⟩
 have hba:=based_any G
 have hnm:=λW=>name_any name W
 obtain⟨bb,hbb⟩:∃b,b=nameB name:=⟨_,rfl⟩
 rw[<-hbb]at hnm
 have Hba:=Lib.hid hba
 have Hnm:=Lib.hid hnm
 clear G hba hnm
 cases bb with
 | false=>
  clear hbb
  go_enter Tryz.func3,Tryz.ntmps3
  go_wp2_with fail
  refine Hba.out.mono ?_
  rintro e w1 ⟨rfl,K1⟩
  go_wp2_with fail
  refine(Hnm.out _).mono ?_
  rintro e w2 ⟨rfl,K2⟩
  go_wp2_with fail
  go_ret
  exact⟨rfl,K1.thenN K2⟩
 | true=>
  obtain⟨q,hq⟩:∃q,q=pickN n0 4:=⟨_,rfl⟩
  have hq4:q<4:=by rw[hq];exact pickN_lt n0 4 (by omega)
  have hpick:=pick_any n0 4 4 rfl (by omega) (by omega)
  rw[<-hq]at hpick
  have Hpick:=Lib.hid hpick
  have Hbb:=Lib.hid hbb.symm
  obtain⟨n,hn⟩:∃n,n=q+1:=⟨_,rfl⟩
  have hn1:(1:Int)+(q:Int)=(n:Int):=by omega
  have h1n:1<=n:=by omega
  have h4n:n<=4:=by omega
  clear hq hpick hbb hn
  go_enter Tryz.func3,Tryz.ntmps3
  go_wp2_with fail
  refine Hba.out.mono ?_
  rintro e w1 ⟨rfl,K1⟩
  go_wp2_with fail
  refine(Hnm.out _).mono ?_
  rintro e w2 ⟨rfl,K2⟩
  have HK2:=Lib.hid (K1.thenN K2)
  clear Hba Hnm K1 K2
  go_wp2_with fail
  refine(Hpick.out _).mono ?_
  rintro e w3 ⟨rfl,hw3⟩
  subst w3
  clear Hpick
  go_wp2_with fail
  have Hn1:=Lib.hid hn1
  obtain⟨s0,hs0⟩:∃s,s=oldTx name n 3:=⟨_,rfl⟩
  rw[<-oldTx_start name h1n,<-hs0]
  have Hs0:=Lib.hid hs0
  clear hs0 hn1
  go_loopw [5,6] (λsv iv wr=>∃(k:Nat) (s:ByteArray),k<=n∧iv= .int .i64 k∧sv= .string s∧Hid (s=oldTx name n (3+2*k))∧Hid (Keep NoB w wr)) (λ_ iv _=>n-(intOf iv).toNat)
  case atStart=>exact⟨0,s0,by omega,rfl,rfl,Hs0,HK2⟩
  case round=>
   obtain⟨k,s,hk,rfl,rfl,hs,K⟩:=hrel
   obtain⟨wo,rfl⟩:∃wo,wo=wr:=⟨_,rfl⟩
   have hsz:s.size<=22*(3+2*k):=by
    rw[hs.out]
    exact outL_len_le _ (λj=>(oldLine_facts Hbb.out h4n j).1) _
   by_cases hlt:k<n
   ·have j1:(k:Int)<n:=by omega
    have hst:=oldTx_step name hlt
    rw[<-hs.out]at hst
    obtain⟨it,hit⟩:∃it:ByteArray,it=⟨(Lib.itoa ((k:Nat):Int)).toArray⟩:=⟨_,rfl⟩
    have hito:=itoa_any ((k:Nat):Int) (by omega) (by omega) wo (HG.out.items.pow.keep K.out (λx=>x))
    rw[<-hit]at hito hst
    have hil:it.size=1:=by
     rw[hit]
     show(Lib.itoa ((k:Nat):Int)).length=1
     rw[itoa_digit k (by omega)]
     rfl
    have hnl:name.size<=10:=nameB_size Hbb.out
    obtain⟨c1,hc1⟩:∃c:ByteArray,c=⟨#[112,117,116,32]⟩++name:=⟨_,rfl⟩
    obtain⟨c2,hc2⟩:∃c:ByteArray,c=c1++⟨#[32,45,32]⟩:=⟨_,rfl⟩
    obtain⟨c3,hc3⟩:∃c:ByteArray,c=c2++it:=⟨_,rfl⟩
    obtain⟨c4,hc4⟩:∃c:ByteArray,c=c3++⟨#[32,49,10,99,111,109,109,105,116,10]⟩:=⟨_,rfl⟩
    have z1:c1.size=4+name.size:=by rw[hc1,ByteArray.size_append];rfl
    have z2:c2.size=c1.size+3:=by rw[hc2,ByteArray.size_append];rfl
    have z3:c3.size=c2.size+it.size:=by rw[hc3,ByteArray.size_append]
    have z4:c4.size=c3.size+10:=by rw[hc4,ByteArray.size_append];rfl
    rw[<-hc1,<-hc2,<-hc3,<-hc4]at hst
    have f1:¬(9223372036854775807<(⟨#[112,117,116,32]⟩:ByteArray).size+name.size):=by have:(⟨#[112,117,116,32]⟩:ByteArray).size=4:=rfl;omega
    have f2:¬(9223372036854775807<c1.size+(⟨#[32,45,32]⟩:ByteArray).size):=by have:(⟨#[32,45,32]⟩:ByteArray).size=3:=rfl;omega
    have f3:¬(9223372036854775807<c2.size+it.size):=by omega
    have f4:¬(9223372036854775807<c3.size+(⟨#[32,49,10,99,111,109,109,105,116,10]⟩:ByteArray).size):=by have:(⟨#[32,49,10,99,111,109,109,105,116,10]⟩:ByteArray).size=10:=rfl;omega
    have f5:¬(9223372036854775807<s.size+c4.size):=by omega
    have Hito:=Lib.hid hito
    have Hst:=Lib.hid hst
    have hc1':=hc1.symm
    have hc2':=hc2.symm
    have hc3':=hc3.symm
    have hc4':=hc4.symm
    have HK:=Lib.hid K.out
    clear hito hst hit hc1 hc2 hc3 hc4 z1 z2 z3 z4 K hs hsz
    go_wp2_with fail
    refine Hito.out.mono ?_
    rintro e w4 ⟨rfl,K4⟩
    go_wp2_with fail
    exact⟨⟨k+1,s++c4,by omega,by go_num,rfl,Lib.hid Hst.out.symm,Lib.hid (HK.out.thenN K4)⟩,by simp[intOf];omega⟩
   ·obtain rfl:k=n:=by omega
    have j1:¬(k:Int)<k:=by omega
    have hte:=oldTx_end name h1n
    rw[<-hs.out]at hte
    have hsz2:s.size<=242:=by omega
    obtain⟨T,hT⟩:∃T,T=s++⟨#[108,97,121,10,111,112,101,110,10,105,116,101,109,115,10]⟩:=⟨_,rfl⟩
    have hTz:T.size=s.size+15:=by rw[hT,ByteArray.size_append];rfl
    have f1:¬(9223372036854775807<s.size+(⟨#[108,97,121,10,111,112,101,110,10,105,116,101,109,115,10]⟩:ByteArray).size):=by have:(⟨#[108,97,121,10,111,112,101,110,10,105,116,101,109,115,10]⟩:ByteArray).size=15:=rfl;omega
    rw[<-hT]at hte
    have hlen:(oldAn k).length=6+2*k:=by simp[oldAn]
    have hll:(oldLs name k).length=6+2*k:=by simp[oldLs]
    have htx:(⟨(Lib.trimSuffix T.data.toList nlB.data.toList).toArray⟩:ByteArray)=joinNL (oldLs name k):=by
     rw[<-hte]
     exact trim_outL' (ls:=oldLs name k) (λe=>by rw[e]at hll;simp only[List.length_nil]at hll;omega)
    have hol:(outL (oldAn k)).length<=1000000:=by
     have:=outL_len_le (oldSaid k) (λj=>(oldSaid_facts h4n j).1) (6+2*k)
     exact Nat.le_trans this (by omega)
    have hses:=session_any (w:=wo) (St:=OldSt wo name k) T (by omega) (oldLs name k) (oldAn k) (by rw[hll,hlen]) (λe=>by rw[e]at hll;simp only[List.length_nil]at hll;omega) htx (λx hx=>by
     obtain⟨i,_,rfl⟩:=List.mem_map.1 hx
     exact(oldLine_facts Hbb.out h4n i).2) hol (HG.out.items.keep K.out).max (BV K.out) (oldSes (BV K.out) Hbb.out h1n h4n)
    obtain⟨A,hA⟩:∃A:ByteArray,A=⟨(outL (oldAn k)).toArray⟩:=⟨_,rfl⟩
    rw[<-hA]at hses
    have hAl:A.data.toList=outL (oldAn k):=by rw[hA]
    have hAz:A.size<=1000000:=by rw[hA];exact hol
    have hspl:=λw5 (K5:Keep NoB wo w5)=>split_any A 10 w5 hAz (HG.out.items.keep (K.out.thenN K5))
    rw[hAl]at hspl
    have Hses:=Lib.hid hses
    have Hspl:=Lib.hid hspl
    have HK:=Lib.hid K.out
    have hT':=hT.symm
    clear hses hspl hA hAl hAz hol htx hll hlen hte hT hTz hsz hsz2 hs K
    go_upto_region 11 with(fail)
    clear j1
    go_wp2_with fail
    refine Hses.out.mono ?_
    rintro e w5 ⟨rfl,K5⟩
    go_wp2_with fail
    refine(Hspl.out w5 K5).mono ?_
    rintro e w6 ⟨P,hP,rfl,hrow,K6⟩
    obtain rfl:=oldP_is h4n hP
    obtain⟨b,hb⟩:∃b,b=w5.heap.size:=⟨_,rfl⟩
    obtain⟨m,hm⟩:∃m,m=(oldAn k++ [(⟨#[]⟩:ByteArray)]).length:=⟨_,rfl⟩
    have hm7:m=7+2*k:=by rw[hm];simp[oldAn];omega
    rw[<-hm,<-hb]
    rw[<-hb]at hrow
    have ht:TextsAt b m (oldAn k++ [(⟨#[]⟩:ByteArray)]) w6:=λi hi=>by
     refine cellOf hrow i ?_
     rw[List.getElem?_toArray,List.getElem?_map,List.getElem?_eq_getElem (by rw[<-hm];exact hi)]
     rw[List.getD_eq_getElem?_getD,List.getElem?_eq_getElem (by rw[<-hm];exact hi)]
     rfl
    have Hm7:=Lib.hid hm7
    have HK6:=Lib.hid (HK.out.thenN (K5.thenN K6))
    clear hP hrow hb hm hm7 K5 K6 Hspl Hses
    obtain⟨PP,hPP⟩:∃PP,PP=oldAn k++ [(⟨#[]⟩:ByteArray)]:=⟨_,rfl⟩
    rw[<-hPP]at ht
    obtain⟨m5,hm5⟩:∃x,x=2+2*k:=⟨_,rfl⟩
    obtain⟨m4,hm4⟩:∃x,x=3+2*k:=⟨_,rfl⟩
    obtain⟨m3,hm3⟩:∃x,x=4+2*k:=⟨_,rfl⟩
    obtain⟨m2,hm2⟩:∃x,x=5+2*k:=⟨_,rfl⟩
    have u5:m5<m:=by have:=Hm7.out;omega
    have u4:m4<m:=by have:=Hm7.out;omega
    have u3:m3<m:=by have:=Hm7.out;omega
    have u2:m2<m:=by have:=Hm7.out;omega
    have u1:1<m:=by have:=Hm7.out;omega
    have v5:(m5:Int)<m:=by omega
    have v4:(m4:Int)<m:=by omega
    have v3:(m3:Int)<m:=by omega
    have v2:(m2:Int)<m:=by omega
    have v1:(1:Int)<m:=by omega
    have hme:(m:Int)=2*(k:Int)+7:=by have:=Hm7.out;omega
    obtain⟨a1,ha1⟩:∃x,x=2*k:=⟨_,rfl⟩
    obtain⟨a2,ha2⟩:∃x,x=3+a1:=⟨_,rfl⟩
    have e1:IntKind.i64.wrap (2*(k:Int))=(a1:Int):=by rw[IntWalk.i64_in _ (by omega)];omega
    have e2:IntKind.i64.wrap (3+(a1:Int))=(a2:Int):=by rw[IntWalk.i64_in _ (by omega)];omega
    have e3:IntKind.i64.wrap ((a2:Int)+4)=(m:Int):=by rw[IntWalk.i64_in _ (by omega)];omega
    have w5:IntKind.i64.wrap ((m:Int)-5)=(m5:Int):=by rw[IntWalk.i64_in _ (by omega)];omega
    have w4:IntKind.i64.wrap ((m:Int)-4)=(m4:Int):=by rw[IntWalk.i64_in _ (by omega)];omega
    have w3:IntKind.i64.wrap ((m:Int)-3)=(m3:Int):=by rw[IntWalk.i64_in _ (by omega)];omega
    have w2:IntKind.i64.wrap ((m:Int)-2)=(m2:Int):=by rw[IntWalk.i64_in _ (by omega)];omega
    obtain⟨k1,hk1e⟩:∃x,x=k+1:=⟨_,rfl⟩
    have e4:IntKind.i64.wrap ((k:Int)+1)=(k1:Int):=by rw[IntWalk.i64_in _ (by omega)];omega
    have get:∀i,i<6+2*k->PP.getD i ⟨#[]⟩=oldSaid k i:=λi hi=>by rw[hPP];exact oldP_at hi
    have l1:∀x:InC (TextsAt b m PP),x.w.cell? ⟨b,1,none⟩=some (.string ⟨#[99,111,109,109,105,116,32,49]⟩):=λx=>by
     have h1:=x.h 1 u1
     rw[get 1 (by omega)]at h1
     rw[h1]
     have e:oldSaid k 1=⟨#[99,111,109,109,105,116,32,49]⟩:=by
      show commitTxt 1=_
      decide+kernel
     rw[e]
    obtain⟨it,hit⟩:∃it:ByteArray,it=⟨(Lib.itoa (k1:Int)).toArray⟩:=⟨_,rfl⟩
    obtain⟨ct,hct⟩:∃ct:ByteArray,ct=⟨#[99,111,109,109,105,116,32]⟩++it:=⟨_,rfl⟩
    have l5:∀x:InC (TextsAt b m PP),x.w.cell? ⟨b,m5,none⟩=some (.string ct):=λx=>by
     have h1:=x.h m5 u5
     rw[get m5 (by omega)]at h1
     rw[h1]
     have e:oldSaid k m5=ct:=by
      rw[oldSaid,if_neg (by omega),if_neg (by omega),if_neg (by omega),if_pos (by omega),if_neg (by omega),show(m5-3)/2+2=k1 by omega,hct,hit]
      rfl
     rw[e]
    have l4:∀x:InC (TextsAt b m PP),x.w.cell? ⟨b,m4,none⟩=some (.string ⟨#[108,97,121]⟩):=λx=>by
     have h1:=x.h m4 u4
     rw[get m4 (by omega)]at h1
     rw[h1]
     have e:oldSaid k m4=⟨#[108,97,121]⟩:=by
      rw[oldSaid,if_neg (by omega),if_neg (by omega),if_neg (by omega),if_neg (by omega),if_pos (by omega)]
      rfl
     rw[e]
    have l3:∀x:InC (TextsAt b m PP),x.w.cell? ⟨b,m3,none⟩=some (.string ⟨#[101,114,114,111,114,32,49,53]⟩):=λx=>by
     have h1:=x.h m3 u3
     rw[get m3 (by omega)]at h1
     rw[h1]
     have e:oldSaid k m3=⟨#[101,114,114,111,114,32,49,53]⟩:=by
      rw[oldSaid,if_neg (by omega),if_neg (by omega),if_neg (by omega),if_neg (by omega),if_neg (by omega),if_pos (by omega)]
      decide+kernel
     rw[e]
    have l2:∀x:InC (TextsAt b m PP),x.w.cell? ⟨b,m2,none⟩=some (.string ⟨#[101,114,114,111,114,32,56]⟩):=λx=>by
     have h1:=x.h m2 u2
     rw[get m2 (by omega)]at h1
     rw[h1]
     have e:oldSaid k m2=⟨#[101,114,114,111,114,32,56]⟩:=by
      rw[oldSaid,if_neg (by omega),if_neg (by omega),if_neg (by omega),if_neg (by omega),if_neg (by omega),if_neg (by omega)]
      decide+kernel
     rw[e]
    have hito:=itoa_any (k1:Int) (by omega) (by omega) w6.drew (HG.out.items.pow.keep HK6.out.drew (λx=>x))
    rw[<-hit]at hito
    have hitz:it.size<=5:=by
     rw[hit]
     show(Lib.itoa (k1:Int)).length<=5
     exact itoa_len _ (by omega)
    have f2:¬(9223372036854775807<(⟨#[99,111,109,109,105,116,32]⟩:ByteArray).size+it.size):=by have:(⟨#[99,111,109,109,105,116,32]⟩:ByteArray).size=7:=rfl;omega
    have f2':¬(9223372036854775807<7+it.size):=by omega
    have f3:(ct.toList==ct.toList)=true:=beq_self_eq_true _
    have hct':=hct.symm
    have Hito:=Lib.hid hito
    clear hm5 hm4 hm3 hm2 get hct hit hitz hito hPP hk1e ha1 ha2 hme
    go_wp2_with fail
    refine wp_region_mix (TextsAt b m PP) [(true,0),(true,2),(true,3),(true,4),(true,5),(true,1),(true,6),(true,7),(true,8),(true,9),(true,10),(true,11),(true,12),(true,13),(true,14),(true,15),(true,20),(true,21),(true,16),(true,17),(true,18),(true,19),(false,22),(true,23),(true,24),(true,25),(true,26),(true,27),(true,28),(true,29),(true,30),(true,31),(true,32),(true,33),(true,34),(true,35),(true,36),(true,37),(true,38),(true,39),(true,40),(true,41),(true,42),(true,43),(true,44),(true,45),(true,46),(true,47),(true,48),(true,49),(true,50),(true,51),(true,52),(false,53)] (by kernel_rfl) (by kernel_rfl) (λc a d v w h=>by cases d<;>exact h) ?_
    simp only[wpMixC,pickL,List.getElem?_toArray,List.getElem?_cons_succ,List.getElem?_cons_zero]
    repeat((with_reducible refine wpEarlyC_step (λK hK=> ?_));go_simp;first|((with_reducible refine⟨_,λ_=>rfl,hK _ ?_⟩);clear hK K;(with_reducible refine wpEarlyC_nil ?_))|((with_reducible refine hK _ ?_);clear hK K;(with_reducible refine wpEarlyC_nil ?_))|(go_simp;first|((with_reducible refine⟨_,λ_=>rfl,hK _ ?_⟩);clear hK K;(with_reducible refine wpEarlyC_nil ?_))|((with_reducible refine hK _ ?_);clear hK K;(with_reducible refine wpEarlyC_nil ?_))))
    refine⟨ht,?_⟩
    go_wp2_with fail
    refine Hito.out.mono ?_
    rintro e w7 ⟨rfl,K7⟩
    have ht7:TextsAt b m PP w7:=λi hi=>by
     have h1:w6.drew.cell? ⟨b,i,none⟩=some (.string (PP.getD i ⟨#[]⟩)):=ht i hi
     exact(K7.cell (p:=⟨b,i,none⟩) (Lib.lt_of_cell h1) (λx=>x)).trans h1
    clear Hito
    go_wp2_with fail
    refine⟨.string ct,λx=> ?_,?_⟩
    ·go_simp
    (with_reducible refine wpEarlyC_nil ?_)
    repeat((with_reducible refine wpEarlyC_step (λK hK=> ?_));go_simp;first|((with_reducible refine⟨_,λ_=>rfl,hK _ ?_⟩);clear hK K;(with_reducible refine wpEarlyC_nil ?_))|((with_reducible refine hK _ ?_);clear hK K;(with_reducible refine wpEarlyC_nil ?_))|(go_simp;first|((with_reducible refine⟨_,λ_=>rfl,hK _ ?_⟩);clear hK K;(with_reducible refine wpEarlyC_nil ?_))|((with_reducible refine hK _ ?_);clear hK K;(with_reducible refine wpEarlyC_nil ?_))))
    refine⟨ht7,?_⟩
    go_wp2_with fail
    go_ret
    exact⟨rfl,HK6.out.drew.thenN K7⟩
end Go.Proofs.YtnmhgehpddipdaaGreatDoor
