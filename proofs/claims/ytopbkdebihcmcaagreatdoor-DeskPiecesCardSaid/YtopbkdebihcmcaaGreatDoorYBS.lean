import Derived.Test.YtopbkdebihcmcaaGreatDoorYBR
import Derived.Lib.ItoaLen
set_option linter.unusedSimpArgs false
set_option linter.unusedVariables false
namespace Go.Proofs.YtopbkdebihcmcaaGreatDoor
open Go.RowKit
set_option maxRecDepth 100000
set_option maxHeartbeats 16000000
def zc4:af:=⟨#[98,108,111,99,107,32,99,111,109,109,105,116,32,99,111,117,110,116,32,99,114,97,115,104,32,100,101,108,32,101,112,111,99,104,32,102,105,110,100,32,102,117,115,101,32,104,101,108,112,32,105,109,97,103,101,32,105,116,101,109,115,32,108,97,121,32,109,97,107,101,32,110,101,119,32,111,112,101,110,32,112,117,116,32,115,112,111,105,108,32,115,117,109,32,116,117,114,110,32,117,110,100,111]⟩
def Gj(st:oI):List af->Ans×oI
 | []=>(.ok zc4,st)
 | _=>(.error 3,st)
section
variable {w0:World}{DD:Nat}
theorem sW{w W:World}{P:Nat->Prop}{D C:Nat}{bv iv:Value}{kk:Nat}{st:oI}(h:rf w W P DD D C bv iv kk st){V:nT}{b:oZ}(hb:st.base=some (V,b)):∃BB k,bv= .pointer (some ⟨BB,0,none⟩)∧pq w W P BB D C V st.dev st.n b k∧k<=60+kk:=by have:=h.body;rw[hb]at this;exact this
theorem uK{w W:World}{P:Nat->Prop}{D C:Nat}{bv iv:Value}{kk:Nat}{st:oI}(h:rf w W P DD D C bv iv kk st)(hb:st.base=none):bv= .pointer none:=by have:=h.body;rw[hb]at this;exact this.1
theorem rf.toN{w W w':World}{P:Nat->Prop}{D C:Nat}{bv iv:Value}{kk:Nat}{st:oI}(h:rf w W P DD D C bv iv kk st)(K:Keep P W w'):Keep nM w w':=h.body.keep.trans K (λi hi hx=>by have:=h.body.new i hx;omega)
theorem zo(v:Int)(h0: -9223372036854775808<=v)(h1:v<=9223372036854775807):(Dq v).size<=30:=by have:=Lib.itoa_length_le v h0 h1;show(Lib.itoa v).length<=30;omega
theorem zc9{w W:World}{P:Nat->Prop}{BB D C:Nat}{V:nT}{d:pG}{n:Int}{b:oZ}{k:Nat}(h:pq w W P BB D C V d n b k):
  ae 72 #[.pointer (some ⟨BB,0,none⟩)] W λe w'=>e= .returned (.int .i64 V.now.nP)∧Keep nM W w':=by
 obtain⟨B,S,wv,mb,wb,CC,nm,nw,L,Wt,h⟩:=h;exact U2 h.row h.vn.yX
theorem zhM(G:pM w0):Ul w0 DD 53 Bd:=by
 intro W Q st kk rest q c hG hkk S hc uj hrs hsm hx;have Hsm:=ag hsm;clear hsm;have K0:=hG.keep;have EV:=G.errs.keep K0 (λx=>x);have PV:=G.items.pow.keep K0 (λx=>x);have NE:=G.items.errs.keep K0 (λx=>x) (λx=>x);have HS:Hid (∀w',Keep nM W w'->Done w0 DD (kk+1) st W Q w'):=ag (λw' K=>hG.same K);by_cases h0:rest.length=0;rotate_left
 ·have hd:Bd st rest=(.error 3,st):=by
   rcases rest with _|⟨a,r⟩
   ·exact absurd rfl h0
   ·rfl
  rw[hd];have hw:=rO q rest.length c 0 h0 W EV;have Hw:=ag hw;obtain⟨m,hm⟩:∃m,m=rest.length:=⟨_,rfl⟩
  rw[<-hm]at Hw⊢;show ae 53 #[.pointer (some ⟨DD,0,none⟩),.slice q m c] W λe w'=>e= .panicked [{ v:=ou 3,recovered:=false }]∧Done w0 DD (kk+1) st W Q w';clear hw EV PV NE K0 hd S hG hm hx hc uj hrs h0;go_enter Tryz.func53,Tryz.ntmps53;go_wp2_with fail;refine Hw.out.mono ?_;rintro e w1 ⟨rfl,K1⟩;go_wp2_with fail;exact⟨rfl,rfl,HS.out _ K1⟩
 ·obtain rfl:=aU h0;obtain⟨P,D,C,bv,iv,h,hQ⟩:=hG;cases hb:st.base with
  | none=>
   have hd:Bd st []=(.error 8,st):=by simp only[Bd,hb]
   rw[hd];show ae 53 #[.pointer (some ⟨DD,0,none⟩),.slice q 0 c] W λe w'=>e= .panicked [{ v:=ou 8,recovered:=false }]∧Done w0 DD (kk+1) st W Q w';have hrow:=h.row;rw[uK h hb]at hrow;have BN:Hid (∀w1,Keep nM W w1->ae 67 #[.pointer (some ⟨DD,0,none⟩)] w1 λe w'=>e= .panicked [{ v:=ou 8,recovered:=false }]∧Keep nM w1 w'):=ag (λw1 K=>qO (hrow.keep K (λx=>x)) (EV.keep K (λx=>x)));clear h EV PV NE K0 hQ hd S hx hc uj hrs hrow;go_enter Tryz.func53,Tryz.ntmps53;go_wp2_with fail;refine(pz _ 0 c W).mono ?_;rintro e w1 ⟨rfl,hw1⟩;subst w1;go_wp2_with fail;refine(BN.out _ (ah _ _)).mono ?_;rintro e w1 ⟨rfl,K1⟩;go_wp2_with fail;exact⟨rfl,rfl,HS.out _ K1⟩
  | some p=>
   obtain⟨V,b⟩:=p;obtain⟨BB,k,rfl,hB,hk⟩:=sW h hb;have BO:Hid (∀w1,Keep nM W w1->ae 67 #[.pointer (some ⟨DD,0,none⟩)] w1 λe w'=>e= .returned (.pointer (some ⟨BB,0,none⟩))∧w'=w1):=ag (λw1 K=>sS (h.row.keep K (λx=>x)));have hd:Bd st []=(.ok Xa,{ st with base:=some (V,Om b) }):=by simp only[Bd,hb]
   rw[hd];show ae 53 #[.pointer (some ⟨DD,0,none⟩),.slice q 0 c] W λe w'=>e= .returned (.string Xa)∧Done w0 DD (kk+1) { st with base:=some (V,Om b) } W Q w';have Hun:=ag (zlh hB);have HD:Hid (∀w',(∃P',pq w0 w' P' BB D C V st.dev st.n (Om b) k∧Grow W P P')->Keep P W w'->Done w0 DD (kk+1) { st with base:=some (V,Om b) } W Q w'):=ag (by rintro w' ⟨P',hB',hg⟩ K;exact rf.done hQ hg K (h.step ⟨BB,k,rfl,hB',by omega⟩ hg K rfl rfl (h.ok.Am hb _)))
   clear h EV PV NE K0 hQ hd S hx hc uj hrs hB;go_enter Tryz.func53,Tryz.ntmps53;go_wp2_with fail;refine(pz _ 0 c W).mono ?_;rintro e w1 ⟨rfl,hw1⟩;subst w1;go_wp2_with fail;refine(BO.out _ (ah _ _)).mono ?_;rintro e w1 ⟨rfl,hw1⟩;subst w1;go_wp2_with fail;refine Hun.out.mono ?_;rintro e w1 ⟨rfl,hB',K1⟩;go_wp2_with fail;go_ret;exact⟨rfl,HD.out _ hB' K1⟩
theorem zhQ(G:pM w0):Ul w0 DD 43 Gj:=by
 intro W Q st kk rest q c hG hkk S hc uj hrs hsm hx;have Hsm:=ag hsm;clear hsm;have K0:=hG.keep;have EV:=G.errs.keep K0 (λx=>x);have PV:=G.items.pow.keep K0 (λx=>x);have NE:=G.items.errs.keep K0 (λx=>x) (λx=>x);have HS:Hid (∀w',Keep nM W w'->Done w0 DD (kk+1) st W Q w'):=ag (λw' K=>hG.same K);by_cases h0:rest.length=0;rotate_left
 ·have hd:Gj st rest=(.error 3,st):=by
   rcases rest with _|⟨a,r⟩
   ·exact absurd rfl h0
   ·rfl
  rw[hd];have hw:=rO q rest.length c 0 h0 W EV;have Hw:=ag hw;obtain⟨m,hm⟩:∃m,m=rest.length:=⟨_,rfl⟩
  rw[<-hm]at Hw⊢;show ae 43 #[.pointer (some ⟨DD,0,none⟩),.slice q m c] W λe w'=>e= .panicked [{ v:=ou 3,recovered:=false }]∧Done w0 DD (kk+1) st W Q w';clear hw EV PV NE K0 hd S hG hm hx hc uj hrs h0;go_enter Tryz.func43,Tryz.ntmps43;go_wp2_with fail;refine Hw.out.mono ?_;rintro e w1 ⟨rfl,K1⟩;go_wp2_with fail;exact⟨rfl,rfl,HS.out _ K1⟩
 ·obtain rfl:=aU h0;show ae 43 #[.pointer (some ⟨DD,0,none⟩),.slice q 0 c] W λe w'=>e= .returned (.string zc4)∧Done w0 DD (kk+1) st W Q w';clear EV PV NE K0 S hx hc uj hrs hG;go_enter Tryz.func43,Tryz.ntmps43;go_wp2_with fail;refine(pz _ 0 c W).mono ?_;rintro e w1 ⟨rfl,hw1⟩;subst w1;go_wp2_with fail;go_ret;exact⟨rfl,HS.out _ (ah _ _)⟩
theorem ze2(G:pM w0):Ul w0 DD 37 yC:=by
 intro W Q st kk rest q c hG hkk S hc uj hrs hsm hx;have Hsm:=ag hsm;clear hsm;have K0:=hG.keep;have EV:=G.errs.keep K0 (λx=>x);have PV:=G.items.pow.keep K0 (λx=>x);have NE:=G.items.errs.keep K0 (λx=>x) (λx=>x);have HS:Hid (∀w',Keep nM W w'->Done w0 DD (kk+1) st W Q w'):=ag (λw' K=>hG.same K);by_cases h0:rest.length=0;rotate_left
 ·have hd:yC st rest=(.error 3,st):=by
   rcases rest with _|⟨a,r⟩
   ·exact absurd rfl h0
   ·rfl
  rw[hd];have hw:=rO q rest.length c 0 h0 W EV;have Hw:=ag hw;obtain⟨m,hm⟩:∃m,m=rest.length:=⟨_,rfl⟩
  rw[<-hm]at Hw⊢;show ae 37 #[.pointer (some ⟨DD,0,none⟩),.slice q m c] W λe w'=>e= .panicked [{ v:=ou 3,recovered:=false }]∧Done w0 DD (kk+1) st W Q w';clear hw EV PV NE K0 hd S hG hm hx hc uj hrs h0;go_enter Tryz.func37,Tryz.ntmps37;go_wp2_with fail;refine Hw.out.mono ?_;rintro e w1 ⟨rfl,K1⟩;go_wp2_with fail;exact⟨rfl,rfl,HS.out _ K1⟩
 ·obtain rfl:=aU h0;obtain⟨P,D,C,bv,iv,h,hQ⟩:=hG;cases hb:st.base with
  | none=>
   have hd:yC st []=(.error 8,st):=by simp only[yC,hb]
   rw[hd];show ae 37 #[.pointer (some ⟨DD,0,none⟩),.slice q 0 c] W λe w'=>e= .panicked [{ v:=ou 8,recovered:=false }]∧Done w0 DD (kk+1) st W Q w';have hrow:=h.row;rw[uK h hb]at hrow;have BN:Hid (∀w1,Keep nM W w1->ae 67 #[.pointer (some ⟨DD,0,none⟩)] w1 λe w'=>e= .panicked [{ v:=ou 8,recovered:=false }]∧Keep nM w1 w'):=ag (λw1 K=>qO (hrow.keep K (λx=>x)) (EV.keep K (λx=>x)));clear h EV PV NE K0 hQ hd S hx hc uj hrs hrow;go_enter Tryz.func37,Tryz.ntmps37;go_wp2_with fail;refine(pz _ 0 c W).mono ?_;rintro e w1 ⟨rfl,hw1⟩;subst w1;go_wp2_with fail;refine(BN.out _ (ah _ _)).mono ?_;rintro e w1 ⟨rfl,K1⟩;go_wp2_with fail;exact⟨rfl,rfl,HS.out _ K1⟩
  | some p=>
   obtain⟨V,b⟩:=p;obtain⟨BB,k,rfl,hB,hk⟩:=sW h hb;have BO:Hid (∀w1,Keep nM W w1->ae 67 #[.pointer (some ⟨DD,0,none⟩)] w1 λe w'=>e= .returned (.pointer (some ⟨BB,0,none⟩))∧w'=w1):=ag (λw1 K=>sS (h.row.keep K (λx=>x)));have hd:yC st []=(.ok (⟨#[99,111,117,110,116,32]⟩++Dq V.now.count),st):=by simp only[yC,hb]
   rw[hd];show ae 37 #[.pointer (some ⟨DD,0,none⟩),.slice q 0 c] W λe w'=>e= .returned (.string (⟨#[99,111,117,110,116,32]⟩++Dq V.now.count))∧Done w0 DD (kk+1) st W Q w';have hV:=h.ok.base _ hb;have hv0:=hV.MV;have hv1:=hV.cnt1;obtain⟨v,hv⟩:∃v,v=V.now.count:=⟨_,rfl⟩
   have hcn:=Qq hB;rw[<-hv]at hcn hv0 hv1⊢;have hlo: -9223372036854775808<=v:=by omega
   have hhi:v<=9223372036854775807:=by omega
   have hil:=(zo v hlo hhi)
   have Hcn:=ag hcn;have HI:Hid (∀w1,Keep nM W w1->ae 19 #[.int .i64 v] w1 λe w'=>e= .returned (.string (Dq v))∧Keep nM w1 w'):=ag (λw1 K=>uS v hlo hhi w1 (PV.keep K (λx=>x)));obtain⟨it,hit⟩:∃it,it=Dq v:=⟨_,rfl⟩
   rw[<-hit]at HI hil⊢;have FM:¬(9223372036854775807<(⟨#[99,111,117,110,116,32]⟩:af).size+it.size):=by have:(⟨#[99,111,117,110,116,32]⟩:af).size=6:=rfl;omega
   clear h EV PV NE K0 hQ hd S hx hc uj hrs hB hV hcn hv0 hv1 hlo hhi hit hil hv;go_enter Tryz.func37,Tryz.ntmps37;go_wp2_with fail;refine(pz _ 0 c W).mono ?_;rintro e w1 ⟨rfl,hw1⟩;subst w1;go_wp2_with fail;refine(BO.out _ (ah _ _)).mono ?_;rintro e w1 ⟨rfl,hw1⟩;subst w1;go_wp2_with fail;refine Hcn.out.mono ?_;rintro e w1 ⟨rfl,K1⟩;go_wp2_with fail;refine(HI.out _ K1).mono ?_;rintro e w2 ⟨rfl,K2⟩;go_wp2_with fail;go_ret;exact⟨rfl,HS.out _ (K1.nK K2)⟩
theorem ze0(G:pM w0):Ul w0 DD 40 xe:=by
 intro W Q st kk rest q c hG hkk S hc uj hrs hsm hx;have Hsm:=ag hsm;clear hsm;have K0:=hG.keep;have EV:=G.errs.keep K0 (λx=>x);have PV:=G.items.pow.keep K0 (λx=>x);have NE:=G.items.errs.keep K0 (λx=>x) (λx=>x);have HS:Hid (∀w',Keep nM W w'->Done w0 DD (kk+1) st W Q w'):=ag (λw' K=>hG.same K);by_cases h0:rest.length=0;rotate_left
 ·have hd:xe st rest=(.error 3,st):=by
   rcases rest with _|⟨a,r⟩
   ·exact absurd rfl h0
   ·rfl
  rw[hd];have hw:=rO q rest.length c 0 h0 W EV;have Hw:=ag hw;obtain⟨m,hm⟩:∃m,m=rest.length:=⟨_,rfl⟩
  rw[<-hm]at Hw⊢;show ae 40 #[.pointer (some ⟨DD,0,none⟩),.slice q m c] W λe w'=>e= .panicked [{ v:=ou 3,recovered:=false }]∧Done w0 DD (kk+1) st W Q w';clear hw EV PV NE K0 hd S hG hm hx hc uj hrs h0;go_enter Tryz.func40,Tryz.ntmps40;go_wp2_with fail;refine Hw.out.mono ?_;rintro e w1 ⟨rfl,K1⟩;go_wp2_with fail;exact⟨rfl,rfl,HS.out _ K1⟩
 ·obtain rfl:=aU h0;obtain⟨P,D,C,bv,iv,h,hQ⟩:=hG;cases hb:st.base with
  | none=>
   have hd:xe st []=(.error 8,st):=by simp only[xe,hb]
   rw[hd];show ae 40 #[.pointer (some ⟨DD,0,none⟩),.slice q 0 c] W λe w'=>e= .panicked [{ v:=ou 8,recovered:=false }]∧Done w0 DD (kk+1) st W Q w';have hrow:=h.row;rw[uK h hb]at hrow;have BN:Hid (∀w1,Keep nM W w1->ae 67 #[.pointer (some ⟨DD,0,none⟩)] w1 λe w'=>e= .panicked [{ v:=ou 8,recovered:=false }]∧Keep nM w1 w'):=ag (λw1 K=>qO (hrow.keep K (λx=>x)) (EV.keep K (λx=>x)));clear h EV PV NE K0 hQ hd S hx hc uj hrs hrow;go_enter Tryz.func40,Tryz.ntmps40;go_wp2_with fail;refine(pz _ 0 c W).mono ?_;rintro e w1 ⟨rfl,hw1⟩;subst w1;go_wp2_with fail;refine(BN.out _ (ah _ _)).mono ?_;rintro e w1 ⟨rfl,K1⟩;go_wp2_with fail;exact⟨rfl,rfl,HS.out _ K1⟩
  | some p=>
   obtain⟨V,b⟩:=p;obtain⟨BB,k,rfl,hB,hk⟩:=sW h hb;have BO:Hid (∀w1,Keep nM W w1->ae 67 #[.pointer (some ⟨DD,0,none⟩)] w1 λe w'=>e= .returned (.pointer (some ⟨BB,0,none⟩))∧w'=w1):=ag (λw1 K=>sS (h.row.keep K (λx=>x)));have hd:xe st []=(.ok (⟨#[101,112,111,99,104,32]⟩++Dq V.now.nP),st):=by simp only[xe,hb]
   rw[hd];show ae 40 #[.pointer (some ⟨DD,0,none⟩),.slice q 0 c] W λe w'=>e= .returned (.string (⟨#[101,112,111,99,104,32]⟩++Dq V.now.nP))∧Done w0 DD (kk+1) st W Q w';have hV:=h.ok.base _ hb;have hv0:=hV.ep0;have hv1:=hV.ep1;obtain⟨v,hv⟩:∃v,v=V.now.nP:=⟨_,rfl⟩
   have hcn:=zc9 hB;rw[<-hv]at hcn hv0 hv1⊢;have hlo: -9223372036854775808<=v:=by omega
   have hhi:v<=9223372036854775807:=by omega
   have hil:=(zo v hlo hhi)
   have Hcn:=ag hcn;have HI:Hid (∀w1,Keep nM W w1->ae 19 #[.int .i64 v] w1 λe w'=>e= .returned (.string (Dq v))∧Keep nM w1 w'):=ag (λw1 K=>uS v hlo hhi w1 (PV.keep K (λx=>x)));obtain⟨it,hit⟩:∃it,it=Dq v:=⟨_,rfl⟩
   rw[<-hit]at HI hil⊢;have FM:¬(9223372036854775807<(⟨#[101,112,111,99,104,32]⟩:af).size+it.size):=by have:(⟨#[101,112,111,99,104,32]⟩:af).size=6:=rfl;omega
   clear h EV PV NE K0 hQ hd S hx hc uj hrs hB hV hcn hv0 hv1 hlo hhi hit hil hv;go_enter Tryz.func40,Tryz.ntmps40;go_wp2_with fail;refine(pz _ 0 c W).mono ?_;rintro e w1 ⟨rfl,hw1⟩;subst w1;go_wp2_with fail;refine(BO.out _ (ah _ _)).mono ?_;rintro e w1 ⟨rfl,hw1⟩;subst w1;go_wp2_with fail;refine Hcn.out.mono ?_;rintro e w1 ⟨rfl,K1⟩;go_wp2_with fail;refine(HI.out _ K1).mono ?_;rintro e w2 ⟨rfl,K2⟩;go_wp2_with fail;go_ret;exact⟨rfl,HS.out _ (K1.nK K2)⟩
end
section
variable {w0:World}{DD:Nat}
theorem zeh{b:oZ}{n:Int}(h:(vZ b n).1≠0):(vZ b n).2=b:=by
 unfold vZ at h⊢;split
 ·rfl
 ·split
  ·rfl
  ·rename_i h1 h2;rw[aB h1,aB h2]at h;exact absurd rfl h
theorem Y4{b:oZ}{x:pR}(h:(xY b x).1≠0):(xY b x).2=b:=by
 unfold xY at h⊢;split
 ·rfl
 ·split
  ·rfl
  ·split
   ·rfl
   ·rename_i h1 h2 h3;rw[aB h1,aB h2,aB h3]at h;exact absurd rfl h
theorem zhF{b:oZ}{k:af}(h:(C9 b k).1≠0):(C9 b k).2=b:=by
 unfold C9 at h⊢;split
 ·rfl
 ·rename_i h1;rw[aB h1]at h;exact absurd rfl h
theorem zcn{w W:World}{P:Nat->Prop}{BB D C:Nat}{V:nT}{d:pG}{n:Int}{b:oZ}{k:Nat}(h:pq w W P BB D C V d n b k)(hd:b.nS=0):
  ae 68 #[.pointer (some ⟨BB,0,none⟩)] W λe w'=>e= .returned (errVal 6)∧Keep nM W w':=by
 obtain⟨B,S,wv,mb,wb,CC,nm,nw,L,Wt,h⟩:=h;have hrow:=h.row;rw[hd]at hrow;exact Oj hrow
theorem zjh(G:pM w0):Ul w0 DD 39 Bv:=by
 intro W Q st kk rest q c hG hkk S hc uj hrs hsm hx;have Hsm:=ag hsm;clear hsm;have K0:=hG.keep;have EV:=G.errs.keep K0 (λx=>x);have PV:=G.items.pow.keep K0 (λx=>x);have NE:=G.items.errs.keep K0 (λx=>x) (λx=>x);have HS:Hid (∀w',Keep nM W w'->Done w0 DD (kk+1) st W Q w'):=ag (λw' K=>hG.same K);by_cases h0:rest.length=1;rotate_left
 ·have hd:Bv st rest=(.error 3,st):=by
   rcases rest with _|⟨a,_|⟨b,r⟩⟩
   ·rfl
   ·exact absurd rfl h0
   ·rfl
  rw[hd];have hw:=rO q rest.length c 1 h0 W EV;have Hw:=ag hw;obtain⟨m,hm⟩:∃m,m=rest.length:=⟨_,rfl⟩
  rw[<-hm]at Hw⊢;show ae 39 #[.pointer (some ⟨DD,0,none⟩),.slice q m c] W λe w'=>e= .panicked [{ v:=ou 3,recovered:=false }]∧Done w0 DD (kk+1) st W Q w';clear hw EV PV NE K0 hd S hG hm hx hc uj hrs h0;go_enter Tryz.func39,Tryz.ntmps39;go_wp2_with fail;refine Hw.out.mono ?_;rintro e w1 ⟨rfl,K1⟩;go_wp2_with fail;exact⟨rfl,rfl,HS.out _ K1⟩
 ·obtain⟨x,rfl⟩:∃x,rest= [x]:=jr.1 h0;have hG0:=hG;obtain⟨P,D,C,bv,iv,h,hQ⟩:=hG;obtain⟨g,off,rfl,hgl,hcell⟩:=zf S rfl (iG);have a0:Ie x g off W:=hcell 0 (iG);have Yj:¬P g:=λhp=>hx g rfl ((hQ g).2 (.inl hp));have hx6:x.size<=20000:=hrs x (bD.2 rfl);have n0:0<1:=by decide
  cases hb:st.base with
  | none=>
   have hd:Bv st [x]=(.error 8,st):=by simp only[Bv,hb]
   rw[hd];show ae 39 #[.pointer (some ⟨DD,0,none⟩),.slice (some ⟨g,off,none⟩) 1 c] W λe w'=>e= .panicked [{ v:=ou 8,recovered:=false }]∧Done w0 DD (kk+1) st W Q w';have hrow:=h.row;rw[uK h hb]at hrow;have BN:Hid (∀w1,Keep nM W w1->ae 67 #[.pointer (some ⟨DD,0,none⟩)] w1 λe w'=>e= .panicked [{ v:=ou 8,recovered:=false }]∧Keep nM w1 w'):=ag (λw1 K=>qO (hrow.keep K (λx=>x)) (EV.keep K (λx=>x)));have l1:∀y:rE (Ie x g off),y.w.cell? ⟨g,off,none⟩=some (.string x):=λy=>y.h;clear h EV PV NE K0 hQ hd S hx hc uj hrs hrow hcell;go_enter Tryz.func39,Tryz.ntmps39;go_wp2_with fail;refine(pz _ 1 c W).mono ?_;rintro e w1 ⟨rfl,hw1⟩;subst w1;go_wp2_with fail;refine nO (Ie x g off) [(true,0),(true,2),(true,3),(true,4),(false,1),(false,5),(false,6)] (by kernel_rfl) (by kernel_rfl) (λc a d v w h=>by cases d<;>exact h) ?_;simp only[oQ,nR,aj,ak,au]
   repeat(refine nJ (λK hK=> ?_);go_simp;first|(refine⟨_,λ_=>rfl,hK _ ?_⟩;clear hK K;refine nH ?_)|(refine hK _ ?_;clear hK K;refine nH ?_))
   clear l1;refine⟨a0,?_⟩;go_wp2_with fail;refine(BN.out _ (ah nM W).drew).mono ?_;rintro e w1 ⟨rfl,K1⟩;go_wp2_with fail;exact⟨rfl,rfl,HS.out _ ((ah nM W).drew.nK K1)⟩
  | some p=>
   obtain⟨V,b⟩:=p;obtain⟨BB,k,rfl,hB,hk⟩:=sW h hb;have BO:Hid (∀w1,Keep nM W w1->ae 67 #[.pointer (some ⟨DD,0,none⟩)] w1 λe w'=>e= .returned (.pointer (some ⟨BB,0,none⟩))∧w'=w1):=ag (λw1 K=>sS (h.row.keep K (λx=>x)));have EVW:Hid (∀w1,Keep P W w1->ErrVar w1):=ag (λw1 K=>G.errs.keep (h.toN K) (λx=>x));generalize hR:(λe w'=>WM (Bv st [x]).1 e∧Done w0 DD (kk+1) (Bv st [x]).2 W Q w')=R;obtain⟨er,her⟩:∃er,er=(C9 b x).1:=⟨_,rfl⟩
   have Qc:Hid (er=0->∀w1,pq w0 w1 P BB D C V st.dev st.n (C9 b x).2 (k+1)∧Keep P W w1->∀ {w9},Keep nM w1 w9->R (.returned (.string zba)) w9):=ag (by
    intro h1 w1 ⟨hB1,K1⟩ w9 K9;rw[<-hR];have hd:Bv st [x]=(.ok zba,{ st with base:=some (V,(C9 b x).2) }):=by simp only[Bv,hb];rw[aP (her▸h1)]
    rw[hd];exact⟨rfl,rf.done hQ (Grow.refl _ _) (K1.nK K9) (h.step ⟨BB,k+1,rfl,hB1.oz K9,by omega⟩ (Grow.refl _ _) (K1.nK K9) rfl rfl (h.ok.Am hb _))⟩)
   have HBAD:Hid (er≠0->∀w1,pq w0 w1 P BB D C V st.dev st.n (C9 b x).2 (k+1)∧Keep P W w1->∀ {w9},Keep nM w1 w9->R (.panicked [{ v:=ou er,recovered:=false }]) w9):=ag (by
    intro h1 w1 ⟨hB1,K1⟩ w9 K9;rw[<-hR];have hd:Bv st [x]=(.error er,st):=by simp only[Bv,hb];rw[aB (her▸h1),<-her]
    have hsame:(C9 b x).2=b:=zhF (her▸h1);rw[hsame]at hB1;have hbody:uP w0 w9 P D C (.pointer (some ⟨BB,0,none⟩)) (kk+1) st.dev st.n st.base:=by rw[hb];exact⟨BB,k+1,rfl,hB1.oz K9,by omega⟩
    rw[hd];exact⟨rfl,rf.done hQ (Grow.refl _ _) (K1.nK K9) (h.step (st':=st) hbody (Grow.refl _ _) (K1.nK K9) rfl rfl (h.ok.mono (ik _)))⟩)
   have hdel:=zn7 (hB.oz (ah nM W).drew) (by omega) x (by unfold maxLen;omega);rw[<-her]at hdel;have zpT:=ag hdel;have l1:∀y:rE (Ie x g off),y.w.cell? ⟨g,off,none⟩=some (.string x):=λy=>y.h;clear h EV PV NE K0 hQ S hx hc uj hrs hcell hB hdel her hR HS;go_enter Tryz.func39,Tryz.ntmps39;go_wp2_with fail;refine(pz _ 1 c W).mono ?_;rintro e w1 ⟨rfl,hw1⟩;subst w1;go_wp2_with fail;refine nO (Ie x g off) [(true,0),(true,2),(true,3),(true,4),(false,1),(false,5),(false,6)] (by kernel_rfl) (by kernel_rfl) (λc a d v w h=>by cases d<;>exact h) ?_;simp only[oQ,nR,aj,ak,au]
   repeat(refine nJ (λK hK=> ?_);go_simp;first|(refine⟨_,λ_=>rfl,hK _ ?_⟩;clear hK K;refine nH ?_)|(refine hK _ ?_;clear hK K;refine nH ?_))
   clear l1;refine⟨a0,?_⟩;go_wp2_with fail;refine(BO.out _ (ah nM W).drew).mono ?_;rintro e w1 ⟨rfl,hw1⟩;subst w1;go_wp2_with fail;refine⟨a0,?_⟩;go_wp2_with fail;refine zpT.out.mono ?_;rintro e w1 ⟨rfl,hB1,K1⟩;have KW:=(((ah nM W).drew).vN (S:=P)).then K1;have a1:Ie x g off w1:=(KW.cell (p:=⟨g,off,none⟩) hgl Yj).trans a0;go_wp2_with fail;refine⟨a1,?_⟩;go_wp2_with fail;refine(zl er w1 (EVW.out _ (KW))).mono ?_;rintro e w9 ⟨he,K9⟩;by_cases h1:er=0
   ·rw[aP h1]at he;subst he;go_wp2_with fail;(try go_ret);exact Qc.out h1 _ ⟨hB1,KW⟩ K9
   ·rw[aB h1]at he;subst he;go_wp2_with fail;exact⟨rfl,HBAD.out h1 _ ⟨hB1,KW⟩ K9⟩
theorem zjg(G:pM w0):Ul w0 DD 47 vV:=by
 intro W Q st kk rest q c hG hkk S hc uj hrs hsm hx;have Hsm:=ag hsm;clear hsm;have K0:=hG.keep;have EV:=G.errs.keep K0 (λx=>x);have PV:=G.items.pow.keep K0 (λx=>x);have NE:=G.items.errs.keep K0 (λx=>x) (λx=>x);have HS:Hid (∀w',Keep nM W w'->Done w0 DD (kk+1) st W Q w'):=ag (λw' K=>hG.same K);by_cases h0:rest.length=1;rotate_left
 ·have hd:vV st rest=(.error 3,st):=by
   rcases rest with _|⟨a,_|⟨b,r⟩⟩
   ·rfl
   ·exact absurd rfl h0
   ·rfl
  rw[hd];have hw:=rO q rest.length c 1 h0 W EV;have Hw:=ag hw;obtain⟨m,hm⟩:∃m,m=rest.length:=⟨_,rfl⟩
  rw[<-hm]at Hw⊢;show ae 47 #[.pointer (some ⟨DD,0,none⟩),.slice q m c] W λe w'=>e= .panicked [{ v:=ou 3,recovered:=false }]∧Done w0 DD (kk+1) st W Q w';clear hw EV PV NE K0 hd S hG hm hx hc uj hrs h0;go_enter Tryz.func47,Tryz.ntmps47;go_wp2_with fail;refine Hw.out.mono ?_;rintro e w1 ⟨rfl,K1⟩;go_wp2_with fail;exact⟨rfl,rfl,HS.out _ K1⟩
 ·obtain⟨x,rfl⟩:∃x,rest= [x]:=jr.1 h0;have hG0:=hG;obtain⟨P,D,C,bv,iv,h,hQ⟩:=hG;obtain⟨g,off,rfl,hgl,hcell⟩:=zf S rfl (iG);have a0:Ie x g off W:=hcell 0 (iG);have Yj:¬P g:=λhp=>hx g rfl ((hQ g).2 (.inl hp));have hx6:x.size<=20000:=hrs x (bD.2 rfl);have n0:0<1:=by decide
  have c0:W.cell? ⟨g,off,none⟩=some (.string x):=a0;have hnum:=CB x (by omega) W PV NE EV;unfold JK at hnum;cases hv:yg x with
  | none=>
   have hd:vV st [x]=(.error 3,st):=by simp only[vV,hv]
   rw[hd];rw[hv]at hnum;have tq:=ag hnum;show ae 47 #[.pointer (some ⟨DD,0,none⟩),.slice (some ⟨g,off,none⟩) 1 c] W λe w'=>e= .panicked [{ v:=ou 3,recovered:=false }]∧Done w0 DD (kk+1) st W Q w';clear h EV PV NE K0 hQ hd S hx hc uj hrs hcell hnum a0 hv;go_enter Tryz.func47,Tryz.ntmps47;go_wp2_with fail;refine(pz _ 1 c W).mono ?_;rintro e w1 ⟨rfl,hw1⟩;subst w1;go_wp2_with fail;refine tq.out.mono ?_;rintro e w1 ⟨rfl,K1⟩;go_wp2_with fail;exact⟨rfl,rfl,HS.out _ K1⟩
  | some n=>
   rw[hv]at hnum;have tq:=ag hnum;cases hb:st.base with
   | none=>
    have hd:vV st [x]=(.error 8,st):=by simp only[vV,hv,hb]
    rw[hd];show ae 47 #[.pointer (some ⟨DD,0,none⟩),.slice (some ⟨g,off,none⟩) 1 c] W λe w'=>e= .panicked [{ v:=ou 8,recovered:=false }]∧Done w0 DD (kk+1) st W Q w';have hrow:=h.row;rw[uK h hb]at hrow;have BN:Hid (∀w1,Keep nM W w1->ae 67 #[.pointer (some ⟨DD,0,none⟩)] w1 λe w'=>e= .panicked [{ v:=ou 8,recovered:=false }]∧Keep nM w1 w'):=ag (λw1 K=>qO (hrow.keep K (λx=>x)) (EV.keep K (λx=>x)));clear h EV PV NE K0 hQ hd S hx hc uj hrs hcell hnum a0 hv hrow;go_enter Tryz.func47,Tryz.ntmps47;go_wp2_with fail;refine(pz _ 1 c W).mono ?_;rintro e w1 ⟨rfl,hw1⟩;subst w1;go_wp2_with fail;refine tq.out.mono ?_;rintro e w1 ⟨rfl,K1⟩;go_wp2_with fail;refine(BN.out _ K1).mono ?_;rintro e w2 ⟨rfl,K2⟩;go_wp2_with fail;exact⟨rfl,rfl,HS.out _ (K1.nK K2)⟩
   | some p=>
    obtain⟨V,b⟩:=p;obtain⟨BB,k,rfl,hB,hk⟩:=sW h hb;have BO:Hid (∀w1,Keep nM W w1->ae 67 #[.pointer (some ⟨DD,0,none⟩)] w1 λe w'=>e= .returned (.pointer (some ⟨BB,0,none⟩))∧w'=w1):=ag (λw1 K=>sS (h.row.keep K (λx=>x)));have EVW:Hid (∀w1,Keep P W w1->ErrVar w1):=ag (λw1 K=>G.errs.keep (h.toN K) (λx=>x));generalize hR:(λe w'=>WM (vV st [x]).1 e∧Done w0 DD (kk+1) (vV st [x]).2 W Q w')=R;obtain⟨er,her⟩:∃er,er=(vZ b n).1:=⟨_,rfl⟩
    have Qc:Hid (er=0->∀w1,pq w0 w1 P BB D C V st.dev st.n (vZ b n).2 (k+1)∧Keep P W w1->∀ {w9},Keep nM w1 w9->R (.returned (.string Xg)) w9):=ag (by
     intro h1 w1 ⟨hB1,K1⟩ w9 K9;rw[<-hR];have hd:vV st [x]=(.ok Xg,{ st with base:=some (V,(vZ b n).2) }):=by simp only[vV,hb,hv];rw[aP (her▸h1)]
     rw[hd];exact⟨rfl,rf.done hQ (Grow.refl _ _) (K1.nK K9) (h.step ⟨BB,k+1,rfl,hB1.oz K9,by omega⟩ (Grow.refl _ _) (K1.nK K9) rfl rfl (h.ok.Am hb _))⟩)
    have HBAD:Hid (er≠0->∀w1,pq w0 w1 P BB D C V st.dev st.n (vZ b n).2 (k+1)∧Keep P W w1->∀ {w9},Keep nM w1 w9->R (.panicked [{ v:=ou er,recovered:=false }]) w9):=ag (by
     intro h1 w1 ⟨hB1,K1⟩ w9 K9;rw[<-hR];have hd:vV st [x]=(.error er,st):=by simp only[vV,hb,hv];rw[aB (her▸h1),<-her]
     have hsame:(vZ b n).2=b:=zeh (her▸h1);rw[hsame]at hB1;have hbody:uP w0 w9 P D C (.pointer (some ⟨BB,0,none⟩)) (kk+1) st.dev st.n st.base:=by rw[hb];exact⟨BB,k+1,rfl,hB1.oz K9,by omega⟩
     rw[hd];exact⟨rfl,rf.done hQ (Grow.refl _ _) (K1.nK K9) (h.step (st':=st) hbody (Grow.refl _ _) (K1.nK K9) rfl rfl (h.ok.mono (ik _)))⟩)
    have HM:Hid (∀w1,Keep nM W w1->ae 80 #[.pointer (some ⟨BB,0,none⟩),.int .i64 n] w1 λe w'=>e= .returned (errVal er)∧pq w0 w' P BB D C V st.dev st.n (vZ b n).2 (k+1)∧Keep P w1 w'):=ag (λw1 K=>(zlx (hB.oz K) n).mono λe w' hh=>⟨by rw[her];exact hh.1,hh.2.1.more (ik _),hh.2.2⟩);clear h EV PV NE K0 hQ S hx hc uj hrs hcell hnum a0 hv hB her hR HS;go_enter Tryz.func47,Tryz.ntmps47;go_wp2_with fail;refine(pz _ 1 c W).mono ?_;rintro e w1 ⟨rfl,hw1⟩;subst w1;go_wp2_with fail;refine tq.out.mono ?_;rintro e w1 ⟨rfl,K1⟩;go_wp2_with fail;refine(BO.out _ K1).mono ?_;rintro e w2 ⟨rfl,hw2⟩;subst w2;go_wp2_with fail;refine(HM.out _ K1).mono ?_;rintro e w2 ⟨rfl,hB1,K2⟩;have KW:=(K1.vN (S:=P)).then K2;go_wp2_with fail;refine(zl er w2 (EVW.out _ (KW))).mono ?_;rintro e w9 ⟨he,K9⟩;by_cases h1:er=0
    ·rw[aP h1]at he;subst he;go_wp2_with fail;(try go_ret);exact Qc.out h1 _ ⟨hB1,KW⟩ K9
    ·rw[aB h1]at he;subst he;go_wp2_with fail;exact⟨rfl,HBAD.out h1 _ ⟨hB1,KW⟩ K9⟩
theorem zhN(G:pM w0):Ul w0 DD 52 wR:=by
 intro W Q st kk rest q c hG hkk S hc uj hrs hsm hx;have Hsm:=ag hsm;clear hsm;have K0:=hG.keep;have EV:=G.errs.keep K0 (λx=>x);have PV:=G.items.pow.keep K0 (λx=>x);have NE:=G.items.errs.keep K0 (λx=>x) (λx=>x);have HS:Hid (∀w',Keep nM W w'->Done w0 DD (kk+1) st W Q w'):=ag (λw' K=>hG.same K);by_cases h0:rest.length=0;rotate_left
 ·have hd:wR st rest=(.error 3,st):=by
   rcases rest with _|⟨a,r⟩
   ·exact absurd rfl h0
   ·rfl
  rw[hd];have hw:=rO q rest.length c 0 h0 W EV;have Hw:=ag hw;obtain⟨m,hm⟩:∃m,m=rest.length:=⟨_,rfl⟩
  rw[<-hm]at Hw⊢;show ae 52 #[.pointer (some ⟨DD,0,none⟩),.slice q m c] W λe w'=>e= .panicked [{ v:=ou 3,recovered:=false }]∧Done w0 DD (kk+1) st W Q w';clear hw EV PV NE K0 hd S hG hm hx hc uj hrs h0;go_enter Tryz.func52,Tryz.ntmps52;go_wp2_with fail;refine Hw.out.mono ?_;rintro e w1 ⟨rfl,K1⟩;go_wp2_with fail;exact⟨rfl,rfl,HS.out _ K1⟩
 ·obtain rfl:=aU h0;obtain⟨P,D,C,bv,iv,h,hQ⟩:=hG;cases hb:st.base with
  | none=>
   have hd:wR st []=(.error 8,st):=by simp only[wR,hb]
   rw[hd];show ae 52 #[.pointer (some ⟨DD,0,none⟩),.slice q 0 c] W λe w'=>e= .panicked [{ v:=ou 8,recovered:=false }]∧Done w0 DD (kk+1) st W Q w';have hrow:=h.row;rw[uK h hb]at hrow;have BN:Hid (∀w1,Keep nM W w1->ae 67 #[.pointer (some ⟨DD,0,none⟩)] w1 λe w'=>e= .panicked [{ v:=ou 8,recovered:=false }]∧Keep nM w1 w'):=ag (λw1 K=>qO (hrow.keep K (λx=>x)) (EV.keep K (λx=>x)));clear h EV PV NE K0 hQ hd S hx hc uj hrs hrow;go_enter Tryz.func52,Tryz.ntmps52;go_wp2_with fail;refine(pz _ 0 c W).mono ?_;rintro e w1 ⟨rfl,hw1⟩;subst w1;go_wp2_with fail;refine(BN.out _ (ah _ _)).mono ?_;rintro e w1 ⟨rfl,K1⟩;go_wp2_with fail;exact⟨rfl,rfl,HS.out _ K1⟩
  | some p=>
   obtain⟨V,b⟩:=p;obtain⟨BB,k,rfl,hB,hk⟩:=sW h hb;have BO:Hid (∀w1,Keep nM W w1->ae 67 #[.pointer (some ⟨DD,0,none⟩)] w1 λe w'=>e= .returned (.pointer (some ⟨BB,0,none⟩))∧w'=w1):=ag (λw1 K=>sS (h.row.keep K (λx=>x)));have EVW:Hid (∀w1,Keep P W w1->ErrVar w1):=ag (λw1 K=>G.errs.keep (h.toN K) (λx=>x));generalize hR:(λe w'=>WM (wR st []).1 e∧Done w0 DD (kk+1) (wR st []).2 W Q w')=R;obtain⟨t,ht⟩:∃t,t=tK V st.dev st.n:=⟨_,rfl⟩
   obtain⟨er,her⟩:∃er,er=t.err:=⟨_,rfl⟩
   have Eh:=h.ok.base _ hb;have hok:=zgu (n:=st.n) Eh h.ok.dev;rw[<-ht]at hok;have zaS:=ziF hB Eh (by omega) (by have:=h.ok.dev.few;omega) G.rounds;rw[<-ht,<-her]at zaS;have hn1:0<=t.n∧t.n<=kk+1:=by have h1:=h.ok.n0;have h2:=h.ok.n1;have h3:=Eh.MV;have h4:=Eh.cnt1;rcases hok.2.2 with e|e<;>rw[e]<;>omega
   have hnext:∀b1,uI (kk+1) { st with base:=some (t.v,b1),dev:=t.dev,n:=t.n } :=λb1=>h.ok.next (hok.2.1.mono (by omega)) hn1.1 hn1.2 (λp hp=>by obtain rfl:=aH hp;exact hok.1);have Qc:Hid (er=0->∀w1,(∃P',pq w0 w1 P' BB D C t.v t.dev t.n b k∧Grow W P P')->Keep P W w1->∀w9,Keep nM w1 w9->R (.returned (.string (⟨#[116,117,114,110,32]⟩++Dq t.v.now.nP))) w9):=ag (by
    rintro h1 w1 ⟨P1,hB1,hg⟩ K1 w9 K9;have h2:t.err=0:=her▸h1;rw[<-hR];have hd:wR st []=(.ok (⟨#[116,117,114,110,32]⟩++Dq t.v.now.nP),{ st with base:=some (t.v,b),dev:=t.dev,n:=t.n }):=by simp only[wR,hb];rw[<-ht];rw[aP h2]
    rw[hd];exact⟨rfl,rf.done hQ hg (K1.nK K9) (h.step ⟨BB,k,rfl,hB1.oz K9,by omega⟩ hg (K1.nK K9) rfl rfl (hnext _))⟩)
   have HBAD:Hid (er≠0->∀w1,(∃P',pq w0 w1 P' BB D C t.v t.dev t.n b k∧Grow W P P')->Keep P W w1->∀w9,Keep nM w1 w9->R (.panicked [{ v:=ou er,recovered:=false }]) w9):=ag (by
    rintro h1 w1 ⟨P1,hB1,hg⟩ K1 w9 K9;rw[<-hR];have h2:¬t.err=0:=her▸h1;have hd:wR st []=(.error er,{ st with base:=some (t.v,b),dev:=t.dev,n:=t.n }):=by simp only[wR,hb];rw[<-ht];rw[aB h2];rw[her]
    rw[hd];exact⟨rfl,rf.done hQ hg (K1.nK K9) (h.step ⟨BB,k,rfl,hB1.oz K9,by omega⟩ hg (K1.nK K9) rfl rfl (hnext _))⟩)
   have hv0:=hok.1.ep0;have hv1:=hok.1.ep1;have HCN:Hid (∀w1 P1,pq w0 w1 P1 BB D C t.v t.dev t.n b k->ae 72 #[.pointer (some ⟨BB,0,none⟩)] w1 λe w'=>e= .returned (.int .i64 t.v.now.nP)∧Keep nM w1 w'):=ag (λw1 P1 hB1=>zc9 hB1);obtain⟨v,hv⟩:∃v,v=t.v.now.nP:=⟨_,rfl⟩
   rw[<-hv]at Qc HCN hv0 hv1;have hlo: -9223372036854775808<=v:=by omega
   have hhi:v<=9223372036854775807:=by omega
   have hil:=zo v hlo hhi;have HI:Hid (∀w1,Keep P W w1->ae 19 #[.int .i64 v] w1 λe w'=>e= .returned (.string (Dq v))∧Keep nM w1 w'):=ag (λw1 K=>uS v hlo hhi w1 (G.items.pow.keep (h.toN K) (λx=>x)));obtain⟨it,hit⟩:∃it,it=Dq v:=⟨_,rfl⟩
   rw[<-hit]at HI hil Qc;have FM:¬(9223372036854775807<(⟨#[116,117,114,110,32]⟩:af).size+it.size):=by have:(⟨#[116,117,114,110,32]⟩:af).size<=7:=(by decide);omega
   have zfA:=ag zaS;clear h EV PV NE K0 hQ S hx hc uj hrs hB zaS hv0 hv1 hlo hhi hit hil hv hok Eh hn1 hnext her ht hR HS;go_enter Tryz.func52,Tryz.ntmps52;go_wp2_with fail;refine(pz _ 0 c W).mono ?_;rintro e w1 ⟨rfl,hw1⟩;subst w1;go_wp2_with fail;refine(BO.out _ (ah _ _)).mono ?_;rintro e w1 ⟨rfl,hw1⟩;subst w1;go_wp2_with fail;refine zfA.out.mono ?_;rintro e w1 ⟨rfl,hB1,K1⟩;have HB1:=ag hB1;have BU:=ag K1;clear hB1 K1 zfA;go_wp2_with fail;refine(zl er w1 (EVW.out _ BU.out)).mono ?_;rintro e w2 ⟨he,K2⟩;by_cases h1:er=0;rotate_left
   ·rw[aB h1]at he;subst he;go_wp2_with fail;exact⟨rfl,HBAD.out h1 _ HB1.out BU.out _ K2⟩
   rw[aP h1]at he;subst he;have hcn:∃x:Unit,Hid (ae 72 #[.pointer (some ⟨BB,0,none⟩)] w2 λe w'=>e= .returned (.int .i64 v)∧Keep nM w2 w'):=by obtain⟨P1,hB1,hg⟩:=HB1.out;exact⟨(),ag (HCN.out _ _ (hB1.oz K2))⟩
   obtain⟨_,Hcn⟩:=hcn;have Jc:=ag K2;clear K2;go_wp2_with fail;refine Hcn.out.mono ?_;rintro e w3 ⟨rfl,K3⟩;go_wp2_with fail;refine(HI.out _ ((BU.out.nK Jc.out).nK K3)).mono ?_;rintro e w4 ⟨rfl,K4⟩;go_wp2_with fail;(try go_ret);exact Qc.out h1 _ HB1.out BU.out _ ((Jc.out.nK K3).nK K4)
theorem zcq(G:pM w0):Ul w0 DD 36 rM:=by
 intro W Q st kk rest q c hG hkk S hc uj hrs hsm hx;have Hsm:=ag hsm;clear hsm;have K0:=hG.keep;have EV:=G.errs.keep K0 (λx=>x);have PV:=G.items.pow.keep K0 (λx=>x);have NE:=G.items.errs.keep K0 (λx=>x) (λx=>x);have HS:Hid (∀w',Keep nM W w'->Done w0 DD (kk+1) st W Q w'):=ag (λw' K=>hG.same K);by_cases h0:rest.length=0;rotate_left
 ·have hd:rM st rest=(.error 3,st):=by
   rcases rest with _|⟨a,r⟩
   ·exact absurd rfl h0
   ·rfl
  rw[hd];have hw:=rO q rest.length c 0 h0 W EV;have Hw:=ag hw;obtain⟨m,hm⟩:∃m,m=rest.length:=⟨_,rfl⟩
  rw[<-hm]at Hw⊢;show ae 36 #[.pointer (some ⟨DD,0,none⟩),.slice q m c] W λe w'=>e= .panicked [{ v:=ou 3,recovered:=false }]∧Done w0 DD (kk+1) st W Q w';clear hw EV PV NE K0 hd S hG hm hx hc uj hrs h0;go_enter Tryz.func36,Tryz.ntmps36;go_wp2_with fail;refine Hw.out.mono ?_;rintro e w1 ⟨rfl,K1⟩;go_wp2_with fail;exact⟨rfl,rfl,HS.out _ K1⟩
 ·obtain rfl:=aU h0;obtain⟨P,D,C,bv,iv,h,hQ⟩:=hG;cases hb:st.base with
  | none=>
   have hd:rM st []=(.error 8,st):=by simp only[rM,hb]
   rw[hd];show ae 36 #[.pointer (some ⟨DD,0,none⟩),.slice q 0 c] W λe w'=>e= .panicked [{ v:=ou 8,recovered:=false }]∧Done w0 DD (kk+1) st W Q w';have hrow:=h.row;rw[uK h hb]at hrow;have BN:Hid (∀w1,Keep nM W w1->ae 67 #[.pointer (some ⟨DD,0,none⟩)] w1 λe w'=>e= .panicked [{ v:=ou 8,recovered:=false }]∧Keep nM w1 w'):=ag (λw1 K=>qO (hrow.keep K (λx=>x)) (EV.keep K (λx=>x)));clear h EV PV NE K0 hQ hd S hx hc uj hrs hrow;go_enter Tryz.func36,Tryz.ntmps36;go_wp2_with fail;refine(pz _ 0 c W).mono ?_;rintro e w1 ⟨rfl,hw1⟩;subst w1;go_wp2_with fail;refine(BN.out _ (ah _ _)).mono ?_;rintro e w1 ⟨rfl,K1⟩;go_wp2_with fail;exact⟨rfl,rfl,HS.out _ K1⟩
  | some p=>
   obtain⟨V,b⟩:=p;obtain⟨BB,k,rfl,hB,hk⟩:=sW h hb;have BO:Hid (∀w1,Keep nM W w1->ae 67 #[.pointer (some ⟨DD,0,none⟩)] w1 λe w'=>e= .returned (.pointer (some ⟨BB,0,none⟩))∧w'=w1):=ag (λw1 K=>sS (h.row.keep K (λx=>x)));have EVW:Hid (∀w1,Keep P W w1->ErrVar w1):=ag (λw1 K=>G.errs.keep (h.toN K) (λx=>x));by_cases zdm:b.nS=0
   ·have hd:rM st []=(.error 6,st):=by simp only[rM,hb];rw[aP zdm]
    rw[hd];show ae 36 #[.pointer (some ⟨DD,0,none⟩),.slice q 0 c] W λe w'=>e= .panicked [{ v:=ou 6,recovered:=false }]∧Done w0 DD (kk+1) st W Q w';have HC:Hid (ae 68 #[.pointer (some ⟨BB,0,none⟩)] W λe w'=>e= .returned (errVal 6)∧Keep nM W w'):=ag (zcn hB zdm);clear h PV NE K0 hQ hd S hx hc uj hrs hB;go_enter Tryz.func36,Tryz.ntmps36;go_wp2_with fail;refine(pz _ 0 c W).mono ?_;rintro e w1 ⟨rfl,hw1⟩;subst w1;go_wp2_with fail;refine(BO.out _ (ah _ _)).mono ?_;rintro e w1 ⟨rfl,hw1⟩;subst w1;go_wp2_with fail;refine HC.out.mono ?_;rintro e w1 ⟨rfl,K1⟩;rw[show errVal 6= .iface 51 (.int .i64 6)from rfl];go_wp2_with fail;refine(sZ 6 w1 (EVW.out _ K1.vN)).mono ?_;rintro e w2 ⟨rfl,K2⟩;go_wp2_with fail;exact⟨rfl,rfl,HS.out _ (K1.nK K2)⟩
   ·skip
    generalize hR:(λe w'=>WM (rM st []).1 e∧Done w0 DD (kk+1) (rM st []).2 W Q w')=R;obtain⟨t,ht⟩:∃t,t=pX V st.dev st.n b:=⟨_,rfl⟩
    obtain⟨er,her⟩:∃er,er=t.err:=⟨_,rfl⟩
    have Eh:=h.ok.base _ hb;have hok:=zco (n:=st.n) b Eh h.ok.dev;rw[<-ht]at hok;have zaS:=zeW hB (by omega) zdm Eh (by omega) (by have:=h.ok.dev.few;omega) G.rounds G.items.pow;rw[<-ht,<-her]at zaS;have hn1:0<=t.n∧t.n<=kk+1:=by have h1:=h.ok.n0;have h2:=h.ok.n1;have h3:=Eh.MV;have h4:=Eh.cnt1;rcases hok.2.2 with e|e<;>rw[e]<;>omega
    have hnext:∀b1,uI (kk+1) { st with base:=some (t.v,b1),dev:=t.dev,n:=t.n } :=λb1=>h.ok.next (hok.2.1.mono (by omega)) hn1.1 hn1.2 (λp hp=>by obtain rfl:=aH hp;exact hok.1);have Qc:Hid (er=0->∀w1,(∃P',pq w0 w1 P' BB D C t.v t.dev t.n (if er=0 then Ot b else b) k∧Grow W P P')->Keep P W w1->∀w9,Keep nM w1 w9->R (.returned (.string (⟨#[99,111,109,109,105,116,32]⟩++Dq t.v.now.count))) w9):=ag (by
     rintro h1 w1 ⟨P1,hB1,hg⟩ K1 w9 K9;have h2:t.err=0:=her▸h1;rw[<-hR];have hd:rM st []=(.ok (⟨#[99,111,109,109,105,116,32]⟩++Dq t.v.now.count),{ st with base:=some (t.v,Ot b),dev:=t.dev,n:=t.n }):=by simp only[rM,hb];rw[aB zdm,<-ht];rw[aP h2]
     rw[hd];exact⟨rfl,rf.done hQ hg (K1.nK K9) (h.step ⟨BB,k,rfl,(by rw[aP h1]at hB1;exact hB1.oz K9),by omega⟩ hg (K1.nK K9) rfl rfl (hnext _))⟩)
    have HBAD:Hid (er≠0->∀w1,(∃P',pq w0 w1 P' BB D C t.v t.dev t.n (if er=0 then Ot b else b) k∧Grow W P P')->Keep P W w1->∀w9,Keep nM w1 w9->R (.panicked [{ v:=ou er,recovered:=false }]) w9):=ag (by
     rintro h1 w1 ⟨P1,hB1,hg⟩ K1 w9 K9;rw[<-hR];have h2:¬t.err=0:=her▸h1;have hd:rM st []=(.error er,{ st with base:=some (t.v,b),dev:=t.dev,n:=t.n }):=by simp only[rM,hb];rw[aB zdm,<-ht];rw[aB h2];rw[her]
     rw[hd];exact⟨rfl,rf.done hQ hg (K1.nK K9) (h.step ⟨BB,k,rfl,(by rw[aB h1]at hB1;exact hB1.oz K9),by omega⟩ hg (K1.nK K9) rfl rfl (hnext _))⟩)
    have hv0:=hok.1.MV;have hv1:=hok.1.cnt1;have HCN:Hid (∀w1 P1,pq w0 w1 P1 BB D C t.v t.dev t.n (if er=0 then Ot b else b) k->ae 69 #[.pointer (some ⟨BB,0,none⟩)] w1 λe w'=>e= .returned (.int .i64 t.v.now.count)∧Keep nM w1 w'):=ag (λw1 P1 hB1=>Qq hB1);obtain⟨v,hv⟩:∃v,v=t.v.now.count:=⟨_,rfl⟩
    rw[<-hv]at Qc HCN hv0 hv1;have hlo: -9223372036854775808<=v:=by omega
    have hhi:v<=9223372036854775807:=by omega
    have hil:=zo v hlo hhi;have HI:Hid (∀w1,Keep P W w1->ae 19 #[.int .i64 v] w1 λe w'=>e= .returned (.string (Dq v))∧Keep nM w1 w'):=ag (λw1 K=>uS v hlo hhi w1 (G.items.pow.keep (h.toN K) (λx=>x)));obtain⟨it,hit⟩:∃it,it=Dq v:=⟨_,rfl⟩
    rw[<-hit]at HI hil Qc;have FM:¬(9223372036854775807<(⟨#[99,111,109,109,105,116,32]⟩:af).size+it.size):=by have:(⟨#[99,111,109,109,105,116,32]⟩:af).size<=7:=(by decide);omega
    have zfA:=ag zaS;clear h EV PV NE K0 hQ S hx hc uj hrs hB zaS hv0 hv1 hlo hhi hit hil hv hok Eh hn1 hnext her ht hR HS;go_enter Tryz.func36,Tryz.ntmps36;go_wp2_with fail;refine(pz _ 0 c W).mono ?_;rintro e w1 ⟨rfl,hw1⟩;subst w1;go_wp2_with fail;refine(BO.out _ (ah _ _)).mono ?_;rintro e w1 ⟨rfl,hw1⟩;subst w1;go_wp2_with fail;refine zfA.out.mono ?_;rintro e w1 ⟨rfl,hB1,K1⟩;have HB1:=ag hB1;have BU:=ag K1;clear hB1 K1 zfA;go_wp2_with fail;refine(zl er w1 (EVW.out _ BU.out)).mono ?_;rintro e w2 ⟨he,K2⟩;by_cases h1:er=0;rotate_left
    ·rw[aB h1]at he;subst he;go_wp2_with fail;exact⟨rfl,HBAD.out h1 _ HB1.out BU.out _ K2⟩
    rw[aP h1]at he;subst he;have hcn:∃x:Unit,Hid (ae 69 #[.pointer (some ⟨BB,0,none⟩)] w2 λe w'=>e= .returned (.int .i64 v)∧Keep nM w2 w'):=by obtain⟨P1,hB1,hg⟩:=HB1.out;exact⟨(),ag (HCN.out _ _ (hB1.oz K2))⟩
    obtain⟨_,Hcn⟩:=hcn;have Jc:=ag K2;clear K2;go_wp2_with fail;refine Hcn.out.mono ?_;rintro e w3 ⟨rfl,K3⟩;go_wp2_with fail;refine(HI.out _ ((BU.out.nK Jc.out).nK K3)).mono ?_;rintro e w4 ⟨rfl,K4⟩;go_wp2_with fail;(try go_ret);exact Qc.out h1 _ HB1.out BU.out _ ((Jc.out.nK K3).nK K4)
end
section
variable {w0:World}{DD:Nat}
theorem zje(G:pM w0):Ul w0 DD 49 uF:=by
 intro W Q st kk rest q c hG hkk S hc uj hrs hsm hx;have Hsm:=ag hsm;clear hsm;have K0:=hG.keep;have EV:=G.errs.keep K0 (λx=>x);have PV:=G.items.pow.keep K0 (λx=>x);have NE:=G.items.errs.keep K0 (λx=>x) (λx=>x);have HS:Hid (∀w',Keep nM W w'->Done w0 DD (kk+1) st W Q w'):=ag (λw' K=>hG.same K);by_cases h2:rest.length<2
 ·have hd:uF st rest=(.error 3,st):=by
   rcases rest with _|⟨a,_|⟨b,r⟩⟩
   ·rfl
   ·rfl
   ·simp only[aK]at h2;omega
  rw[hd];obtain⟨m,hm⟩:∃m,m=rest.length:=⟨_,rfl⟩
  rw[<-hm]at h2⊢;show ae 49 #[.pointer (some ⟨DD,0,none⟩),.slice q m c] W λe w'=>e= .panicked [{ v:=ou 3,recovered:=false }]∧Done w0 DD (kk+1) st W Q w';have j:(m:Int)<2:=by omega
  have Hm:=ag (sZ 3 W EV);clear EV PV NE K0 hd S hG hm hx hc uj hrs h2;go_enter Tryz.func49,Tryz.ntmps49;go_wp2_with fail;refine Hm.out.mono ?_;rintro e w1 ⟨rfl,K1⟩;go_wp2_with fail;exact⟨rfl,rfl,HS.out _ K1⟩
 obtain⟨x,y,r,rfl⟩:∃x y r,rest=x::y::r:=by
  rcases rest with _|⟨a,_|⟨b,r⟩⟩
  ·exact absurd (show([]:List af).length<2 by decide) h2
  ·exact absurd (show [a].length<2 from kS 1) h2
  ·exact⟨_,_,_,rfl⟩
 have hG0:=hG;obtain⟨P,D,C,bv,iv,h,hQ⟩:=hG;obtain⟨m,hm⟩:∃m,m=(x::y::r).length:=⟨_,rfl⟩
 rw[<-hm]at S hc uj hx⊢;have hmr:m=r.length+2:=by rw[hm];simp
 obtain⟨g,off,rfl,hgl,hcell⟩:=zf S hm (by omega);have a0:nN g off x y W:=⟨hcell 0 (by omega),hcell 1 (by omega)⟩
 have Yj:¬P g:=λhp=>hx g rfl ((hQ g).2 (.inl hp));have hx6:x.size<=20000:=hrs x (by simp);have Uh:∀s∈r,s.size<=1000000:=λs hs=>by have:=hrs s (by simp[hs]);omega
 obtain⟨rr,hrr⟩:∃k,k=r.length:=⟨_,rfl⟩
 have hmi:(m:Int)-2=(rr:Int):=by omega
 have hnum:=λc2=>Iu (c:=c2) r hrr (by omega) (RX (off:=off) (g:=g) (a:=x) (b:=y) hrr hgl (λi hi=>hcell i (by omega)) c2) Uh PV NE EV;have yZ:c=2->ae 73 #[.slice (some ⟨g,off,none⟩) 0 0] W λe w'=>IQ W w' r e∧Keep nM W w':=λhc2=>Iu r (by omega) (by omega) (.inl ⟨aU (by omega),_,_,rfl⟩) Uh PV NE EV;have hm0:(0:Int)<m:=by omega
 have hn0:0<m:=by omega
 have hn1:1<m:=by omega
 have hm1:(1:Int)<m:=by omega
 have hmm:¬(m:Int)<2:=by omega
 have zoY:(2:Int)<=m:=by omega
 by_cases hc2:c=2
 ·obtain rfl:r= []:=aU (by omega);have hm2:m=2:=by omega
  have hr0:rr=0:=hrr;subst hr0;have hnum:=yZ hc2;subst hc2;subst hm2;unfold IQ at hnum;cases hv:wV ([]:List af)with
  | none=>
   have hd:uF st (x::y::([]:List af))=(.error 3,st):=by simp only[uF,hv]
   rw[hd];rw[hv]at hnum;have tq:=ag hnum;show ae 49 #[.pointer (some ⟨DD,0,none⟩),.slice (some ⟨g,off,none⟩) 2 2] W λe w'=>e= .panicked [{ v:=ou 3,recovered:=false }]∧Done w0 DD (kk+1) st W Q w';clear h hQ hd PV hx hv EV NE K0 S hc uj hrs hcell hnum yZ Uh h2 hmr hm hrr hmi
   skip
   go_enter Tryz.func49,Tryz.ntmps49;go_wp2_with fail;refine tq.out.mono ?_;rintro e w1 ⟨rfl,K1⟩;go_wp2_with fail;exact⟨rfl,rfl,HS.out _ K1⟩
  | some zs=>
   rw[hv]at hnum;have tq:=ag hnum;have hzl:=D5 ([]:List af) zs hv;have Hzl:=ag hzl;cases hb:st.base with
   | none=>
    have hd:uF st (x::y::([]:List af))=(.error 8,st):=by simp only[uF,hv,hb]
    rw[hd];show ae 49 #[.pointer (some ⟨DD,0,none⟩),.slice (some ⟨g,off,none⟩) 2 2] W λe w'=>e= .panicked [{ v:=ou 8,recovered:=false }]∧Done w0 DD (kk+1) st W Q w';have hrow:=h.row;rw[uK h hb]at hrow;have BN:Hid (∀w1,Keep nM W w1->ae 67 #[.pointer (some ⟨DD,0,none⟩)] w1 λe w'=>e= .panicked [{ v:=ou 8,recovered:=false }]∧Keep nM w1 w'):=ag (λw1 K=>qO (hrow.keep K (λx=>x)) (EV.keep K (λx=>x)));have l1:∀z:rE (nN g off x y),z.w.cell? ⟨g,off,none⟩=some (.string x):=λz=>z.h.1;have l2:∀z:rE (nN g off x y),z.w.cell? ⟨g,off+1,none⟩=some (.string y):=λz=>z.h.2;clear h hQ hd PV hx hv hrow EV NE K0 S hc uj hrs hcell hnum yZ Uh h2 hmr hm hrr hmi;go_enter Tryz.func49,Tryz.ntmps49;go_wp2_with fail;refine tq.out.mono ?_;rintro e w1 ⟨⟨v',rfl,hown⟩,K1⟩;obtain⟨pv,cv,rfl⟩:=uD hown;have a1:nN g off x y w1:=⟨(K1.cell (p:=⟨g,off,none⟩) hgl (λx=>x)).trans a0.1,(K1.cell (p:=⟨g,off+1,none⟩) hgl (λx=>x)).trans a0.2⟩
    clear hown tq;go_wp2_with fail;refine nO (nN g off x y) [(true,0),(true,2),(true,3),(true,4),(true,5),(true,6),(true,7),(true,9),(false,1),(false,8),(false,10),(false,11),(false,12)] (by kernel_rfl) (by kernel_rfl) (λc a d v w h=>by cases d<;>exact h) ?_;simp only[oQ,nR,aj,ak,au]
    repeat(refine nJ (λK hK=> ?_);go_simp;first|(refine⟨_,λ_=>rfl,hK _ ?_⟩;clear hK K;refine nH ?_)|(refine hK _ ?_;clear hK K;refine nH ?_))
    clear l1 l2;refine⟨a1,?_⟩;go_wp2_with fail;refine(BN.out _ (K1.nK (ah nM w1).drew)).mono ?_;rintro e w2 ⟨rfl,K2⟩;go_wp2_with fail;exact⟨rfl,rfl,HS.out _ ((K1.nK (ah nM w1).drew).nK K2)⟩
   | some p=>
    obtain⟨V,b⟩:=p;obtain⟨BB,k,rfl,hB,hk⟩:=sW h hb;have BO:Hid (∀w1,Keep nM W w1->ae 67 #[.pointer (some ⟨DD,0,none⟩)] w1 λe w'=>e= .returned (.pointer (some ⟨BB,0,none⟩))∧w'=w1):=ag (λw1 K=>sS (h.row.keep K (λx=>x)));have EVW:Hid (∀w1,Keep P W w1->ErrVar w1):=ag (λw1 K=>G.errs.keep (h.toN K) (λx=>x));generalize hR:(λe w'=>WM (uF st (x::y::([]:List af))).1 e∧Done w0 DD (kk+1) (uF st (x::y::([]:List af))).2 W Q w')=R;obtain⟨er,her⟩:∃er,er=(xY b (x,tagV y,zs)).1:=⟨_,rfl⟩
    have Qc:Hid (er=0->∀w1,pq w0 w1 P BB D C V st.dev st.n (xY b (x,tagV y,zs)).2 (k+1)∧Keep P W w1->∀ {w9},Keep nM w1 w9->R (.returned (.string QU)) w9):=ag (by
     intro h1 w1 ⟨hB1,K1⟩ w9 K9;rw[<-hR];have hd:uF st (x::y::([]:List af))=(.ok QU,{ st with base:=some (V,(xY b (x,tagV y,zs)).2) }):=by simp only[uF,hb,hv];rw[aP (her▸h1)]
     rw[hd];exact⟨rfl,rf.done hQ (Grow.refl _ _) (K1.nK K9) (h.step ⟨BB,k+1,rfl,hB1.oz K9,by omega⟩ (Grow.refl _ _) (K1.nK K9) rfl rfl (h.ok.Am hb _))⟩)
    have HBAD:Hid (er≠0->∀w1,pq w0 w1 P BB D C V st.dev st.n (xY b (x,tagV y,zs)).2 (k+1)∧Keep P W w1->∀ {w9},Keep nM w1 w9->R (.panicked [{ v:=ou er,recovered:=false }]) w9):=ag (by
     intro h1 w1 ⟨hB1,K1⟩ w9 K9;rw[<-hR];have hd:uF st (x::y::([]:List af))=(.error er,st):=by simp only[uF,hb,hv];rw[aB (her▸h1),<-her]
     have hsame:(xY b (x,tagV y,zs)).2=b:=Y4 (her▸h1);rw[hsame]at hB1;have hbody:uP w0 w9 P D C (.pointer (some ⟨BB,0,none⟩)) (kk+1) st.dev st.n st.base:=by rw[hb];exact⟨BB,k+1,rfl,hB1.oz K9,by omega⟩
     rw[hd];exact⟨rfl,rf.done hQ (Grow.refl _ _) (K1.nK K9) (h.step (st':=st) hbody (Grow.refl _ _) (K1.nK K9) rfl rfl (h.ok.mono (ik _)))⟩)
    have HM:Hid (∀w1,Keep nM W w1->∀(va:Value),Nums w1 va zs->ae 81 #[.pointer (some ⟨BB,0,none⟩),.agg #[.string x,.string (tagV y),va]] w1 λe w'=>e= .returned (errVal er)∧pq w0 w' P BB D C V st.dev st.n (xY b (x,tagV y,zs)).2 (k+1)∧Keep P w1 w'):=ag (λw1 K va N=>by have h5:=zjw (hB.oz K) (by omega) ⟨x,tagV y,va,zs⟩ N (by show zs.length<=1000000;omega);rw[show nZ ⟨x,tagV y,va,zs⟩=(x,tagV y,zs)from rfl,<-her]at h5;exact h5)
    obtain⟨tg,FC⟩:∃tg,tg=tagV y:=⟨_,rfl⟩
    have htr:(⟨(Lib.trimPrefix y.data.toList (⟨#[45]⟩:af).data.toList).toArray⟩:af)=tg:=FC.symm;rw[<-FC]at HM Qc HBAD;have l1:∀z:rE (nN g off x y),z.w.cell? ⟨g,off,none⟩=some (.string x):=λz=>z.h.1;have l2:∀z:rE (nN g off x y),z.w.cell? ⟨g,off+1,none⟩=some (.string y):=λz=>z.h.2;clear h hQ PV hx hv hB her hR HS FC EV NE K0 S hc uj hrs hcell hnum yZ Uh h2 hmr hm hmi hrr hzl;go_enter Tryz.func49,Tryz.ntmps49;go_wp2_with fail;refine tq.out.mono ?_;rintro e w1 ⟨⟨v',rfl,hown⟩,K1⟩;obtain⟨pv,cv,rfl⟩:=uD hown;have a1:nN g off x y w1:=⟨(K1.cell (p:=⟨g,off,none⟩) hgl (λx=>x)).trans a0.1,(K1.cell (p:=⟨g,off+1,none⟩) hgl (λx=>x)).trans a0.2⟩
    have Nn:Nums w1.drew (.slice pv ([]:List af).length cv) zs:=(yu (by rw[<-Hzl.out]at hown⊢;exact hown)).keep ((ah nM w1).drew) (λ_ _ x=>x);have WJ:=ag (HM.out _ (K1.nK (ah nM w1).drew) _ Nn);rw[show([]:List af).length=0 from rfl]at WJ;clear hown tq Nn HM;go_wp2_with fail;refine nO (nN g off x y) [(true,0),(true,2),(true,3),(true,4),(true,5),(true,6),(true,7),(true,9),(false,1),(false,8),(false,10),(false,11),(false,12)] (by kernel_rfl) (by kernel_rfl) (λc a d v w h=>by cases d<;>exact h) ?_;simp only[oQ,nR,aj,ak,au]
    repeat(refine nJ (λK hK=> ?_);go_simp;first|(refine⟨_,λ_=>rfl,hK _ ?_⟩;clear hK K;refine nH ?_)|(refine hK _ ?_;clear hK K;refine nH ?_))
    clear l1 l2;refine⟨a1,?_⟩;go_wp2_with fail;refine(BO.out _ (K1.nK (ah nM w1).drew)).mono ?_;rintro e w2 ⟨rfl,hw2⟩;subst w2;go_wp2_with fail
    repeat(refine nJ (λK hK=> ?_);go_simp;first|(refine⟨_,λ_=>rfl,hK _ ?_⟩;clear hK K;refine nH ?_)|(refine hK _ ?_;clear hK K;refine nH ?_))
    refine⟨a1,?_⟩;go_wp2_with fail;refine(Tryz.strings_TrimPrefix y ⟨#[45]⟩ _).mono ?_;rintro e w2 ⟨rfl,hw2⟩;subst w2;rw[htr];go_wp2_with fail
    repeat(refine nJ (λK hK=> ?_);go_simp;first|(refine⟨_,λ_=>rfl,hK _ ?_⟩;clear hK K;refine nH ?_)|(refine hK _ ?_;clear hK K;refine nH ?_))
    refine⟨a1,?_⟩;go_wp2_with fail
    repeat(refine nJ (λK hK=> ?_);go_simp;first|(refine⟨_,λ_=>rfl,hK _ ?_⟩;clear hK K;refine nH ?_)|(refine hK _ ?_;clear hK K;refine nH ?_))
    refine⟨a1,?_⟩;go_wp2_with fail;refine WJ.out.mono ?_;rintro e w3 ⟨rfl,hB3,K3⟩;have hg1:g<w1.drew.heap.size:=dA hgl K1.size;have a3:nN g off x y w3:=⟨(K3.cell (p:=⟨g,off,none⟩) hg1 Yj).trans a1.1,(K3.cell (p:=⟨g,off+1,none⟩) hg1 Yj).trans a1.2⟩
    have KW:=((K1.nK (ah nM w1).drew).vN (S:=P)).then K3;clear WJ;go_wp2_with fail
    repeat(refine nJ (λK hK=> ?_);go_simp;first|(refine⟨_,λ_=>rfl,hK _ ?_⟩;clear hK K;refine nH ?_)|(refine hK _ ?_;clear hK K;refine nH ?_))
    refine⟨a3,?_⟩;go_wp2_with fail;refine(zl er w3 (EVW.out _ (KW))).mono ?_;rintro e w9 ⟨he,K9⟩;by_cases h1:er=0
    ·rw[aP h1]at he;subst he;go_wp2_with fail;(try go_ret);exact Qc.out h1 _ ⟨hB3,KW⟩ K9
    ·rw[aB h1]at he;subst he;go_wp2_with fail;exact⟨rfl,HBAD.out h1 _ ⟨hB3,KW⟩ K9⟩
 ·skip
  obtain⟨s,hs⟩:∃s,s=c-2:=⟨_,rfl⟩
  have hci:(c:Int)-2=(s:Int):=by omega
  have hnum:=hnum s;have hc3:¬(2:Int)=c:=by omega
  have hc4:¬(c:Int)=2:=by omega
  have Hhs:=ag hs;have Hhr:=ag (show rr=m-2 by omega);have Hrr:=ag hrr;unfold IQ at hnum;cases hv:wV r with
  | none=>
   have hd:uF st (x::y::r)=(.error 3,st):=by simp only[uF,hv]
   rw[hd];rw[hv]at hnum;have tq:=ag hnum;show ae 49 #[.pointer (some ⟨DD,0,none⟩),.slice (some ⟨g,off,none⟩) m c] W λe w'=>e= .panicked [{ v:=ou 3,recovered:=false }]∧Done w0 DD (kk+1) st W Q w';clear h hQ hd PV hx hv EV NE K0 S hc uj hrs hcell hnum yZ Uh h2 hmr hs hm hrr;go_enter Tryz.func49,Tryz.ntmps49;go_wp2_with fail;rw[<-Hhr.out,<-Hhs.out];refine tq.out.mono ?_;rintro e w1 ⟨rfl,K1⟩;go_wp2_with fail;exact⟨rfl,rfl,HS.out _ K1⟩
  | some zs=>
   rw[hv]at hnum;have tq:=ag hnum;have hzl:=D5 r zs hv;have Hzl:=ag hzl;cases hb:st.base with
   | none=>
    have hd:uF st (x::y::r)=(.error 8,st):=by simp only[uF,hv,hb]
    rw[hd];show ae 49 #[.pointer (some ⟨DD,0,none⟩),.slice (some ⟨g,off,none⟩) m c] W λe w'=>e= .panicked [{ v:=ou 8,recovered:=false }]∧Done w0 DD (kk+1) st W Q w';have hrow:=h.row;rw[uK h hb]at hrow;have BN:Hid (∀w1,Keep nM W w1->ae 67 #[.pointer (some ⟨DD,0,none⟩)] w1 λe w'=>e= .panicked [{ v:=ou 8,recovered:=false }]∧Keep nM w1 w'):=ag (λw1 K=>qO (hrow.keep K (λx=>x)) (EV.keep K (λx=>x)));have l1:∀z:rE (nN g off x y),z.w.cell? ⟨g,off,none⟩=some (.string x):=λz=>z.h.1;have l2:∀z:rE (nN g off x y),z.w.cell? ⟨g,off+1,none⟩=some (.string y):=λz=>z.h.2;clear h hQ hd PV hx hv hrow EV NE K0 S hc uj hrs hcell hnum yZ Uh h2 hmr hs hm hrr;go_enter Tryz.func49,Tryz.ntmps49;go_wp2_with fail;rw[<-Hhr.out,<-Hhs.out];refine tq.out.mono ?_;rintro e w1 ⟨⟨v',rfl,hown⟩,K1⟩;obtain⟨pv,cv,rfl⟩:=uD hown;have a1:nN g off x y w1:=⟨(K1.cell (p:=⟨g,off,none⟩) hgl (λx=>x)).trans a0.1,(K1.cell (p:=⟨g,off+1,none⟩) hgl (λx=>x)).trans a0.2⟩
    clear hown tq;go_wp2_with fail;refine nO (nN g off x y) [(true,0),(true,2),(true,3),(true,4),(true,5),(true,6),(true,7),(true,9),(false,1),(false,8),(false,10),(false,11),(false,12)] (by kernel_rfl) (by kernel_rfl) (λc a d v w h=>by cases d<;>exact h) ?_;simp only[oQ,nR,aj,ak,au]
    repeat(refine nJ (λK hK=> ?_);go_simp;first|(refine⟨_,λ_=>rfl,hK _ ?_⟩;clear hK K;refine nH ?_)|(refine hK _ ?_;clear hK K;refine nH ?_))
    clear l1 l2;refine⟨a1,?_⟩;go_wp2_with fail;refine(BN.out _ (K1.nK (ah nM w1).drew)).mono ?_;rintro e w2 ⟨rfl,K2⟩;go_wp2_with fail;exact⟨rfl,rfl,HS.out _ ((K1.nK (ah nM w1).drew).nK K2)⟩
   | some p=>
    obtain⟨V,b⟩:=p;obtain⟨BB,k,rfl,hB,hk⟩:=sW h hb;have BO:Hid (∀w1,Keep nM W w1->ae 67 #[.pointer (some ⟨DD,0,none⟩)] w1 λe w'=>e= .returned (.pointer (some ⟨BB,0,none⟩))∧w'=w1):=ag (λw1 K=>sS (h.row.keep K (λx=>x)));have EVW:Hid (∀w1,Keep P W w1->ErrVar w1):=ag (λw1 K=>G.errs.keep (h.toN K) (λx=>x));generalize hR:(λe w'=>WM (uF st (x::y::r)).1 e∧Done w0 DD (kk+1) (uF st (x::y::r)).2 W Q w')=R;obtain⟨er,her⟩:∃er,er=(xY b (x,tagV y,zs)).1:=⟨_,rfl⟩
    have Qc:Hid (er=0->∀w1,pq w0 w1 P BB D C V st.dev st.n (xY b (x,tagV y,zs)).2 (k+1)∧Keep P W w1->∀ {w9},Keep nM w1 w9->R (.returned (.string QU)) w9):=ag (by
     intro h1 w1 ⟨hB1,K1⟩ w9 K9;rw[<-hR];have hd:uF st (x::y::r)=(.ok QU,{ st with base:=some (V,(xY b (x,tagV y,zs)).2) }):=by simp only[uF,hb,hv];rw[aP (her▸h1)]
     rw[hd];exact⟨rfl,rf.done hQ (Grow.refl _ _) (K1.nK K9) (h.step ⟨BB,k+1,rfl,hB1.oz K9,by omega⟩ (Grow.refl _ _) (K1.nK K9) rfl rfl (h.ok.Am hb _))⟩)
    have HBAD:Hid (er≠0->∀w1,pq w0 w1 P BB D C V st.dev st.n (xY b (x,tagV y,zs)).2 (k+1)∧Keep P W w1->∀ {w9},Keep nM w1 w9->R (.panicked [{ v:=ou er,recovered:=false }]) w9):=ag (by
     intro h1 w1 ⟨hB1,K1⟩ w9 K9;rw[<-hR];have hd:uF st (x::y::r)=(.error er,st):=by simp only[uF,hb,hv];rw[aB (her▸h1),<-her]
     have hsame:(xY b (x,tagV y,zs)).2=b:=Y4 (her▸h1);rw[hsame]at hB1;have hbody:uP w0 w9 P D C (.pointer (some ⟨BB,0,none⟩)) (kk+1) st.dev st.n st.base:=by rw[hb];exact⟨BB,k+1,rfl,hB1.oz K9,by omega⟩
     rw[hd];exact⟨rfl,rf.done hQ (Grow.refl _ _) (K1.nK K9) (h.step (st':=st) hbody (Grow.refl _ _) (K1.nK K9) rfl rfl (h.ok.mono (ik _)))⟩)
    have HM:Hid (∀w1,Keep nM W w1->∀(va:Value),Nums w1 va zs->ae 81 #[.pointer (some ⟨BB,0,none⟩),.agg #[.string x,.string (tagV y),va]] w1 λe w'=>e= .returned (errVal er)∧pq w0 w' P BB D C V st.dev st.n (xY b (x,tagV y,zs)).2 (k+1)∧Keep P w1 w'):=ag (λw1 K va N=>by have h5:=zjw (hB.oz K) (by omega) ⟨x,tagV y,va,zs⟩ N (by show zs.length<=1000000;omega);rw[show nZ ⟨x,tagV y,va,zs⟩=(x,tagV y,zs)from rfl,<-her]at h5;exact h5)
    obtain⟨tg,FC⟩:∃tg,tg=tagV y:=⟨_,rfl⟩
    have htr:(⟨(Lib.trimPrefix y.data.toList (⟨#[45]⟩:af).data.toList).toArray⟩:af)=tg:=FC.symm;rw[<-FC]at HM Qc HBAD;have l1:∀z:rE (nN g off x y),z.w.cell? ⟨g,off,none⟩=some (.string x):=λz=>z.h.1;have l2:∀z:rE (nN g off x y),z.w.cell? ⟨g,off+1,none⟩=some (.string y):=λz=>z.h.2;clear h hQ PV hx hv hB her hR HS FC EV NE K0 S hc uj hrs hcell hnum yZ Uh h2 hmr hs hm hrr hzl;go_enter Tryz.func49,Tryz.ntmps49;go_wp2_with fail;rw[<-Hhr.out,<-Hhs.out];refine tq.out.mono ?_;rintro e w1 ⟨⟨v',rfl,hown⟩,K1⟩;obtain⟨pv,cv,rfl⟩:=uD hown;have a1:nN g off x y w1:=⟨(K1.cell (p:=⟨g,off,none⟩) hgl (λx=>x)).trans a0.1,(K1.cell (p:=⟨g,off+1,none⟩) hgl (λx=>x)).trans a0.2⟩
    have Nn:Nums w1.drew (.slice pv r.length cv) zs:=(yu (by rw[<-Hzl.out]at hown⊢;exact hown)).keep ((ah nM w1).drew) (λ_ _ x=>x);have WJ:=ag (HM.out _ (K1.nK (ah nM w1).drew) _ Nn);rw[<-Hrr.out]at WJ⊢;clear hown tq Nn HM;go_wp2_with fail;refine nO (nN g off x y) [(true,0),(true,2),(true,3),(true,4),(true,5),(true,6),(true,7),(true,9),(false,1),(false,8),(false,10),(false,11),(false,12)] (by kernel_rfl) (by kernel_rfl) (λc a d v w h=>by cases d<;>exact h) ?_;simp only[oQ,nR,aj,ak,au]
    repeat(refine nJ (λK hK=> ?_);go_simp;first|(refine⟨_,λ_=>rfl,hK _ ?_⟩;clear hK K;refine nH ?_)|(refine hK _ ?_;clear hK K;refine nH ?_))
    clear l1 l2;refine⟨a1,?_⟩;go_wp2_with fail;refine(BO.out _ (K1.nK (ah nM w1).drew)).mono ?_;rintro e w2 ⟨rfl,hw2⟩;subst w2;go_wp2_with fail
    repeat(refine nJ (λK hK=> ?_);go_simp;first|(refine⟨_,λ_=>rfl,hK _ ?_⟩;clear hK K;refine nH ?_)|(refine hK _ ?_;clear hK K;refine nH ?_))
    refine⟨a1,?_⟩;go_wp2_with fail;refine(Tryz.strings_TrimPrefix y ⟨#[45]⟩ _).mono ?_;rintro e w2 ⟨rfl,hw2⟩;subst w2;rw[htr];go_wp2_with fail
    repeat(refine nJ (λK hK=> ?_);go_simp;first|(refine⟨_,λ_=>rfl,hK _ ?_⟩;clear hK K;refine nH ?_)|(refine hK _ ?_;clear hK K;refine nH ?_))
    refine⟨a1,?_⟩;go_wp2_with fail
    repeat(refine nJ (λK hK=> ?_);go_simp;first|(refine⟨_,λ_=>rfl,hK _ ?_⟩;clear hK K;refine nH ?_)|(refine hK _ ?_;clear hK K;refine nH ?_))
    refine⟨a1,?_⟩;go_wp2_with fail;refine WJ.out.mono ?_;rintro e w3 ⟨rfl,hB3,K3⟩;have hg1:g<w1.drew.heap.size:=dA hgl K1.size;have a3:nN g off x y w3:=⟨(K3.cell (p:=⟨g,off,none⟩) hg1 Yj).trans a1.1,(K3.cell (p:=⟨g,off+1,none⟩) hg1 Yj).trans a1.2⟩
    have KW:=((K1.nK (ah nM w1).drew).vN (S:=P)).then K3;clear WJ;go_wp2_with fail
    repeat(refine nJ (λK hK=> ?_);go_simp;first|(refine⟨_,λ_=>rfl,hK _ ?_⟩;clear hK K;refine nH ?_)|(refine hK _ ?_;clear hK K;refine nH ?_))
    refine⟨a3,?_⟩;go_wp2_with fail;refine(zl er w3 (EVW.out _ (KW))).mono ?_;rintro e w9 ⟨he,K9⟩;by_cases h1:er=0
    ·rw[aP h1]at he;subst he;go_wp2_with fail;(try go_ret);exact Qc.out h1 _ ⟨hB3,KW⟩ K9
    ·rw[aB h1]at he;subst he;go_wp2_with fail;exact⟨rfl,HBAD.out h1 _ ⟨hB3,KW⟩ K9⟩
end
section
variable {w0:World}{DD:Nat}
theorem JB:∀ns:List Int,(∀n∈ns,-10000<n∧n<10000)->(ns.flatMap λn=>(44:UInt8)::Lib.itoa n).length<=6*ns.length
 | [],_=>aF _
 | n::ns,h=>by rw[df,ay,aK,aK];have h1:=xE n (h n aY);have h2:=JB ns λm hm=>h m (aQ _ hm);omega
theorem zaq{x:pR}{nS:Int}(h:qM x nS=true):(Af x).length<=70:=by have h1:=Jw h;have h2:=JB x.2.2 (D6 h).ns;have h3:x.1.data.toList.length<=10:=h1.1;have h4:x.2.1.data.toList.length<=10:=h1.2.1;have h5:x.2.2.length<=8:=h1.2.2;unfold Af;simp only[ay,aK];omega
theorem Ff:∀(l:List pR) (nS:Int),(∀x∈l,qM x nS=true)->(l.flatMap Af).length<=70*l.length
 | [],_,_=>aF _
 | x::l,nS,h=>by rw[df,ay,aK];have h1:=zaq (h x aY);have h2:=Ff l nS λy hy=>h y (aQ _ hy);omega
theorem zeY(G:pM w0):Ul w0 DD 45 xR:=by
 intro W Q st kk rest q c hG hkk S hc uj hrs hsm hx;have Hsm:=ag hsm;clear hsm;have K0:=hG.keep;have EV:=G.errs.keep K0 (λx=>x);have PV:=G.items.pow.keep K0 (λx=>x);have NE:=G.items.errs.keep K0 (λx=>x) (λx=>x);have HS:Hid (∀w',Keep nM W w'->Done w0 DD (kk+1) st W Q w'):=ag (λw' K=>hG.same K);by_cases h0:rest.length=0;rotate_left
 ·have hd:xR st rest=(.error 3,st):=by
   rcases rest with _|⟨a,r⟩
   ·exact absurd rfl h0
   ·rfl
  rw[hd];have hw:=rO q rest.length c 0 h0 W EV;have Hw:=ag hw;obtain⟨m,hm⟩:∃m,m=rest.length:=⟨_,rfl⟩
  rw[<-hm]at Hw⊢;show ae 45 #[.pointer (some ⟨DD,0,none⟩),.slice q m c] W λe w'=>e= .panicked [{ v:=ou 3,recovered:=false }]∧Done w0 DD (kk+1) st W Q w';clear hw EV PV NE K0 hd S hG hm hx hc uj hrs h0;go_enter Tryz.func45,Tryz.ntmps45;go_wp2_with fail;refine Hw.out.mono ?_;rintro e w1 ⟨rfl,K1⟩;go_wp2_with fail;exact⟨rfl,rfl,HS.out _ K1⟩
 ·obtain rfl:=aU h0;obtain⟨P,D,C,bv,iv,h,hQ⟩:=hG;cases hb:st.base with
  | none=>
   have hd:xR st []=(.error 8,st):=by simp only[xR,hb]
   rw[hd];show ae 45 #[.pointer (some ⟨DD,0,none⟩),.slice q 0 c] W λe w'=>e= .panicked [{ v:=ou 8,recovered:=false }]∧Done w0 DD (kk+1) st W Q w';have hrow:=h.row;rw[uK h hb]at hrow;have BN:Hid (∀w1,Keep nM W w1->ae 67 #[.pointer (some ⟨DD,0,none⟩)] w1 λe w'=>e= .panicked [{ v:=ou 8,recovered:=false }]∧Keep nM w1 w'):=ag (λw1 K=>qO (hrow.keep K (λx=>x)) (EV.keep K (λx=>x)));clear h EV PV NE K0 hQ hd S hx hc uj hrs hrow;go_enter Tryz.func45,Tryz.ntmps45;go_wp2_with fail;refine(pz _ 0 c W).mono ?_;rintro e w1 ⟨rfl,hw1⟩;subst w1;go_wp2_with fail;refine(BN.out _ (ah _ _)).mono ?_;rintro e w1 ⟨rfl,K1⟩;go_wp2_with fail;exact⟨rfl,rfl,HS.out _ K1⟩
  | some p=>
   obtain⟨V,b⟩:=p;obtain⟨BB,k,rfl,hB,hk⟩:=sW h hb;have BO:Hid (∀w1,Keep nM W w1->ae 67 #[.pointer (some ⟨DD,0,none⟩)] w1 λe w'=>e= .returned (.pointer (some ⟨BB,0,none⟩))∧w'=w1):=ag (λw1 K=>sS (h.row.keep K (λx=>x)));have hd:xR st []=(.ok (Gy (o9 b.now)),st):=by simp only[xR,hb]
   rw[hd];show ae 45 #[.pointer (some ⟨DD,0,none⟩),.slice q 0 c] W λe w'=>e= .returned (.string (Gy (o9 b.now)))∧Done w0 DD (kk+1) st W Q w';have QA:=hB.ok;have hall:∀x∈o9 b.now,qM x b.nS=true:=λx hx=>by obtain⟨p,hp,rfl⟩:=bf.1 hx;exact(QA.now p hp).2
   have hlen:(o9 b.now).length<=60:=by rw[o9,aI];exact QA.len
   obtain⟨IL,hIL⟩:∃IL,IL=o9 b.now:=⟨_,rfl⟩
   have hit:=zi0 hB;rw[<-hIL]at hall hlen hit⊢;have Hit:=ag hit;have zaX:=ag hall;have Hlen:=ag hlen;have HPV:=ag PV;clear h EV PV NE K0 hQ hd S hx hc uj hrs hB QA hall hlen hIL hit;go_enter Tryz.func45,Tryz.ntmps45;go_wp2_with fail;refine(pz _ 0 c W).mono ?_;rintro e w1 ⟨rfl,hw1⟩;subst w1;go_wp2_with fail;refine(BO.out _ (ah _ _)).mono ?_;rintro e w1 ⟨rfl,hw1⟩;subst w1;go_wp2_with fail;refine Hit.out.mono ?_;rintro e w1 ⟨⟨v,l,rfl,hown,hl,hnr⟩,K1⟩;have I:=sQ.vN AY hown;obtain⟨pI,cI,rfl⟩:=I.len;obtain⟨n,hn⟩:∃n,n=l.length:=⟨_,rfl⟩
   rw[<-hn]at I⊢;have zml:n<=60:=by have:=Hlen.out;rw[<-hl,aI]at this;omega
   have zmy:∀x∈l,qM (nZ x) b.nS=true:=λx hx=>zaX.out _ (by rw[<-hl];exact List.mem_map_of_mem hx);have Hn:=ag hn;have HI:=ag I;have Hl:=ag hl;have Hnr:=ag hnr;have zns:=ag zmy;have BU:=ag K1;clear hn I hl hnr zmy hown K1 Hit;go_wp2_with fail
   go_loopw [5,16] (λsv iv wr=>∃(j:Nat) (s:af),j<=n∧iv= .int .i64 j∧sv= .string s∧Hid (s.data.toList= [105,116,101,109,115]++((l.take j).map nZ).flatMap Af)∧Hid (Keep nM w1 wr)) (λ_ iv _=>n-(intOf iv).toNat)
   case atStart=>exact⟨0,_,by omega,rfl,rfl,ag (by simp),ag (ah _ _)⟩
   case round=>
    obtain⟨j,s,hj,rfl,rfl,hs,K⟩:=hrel;obtain⟨wo,rfl⟩:∃wo,wo=wr:=⟨_,rfl⟩
    have hsz:s.size<=10000:=by
     have h1:s.size=s.data.toList.length:=rfl;rw[h1,hs.out,ay];have h2:=Ff ((l.take j).map nZ) b.nS (λx hx=>by obtain⟨y,hy,rfl⟩:=bf.1 hx;exact zns.out y (dH hy))
     rw[aI,bG]at h2;simp only[aK,bI];omega
    by_cases hlt:j<n
    ·have j1:(j:Int)<n:=by omega
     have Ir:=HI.out.keep K.out (λ_ _ x=>x);obtain⟨pb,off,rfl,-,hpb,hcell⟩:=Ir.at (by have:=Hn.out;omega);obtain⟨x,hx⟩:∃x,l[j]? =some x:=⟨_,aC (by have:=Hn.out;omega)⟩
     have hra:=hcell j x hx;have hxm:x∈l:=bg hx;have Nx:=(Hnr.out x hxm).1.keep K.out (λ_ _ x=>x);have c0:wo.cell? ⟨pb,off+j*3,none⟩=some (.string x.name):=hra 0 _ rfl;have c1:wo.cell? ⟨pb,off+j*3+1,none⟩=some (.string x.tag):=hra 1 _ rfl;have c2:wo.cell? ⟨pb,off+j*3+2,none⟩=some x.av:=hra 2 _ rfl;obtain⟨px,cx,hav⟩:=Nx.len;have hpi:=zns.out x hxm;have hsz3:=Jw hpi;have hib:=(D6 hpi).ns;rw[hav]at c2;obtain⟨nx,hnx⟩:∃nx,nx=x.ns.length:=⟨_,rfl⟩
     rw[<-hnx]at c2;have zoV:nx<=8:=by have h3:x.ns.length<=8:=hsz3.2.2;omega
     obtain⟨nm,hnm⟩:∃nm,nm=x.name:=⟨_,rfl⟩
     obtain⟨tg,FC⟩:∃tg,tg=x.tag:=⟨_,rfl⟩
     rw[<-hnm]at c0;rw[<-FC]at c1;have zmc:nm.size<=10:=by rw[hnm];exact hsz3.1
     have zmb:tg.size<=10:=by rw[FC];exact hsz3.2.1
     have hstep:((l.take (j+1)).map nZ).flatMap Af=((l.take j).map nZ).flatMap Af++(32::nm.data.toList++58::tg.data.toList++x.ns.flatMap λn=>44::Lib.itoa n):=by have hj2:=aN.1 hx;rw[aT hj2.1,hj2.2,di,cZ,hnm,FC];simp[Af,nZ]
     obtain⟨d1,hd1⟩:∃d:af,d=⟨#[32]⟩++nm:=⟨_,rfl⟩
     obtain⟨d2,hd2⟩:∃d:af,d=d1++⟨#[58]⟩:=⟨_,rfl⟩
     obtain⟨d3,hd3⟩:∃d:af,d=d2++tg:=⟨_,rfl⟩
     obtain⟨s1,hs1⟩:∃d:af,d=s++d3:=⟨_,rfl⟩
     have z1:d1.size=1+nm.size:=by rw[hd1,aX];rfl
     have z2:d2.size=d1.size+1:=by rw[hd2,aX];rfl
     have z3:d3.size=d2.size+tg.size:=by rw[hd3,aX]
     have z4:s1.size=s.size+d3.size:=by rw[hs1,aX]
     have f1:¬(9223372036854775807<(⟨#[32]⟩:af).size+nm.size):=by have:(⟨#[32]⟩:af).size=1:=rfl;omega
     have f2:¬(9223372036854775807<d1.size+(⟨#[58]⟩:af).size):=by have:(⟨#[58]⟩:af).size=1:=rfl;omega
     have f3:¬(9223372036854775807<d2.size+tg.size):=by omega
     have f4:¬(9223372036854775807<s.size+d3.size):=by omega
     have zmf:s1.data.toList=s.data.toList++(32::nm.data.toList++58::tg.data.toList):=by rw[hs1,hd3,hd2,hd1];simp
     have hs1z:s1.size<=10050:=by omega
     have zpx:=ag zmf;have Ve:=ag hstep;have HNx:=ag Nx;have MO:=ag hnx;have Hav:=ag hav;have Hib:=ag hib;have HK:=ag K.out;have Hs:=ag hs.out;have g1:=hd1.symm;have g2:=hd2.symm;have g3:=hd3.symm;have g4:=hs1.symm;clear zmf hstep Nx hnx hav hib K hs hd1 hd2 hd3 hs1 z1 z2 z3 z4 hx hra hcell hxm hpi hsz3 hnm FC Ir hsz zmc zmb;go_wp2_with fail;obtain⟨wX,Yc⟩:∃wX,wX=wo.alloc (.cells #[.string nm,.string tg,.slice px nx cx] 101):=⟨_,rfl⟩
     have KX:Keep nM wo wX:=by rw[Yc];exact(ah _ _).alloc _
     rw[<-Yc];have HKX:=ag (HK.out.nK KX);have HNX:=ag (HNx.out.keep KX (λ_ _ x=>x));clear Yc KX c0 c1 c2 f1 f2 f3 f4 g1 g2 g3 g4 HNx HK
     go_loopw [5,32] (λsv iv wr=>∃(k:Nat) (s2:af),k<=nx∧iv= .int .i64 k∧sv= .string s2∧Hid (s2.data.toList=s1.data.toList++(x.ns.take k).flatMap λn=>44::Lib.itoa n)∧Hid (Keep nM wX wr)) (λ_ iv _=>nx-(intOf iv).toNat)
     case atStart=>exact⟨0,_,by omega,rfl,rfl,ag (by simp),ag (ah _ _)⟩
     case round=>
      obtain⟨k,s2,hk,rfl,rfl,hs2,Kk⟩:=hrel;obtain⟨w5,rfl⟩:∃w5,w5=wr:=⟨_,rfl⟩
      have hs2z:s2.size<=10100:=by have h1:s2.size=s2.data.toList.length:=rfl;have h3:s1.size=s1.data.toList.length:=rfl;rw[h1,hs2.out,ay,<-h3];have h2:=JB (x.ns.take k) (λn hn=>Hib.out n (dH hn));rw[bG]at h2;omega
      by_cases hkn:k<nx
      ·have k1:(k:Int)<nx:=by omega
       have Nk:=HNX.out.keep Kk.out (λ_ _ x=>x);rw[Hav.out,<-MO.out]at Nk;obtain⟨bn,on,rfl,-,hbn,hcn⟩:=Nk.at (by have:=MO.out;omega);have cn:=hcn k (by have:=MO.out;omega);obtain⟨y,hy⟩:∃y,x.ns[k]? =some y:=⟨_,aC (by have:=MO.out;omega)⟩
       rw[ax,hy]at cn;have cn':w5.cell? ⟨bn,on+k,none⟩=some (.int .i64 y):=cn;have hyb:=Hib.out y (bg hy);have xZ:=uS y (by omega) (by omega) w5 (HPV.out.keep ((BU.out.nK HKX.out).nK Kk.out) (λx=>x));obtain⟨it,hit⟩:∃it:af,it=⟨(Lib.itoa y).toArray⟩:=⟨_,rfl⟩
       rw[<-hit]at xZ;have Du:it.data.toList=Lib.itoa y:=by rw[hit]
       have hits:it.size<=5:=by have:=xE y hyb;rw[<-Du]at this;exact this
       have htk:(x.ns.take (k+1)).flatMap (λn=>(44:UInt8)::Lib.itoa n)=(x.ns.take k).flatMap (λn=>(44:UInt8)::Lib.itoa n)++44::it.data.toList:=by have hkl:=aN.1 hy;rw[aT hkl.1,hkl.2,cZ,Du];simp
       obtain⟨d4,hd4⟩:∃d:af,d=⟨#[44]⟩++it:=⟨_,rfl⟩
       have z5:d4.size=1+it.size:=by rw[hd4,aX];rfl
       have f5:¬(9223372036854775807<(⟨#[44]⟩:af).size+it.size):=by have:(⟨#[44]⟩:af).size=1:=rfl;omega
       have f6:¬(9223372036854775807<s2.size+d4.size):=by omega
       have hfin:(s2++d4).data.toList=s1.data.toList++(x.ns.take (k+1)).flatMap λn=>44::Lib.itoa n:=by rw[htk,hd4];simp[hs2.out]
       have Ej:=ag xZ;have yH:=ag hfin;have g5:=hd4.symm;clear cn hcn hy xZ hit Du htk Nk hd4 z5 hfin hs2;go_wp2_with fail;refine Ej.out.mono ?_;rintro e w6 ⟨rfl,K6⟩;go_wp2_with fail;exact⟨⟨k+1,s2++d4,by omega,by go_num,rfl,yH,ag (Kk.out.nK K6)⟩,by simp[intOf];omega⟩
      ·obtain rfl:k=nx:=by omega
       have k1:¬(k:Int)<k:=by omega
       have hfull:s2.data.toList= [105,116,101,109,115]++((l.take (j+1)).map nZ).flatMap Af:=by rw[hs2.out,aV (by rw[<-MO.out];exact aF _),zpx.out,Hs.out,Ve.out];simp
       have QQ:=ag hfull;clear hfull hs2;go_wp2_with fail;exact⟨⟨j+1,s2,by omega,by go_num,rfl,QQ,ag (HKX.out.nK Kk.out)⟩,by simp[intOf];omega⟩
    ·obtain rfl:j=n:=by omega
     have j1:¬(j:Int)<j:=by omega
     have hfull:s=Gy IL:=by apply iD;apply gU.1;rw[hs.out,aV (by rw[<-Hn.out];exact aF _),Hl.out,Gy]
     have QQ:=ag hfull;clear hfull hs;go_wp2_with fail;go_ret;exact⟨by rw[QQ.out];rfl,HS.out _ (BU.out.nK K.out)⟩
end
section
variable {w0:World}{DD:Nat}
def FoC(X:Nat)(fn:af)(ff:Int)(W:World):Prop:=W.cell? ⟨X,0,none⟩=some (.string fn)∧W.cell? ⟨X,1,none⟩=some (.int .i64 ff)
theorem Vq(y:af):(tagV y).size<=y.size:=by
 show(Lib.trimPrefix y.data.toList [45]).length<=y.data.toList.length;unfold Lib.trimPrefix;split
 ·rw[gV];omega
 ·exact aF _
theorem EY:∀F:List rU,(∀f∈F,f.1.size<=10∧-9223372036854775808<=f.2∧f.2<=9223372036854775807)->(F.flatMap ui).length<=33*F.length
 | [],_=>aF _
 | f::F,h=>by
  rw[df,ay,aK];have h1:=h f aY;have h2:=EY F λm hm=>h m (aQ _ hm);have h3:=Lib.itoa_length_le f.2 h1.2.1 h1.2.2;have h4:f.1.data.toList.length<=10:=h1.1;have h5:(ui f).length=f.1.data.toList.length+(Lib.itoa f.2).length+2:=by unfold ui;simp only[ay,aK];omega
  omega
theorem Tu:∀(l:List (Int×Int)) (n:Int),-9223372036854775808<=n∧n<=9223372036854775807→-9223372036854775808<=zaT l n∧zaT l n<=9223372036854775807
 | [],n,h=>h
 | p::l,n,h=>Tu l _ (by unfold BH;simp only[wrap64];omega)
theorem Nu{b:oZ}(h:Ed b){zs:List Int}{k:Int}{tg:af} :(FH (o9 b.now) zs k tg).length<=60∧∀f∈FH (o9 b.now) zs k tg,f.1.size<=10∧-9223372036854775808<=f.2∧f.2<=9223372036854775807:=by
 unfold FH;constructor
 ·rw[bG,sU,kz,aI];have h1:=iq (zcw tg) (o9 b.now);have h2:(o9 b.now).length<=60:=by rw[o9,aI];exact h.len
  omega
 ·intro f hf;have hf2:=(gp _ _).mem_iff.1 (dH hf);obtain⟨x,hx,rfl⟩:=bf.1 hf2;obtain⟨p,hp,rfl⟩:=bf.1 (fJ.1 hx).1;refine⟨?_,Tu _ 0 (by decide)⟩;have h1:=(h.now p hp).2;simp only[qM,aZ]at h1;exact CP h1.1.1.1.1.1
theorem zhS(G:pM w0):Ul w0 DD 41 qH:=by
 intro W Q st kk rest q c hG hkk S hc uj hrs hsm hx;have Hsm:=ag hsm;clear hsm;have K0:=hG.keep;have EV:=G.errs.keep K0 (λx=>x);have PV:=G.items.pow.keep K0 (λx=>x);have NE:=G.items.errs.keep K0 (λx=>x) (λx=>x);have HS:Hid (∀w',Keep nM W w'->Done w0 DD (kk+1) st W Q w'):=ag (λw' K=>hG.same K);by_cases h2:rest.length<2
 ·have hd:qH st rest=(.error 3,st):=by
   rcases rest with _|⟨a,_|⟨b,r⟩⟩
   ·rfl
   ·rfl
   ·simp only[aK]at h2;omega
  rw[hd];obtain⟨m,hm⟩:∃m,m=rest.length:=⟨_,rfl⟩
  rw[<-hm]at h2⊢;show ae 41 #[.pointer (some ⟨DD,0,none⟩),.slice q m c] W λe w'=>e= .panicked [{ v:=ou 3,recovered:=false }]∧Done w0 DD (kk+1) st W Q w';have j:(m:Int)<2:=by omega
  have Hm:=ag (sZ 3 W EV);clear EV PV NE K0 hd S hG hm hx hc uj hrs h2;go_enter Tryz.func41,Tryz.ntmps41;go_wp2_with fail;refine Hm.out.mono ?_;rintro e w1 ⟨rfl,K1⟩;go_wp2_with fail;exact⟨rfl,rfl,HS.out _ K1⟩
 obtain⟨x,y,r,rfl⟩:∃x y r,rest=x::y::r:=by
  rcases rest with _|⟨a,_|⟨b,r⟩⟩
  ·exact absurd (show([]:List af).length<2 by decide) h2
  ·exact absurd (show [a].length<2 from kS 1) h2
  ·exact⟨_,_,_,rfl⟩
 have hG0:=hG;obtain⟨P,D,C,bv,iv,h,hQ⟩:=hG;obtain⟨m,hm⟩:∃m,m=(x::y::r).length:=⟨_,rfl⟩
 rw[<-hm]at S hc uj hx⊢;have hmr:m=r.length+2:=by rw[hm];simp
 obtain⟨g,off,rfl,hgl,hcell⟩:=zf S hm (by omega);have a0:nN g off x y W:=⟨hcell 0 (by omega),hcell 1 (by omega)⟩
 have Yj:¬P g:=λhp=>hx g rfl ((hQ g).2 (.inl hp));have hx6:x.size<=20000:=hrs x (by simp);have hy6:y.size<=20000:=hrs y (by simp);have Uh:∀s∈r,s.size<=1000000:=λs hs=>by have:=hrs s (by simp[hs]);omega
 obtain⟨rr,hrr⟩:∃k,k=r.length:=⟨_,rfl⟩
 have hmi:(m:Int)-2=(rr:Int):=by omega
 have hnum:=λc2 w1 (K:Keep nM W w1)=>Iu (c:=c2) (w:=w1) r hrr (by omega) ((RX (off:=off) (g:=g) (a:=x) (b:=y) hrr hgl (λi hi=>hcell i (by omega)) c2).keep K (λ_ _ x=>x)) Uh (PV.keep K (λx=>x)) (NE.keep K (λx=>x) (λx=>x)) (EV.keep K (λx=>x));have yZ:c=2->∀w1,Keep nM W w1->ae 73 #[.slice (some ⟨g,off,none⟩) 0 0] w1 λe w'=>IQ w1 w' r e∧Keep nM w1 w':=λhc2 w1 K=>Iu r (by omega) (by omega) (.inl ⟨aU (by omega),_,_,rfl⟩) Uh (PV.keep K (λx=>x)) (NE.keep K (λx=>x) (λx=>x)) (EV.keep K (λx=>x));have hm0:(0:Int)<m:=by omega
 have hn0:0<m:=by omega
 have hn1:1<m:=by omega
 have hm1:(1:Int)<m:=by omega
 have hmm:¬(m:Int)<2:=by omega
 have zoY:(2:Int)<=m:=by omega
 have ha:=λw1 (K:Keep nM W w1)=>CB x (by omega) w1 (PV.keep K (λx=>x)) (NE.keep K (λx=>x) (λx=>x)) (EV.keep K (λx=>x));simp only[JK]at ha;by_cases hc2:c=2
 ·obtain rfl:r= []:=aU (by omega);have hm2:m=2:=by omega
  have hr0:rr=0:=hrr;subst hr0;have hnum:=yZ hc2;subst hc2;subst hm2;unfold IQ at hnum;cases hva:yg x with
  | none=>
   have hd:qH st (x::y::([]:List af))=(.error 3,st):=by simp only[qH,hva]
   rw[hd];rw[hva]at ha;have Ha:=ag ha;show ae 41 #[.pointer (some ⟨DD,0,none⟩),.slice (some ⟨g,off,none⟩) 2 2] W λe w'=>e= .panicked [{ v:=ou 3,recovered:=false }]∧Done w0 DD (kk+1) st W Q w';have l1:∀z:rE (nN g off x y),z.w.cell? ⟨g,off,none⟩=some (.string x):=λz=>z.h.1;have l2:∀z:rE (nN g off x y),z.w.cell? ⟨g,off+1,none⟩=some (.string y):=λz=>z.h.2;clear h hQ hd PV hx hva ha EV NE K0 S hc uj hrs hcell hnum yZ Uh h2 hmr hm hrr hmi;go_enter Tryz.func41,Tryz.ntmps41;go_wp2_with fail;refine nO (nN g off x y) [(true,0),(true,1),(true,2),(true,4),(true,5),(false,3),(false,6),(true,7),(false,8)] (by kernel_rfl) (by kernel_rfl) (λc a d v w h=>by cases d<;>exact h) ?_;simp only[oQ,nR,aj,ak,au]
   repeat(refine nJ (λK hK=> ?_);go_simp;first|(refine⟨_,λ_=>rfl,hK _ ?_⟩;clear hK K;refine nH ?_)|(refine hK _ ?_;clear hK K;refine nH ?_))
   clear l1 l2;refine⟨a0,?_⟩;go_wp2_with fail;refine(Ha.out _ (ah nM W).drew).mono ?_;rintro e w1 ⟨rfl,K1⟩;go_wp2_with fail;exact⟨rfl,rfl,HS.out _ ((ah nM W).drew.nK K1)⟩
  | some ka=>
   rw[hva]at ha;have Ha:=ag ha;cases hv:wV ([]:List af)with
   | none=>
    have hd:qH st (x::y::([]:List af))=(.error 3,st):=by simp only[qH,hva,hv]
    rw[hd];rw[hv]at hnum;have tq:=ag hnum;show ae 41 #[.pointer (some ⟨DD,0,none⟩),.slice (some ⟨g,off,none⟩) 2 2] W λe w'=>e= .panicked [{ v:=ou 3,recovered:=false }]∧Done w0 DD (kk+1) st W Q w';have l1:∀z:rE (nN g off x y),z.w.cell? ⟨g,off,none⟩=some (.string x):=λz=>z.h.1;have l2:∀z:rE (nN g off x y),z.w.cell? ⟨g,off+1,none⟩=some (.string y):=λz=>z.h.2;clear h hQ hd PV hx hva hv ha EV NE K0 S hc uj hrs hcell hnum yZ Uh h2 hmr hm hrr hmi;go_enter Tryz.func41,Tryz.ntmps41;go_wp2_with fail;refine nO (nN g off x y) [(true,0),(true,1),(true,2),(true,4),(true,5),(false,3),(false,6),(true,7),(false,8)] (by kernel_rfl) (by kernel_rfl) (λc a d v w h=>by cases d<;>exact h) ?_;simp only[oQ,nR,aj,ak,au]
    repeat(refine nJ (λK hK=> ?_);go_simp;first|(refine⟨_,λ_=>rfl,hK _ ?_⟩;clear hK K;refine nH ?_)|(refine hK _ ?_;clear hK K;refine nH ?_))
    clear l1 l2;refine⟨a0,?_⟩;go_wp2_with fail;refine(Ha.out _ (ah nM W).drew).mono ?_;rintro e w1 ⟨rfl,K1⟩;have KA:=(ah nM W).drew.nK K1;have a1:nN g off x y w1:=⟨(KA.cell (p:=⟨g,off,none⟩) hgl (λx=>x)).trans a0.1,(KA.cell (p:=⟨g,off+1,none⟩) hgl (λx=>x)).trans a0.2⟩
    clear Ha;go_wp2_with fail;refine⟨a1,?_⟩;go_wp2_with fail;refine(tq.out _ KA).mono ?_;rintro e w2 ⟨rfl,K2⟩;go_wp2_with fail;exact⟨rfl,rfl,HS.out _ (KA.nK K2)⟩
   | some zs=>
    rw[hv]at hnum;have tq:=ag hnum;have hzl:=D5 ([]:List af) zs hv;have Hzl:=ag hzl;cases hb:st.base with
    | none=>
     have hd:qH st (x::y::([]:List af))=(.error 8,st):=by simp only[qH,hva,hv,hb]
     rw[hd];show ae 41 #[.pointer (some ⟨DD,0,none⟩),.slice (some ⟨g,off,none⟩) 2 2] W λe w'=>e= .panicked [{ v:=ou 8,recovered:=false }]∧Done w0 DD (kk+1) st W Q w';have hrow:=h.row;rw[uK h hb]at hrow;have BN:Hid (∀w1,Keep nM W w1->ae 67 #[.pointer (some ⟨DD,0,none⟩)] w1 λe w'=>e= .panicked [{ v:=ou 8,recovered:=false }]∧Keep nM w1 w'):=ag (λw1 K=>qO (hrow.keep K (λx=>x)) (EV.keep K (λx=>x)));have l1:∀z:rE (nN g off x y),z.w.cell? ⟨g,off,none⟩=some (.string x):=λz=>z.h.1;have l2:∀z:rE (nN g off x y),z.w.cell? ⟨g,off+1,none⟩=some (.string y):=λz=>z.h.2;clear h hQ hd PV hx hva hv ha hrow EV NE K0 S hc uj hrs hcell hnum yZ Uh h2 hmr hm hrr hmi;go_enter Tryz.func41,Tryz.ntmps41;go_wp2_with fail;refine nO (nN g off x y) [(true,0),(true,1),(true,2),(true,4),(true,5),(false,3),(false,6),(true,7),(false,8)] (by kernel_rfl) (by kernel_rfl) (λc a d v w h=>by cases d<;>exact h) ?_;simp only[oQ,nR,aj,ak,au]
     repeat(refine nJ (λK hK=> ?_);go_simp;first|(refine⟨_,λ_=>rfl,hK _ ?_⟩;clear hK K;refine nH ?_)|(refine hK _ ?_;clear hK K;refine nH ?_))
     clear l1 l2;refine⟨a0,?_⟩;go_wp2_with fail;refine(Ha.out _ (ah nM W).drew).mono ?_;rintro e w1 ⟨rfl,K1⟩;have KA:=(ah nM W).drew.nK K1;have a1:nN g off x y w1:=⟨(KA.cell (p:=⟨g,off,none⟩) hgl (λx=>x)).trans a0.1,(KA.cell (p:=⟨g,off+1,none⟩) hgl (λx=>x)).trans a0.2⟩
     clear Ha;go_wp2_with fail;refine⟨a1,?_⟩;go_wp2_with fail;refine(tq.out _ KA).mono ?_;rintro e w2 ⟨⟨v',rfl,hown⟩,K2⟩;obtain⟨pv,cv,rfl⟩:=uD hown;have KB:=KA.nK K2;have a2:nN g off x y w2:=⟨(KB.cell (p:=⟨g,off,none⟩) hgl (λx=>x)).trans a0.1,(KB.cell (p:=⟨g,off+1,none⟩) hgl (λx=>x)).trans a0.2⟩
     have MX:=ag hown;clear hown tq a1;go_wp2_with fail
     repeat(refine nJ (λK hK=> ?_);go_simp;first|(refine⟨_,λ_=>rfl,hK _ ?_⟩;clear hK K;refine nH ?_)|(refine hK _ ?_;clear hK K;refine nH ?_))
     refine⟨a2,?_⟩;go_wp2_with fail;have l1:∀z:rE (nN g off x y),z.w.cell? ⟨g,off,none⟩=some (.string x):=λz=>z.h.1;have l2:∀z:rE (nN g off x y),z.w.cell? ⟨g,off+1,none⟩=some (.string y):=λz=>z.h.2;refine nO (nN g off x y) [(true,0),(true,2),(true,3),(true,4),(true,5),(true,6),(false,1),(false,7),(false,8),(true,9),(true,10),(true,11),(true,12),(true,13),(true,14),(false,15)] (by kernel_rfl) (by kernel_rfl) (λc a d v w h=>by cases d<;>exact h) ?_;simp only[oQ,nR,aj,ak,au]
     repeat(refine nJ (λK hK=> ?_);go_simp;first|(refine⟨_,λ_=>rfl,hK _ ?_⟩;clear hK K;refine nH ?_)|(refine hK _ ?_;clear hK K;refine nH ?_))
     clear l1 l2;refine⟨a2,?_⟩;go_wp2_with fail;have KC:=KB.nK (ah nM w2).drew;refine(BN.out _ KC).mono ?_;rintro e w3 ⟨rfl,K3⟩;go_wp2_with fail;exact⟨rfl,rfl,HS.out _ (KC.nK K3)⟩
    | some p=>
     obtain⟨V,b⟩:=p;obtain⟨BB,k,rfl,hB,hk⟩:=sW h hb;have BO:Hid (∀w1,Keep nM W w1->ae 67 #[.pointer (some ⟨DD,0,none⟩)] w1 λe w'=>e= .returned (.pointer (some ⟨BB,0,none⟩))∧w'=w1):=ag (λw1 K=>sS (h.row.keep K (λx=>x)));obtain⟨tg,FC⟩:∃tg,tg=tagV y:=⟨_,rfl⟩
     have htr:(⟨(Lib.trimPrefix y.data.toList (⟨#[45]⟩:af).data.toList).toArray⟩:af)=tg:=FC.symm;have zfn:tg.size<=20000:=by rw[FC];exact bH (Vq y) hy6
     have HF:Hid (∀w1,Keep nM W w1->∀va,Nums w1 va zs->ae 74 #[.pointer (some ⟨BB,0,none⟩),va,.int .i64 ka,.string tg] w1 λe w'=>tJ w1 w' b.nS (o9 b.now) zs ka tg e∧Keep nM w1 w'):=ag (λw1 K va N=>zgg (hB.oz K) N (by omega) ka tg (by omega));have QA:=hB.ok;by_cases hz:b.nS=0∨DN b.nS zs ka=false
     ·obtain⟨er,zkO,zfs,hFS⟩:∃er:Int,er≠0∧qH st (x::y::([]:List af))=(.error er,st)∧∀w1 w' e,tJ w1 w' b.nS (o9 b.now) zs ka tg e->e= .returned (.tuple #[.slice none 0 0,.int .i64 0,errVal er]):=by
       by_cases hd0:b.nS=0
       ·exact⟨6,by decide,by simp only[qH,hva,hv,hb];rw[aP hd0],λw1 w' e hs=>by unfold tJ at hs;rwa [aP hd0]at hs⟩
       ·have hak:=hz.resolve_left hd0;exact⟨1,by decide,by simp only[qH,hva,hv,hb];rw[aB hd0,aP hak],λw1 w' e hs=>by unfold tJ at hs;rwa [aB hd0,aP hak]at hs⟩
      rw[zfs];show ae 41 #[.pointer (some ⟨DD,0,none⟩),.slice (some ⟨g,off,none⟩) 2 2] W λe w'=>e= .panicked [{ v:=ou er,recovered:=false }]∧Done w0 DD (kk+1) st W Q w';have HEV:Hid (∀w1,Keep nM W w1->ErrVar w1):=ag (λw1 K=>EV.keep K (λx=>x));have HFS:=ag hFS;have l1:∀z:rE (nN g off x y),z.w.cell? ⟨g,off,none⟩=some (.string x):=λz=>z.h.1;have l2:∀z:rE (nN g off x y),z.w.cell? ⟨g,off+1,none⟩=some (.string y):=λz=>z.h.2;clear h hQ PV hx hva hv ha hB QA FC hz zfs hFS zfn EV NE K0 S hc uj hrs hcell hnum yZ Uh h2 hmr hm hrr hmi;go_enter Tryz.func41,Tryz.ntmps41;go_wp2_with fail;refine nO (nN g off x y) [(true,0),(true,1),(true,2),(true,4),(true,5),(false,3),(false,6),(true,7),(false,8)] (by kernel_rfl) (by kernel_rfl) (λc a d v w h=>by cases d<;>exact h) ?_;simp only[oQ,nR,aj,ak,au]
      repeat(refine nJ (λK hK=> ?_);go_simp;first|(refine⟨_,λ_=>rfl,hK _ ?_⟩;clear hK K;refine nH ?_)|(refine hK _ ?_;clear hK K;refine nH ?_))
      clear l1 l2;refine⟨a0,?_⟩;go_wp2_with fail;refine(Ha.out _ (ah nM W).drew).mono ?_;rintro e w1 ⟨rfl,K1⟩;have KA:=(ah nM W).drew.nK K1;have a1:nN g off x y w1:=⟨(KA.cell (p:=⟨g,off,none⟩) hgl (λx=>x)).trans a0.1,(KA.cell (p:=⟨g,off+1,none⟩) hgl (λx=>x)).trans a0.2⟩
      clear Ha;go_wp2_with fail;refine⟨a1,?_⟩;go_wp2_with fail;refine(tq.out _ KA).mono ?_;rintro e w2 ⟨⟨v',rfl,hown⟩,K2⟩;obtain⟨pv,cv,rfl⟩:=uD hown;have KB:=KA.nK K2;have a2:nN g off x y w2:=⟨(KB.cell (p:=⟨g,off,none⟩) hgl (λx=>x)).trans a0.1,(KB.cell (p:=⟨g,off+1,none⟩) hgl (λx=>x)).trans a0.2⟩
      have MX:=ag hown;clear hown tq a1;go_wp2_with fail
      repeat(refine nJ (λK hK=> ?_);go_simp;first|(refine⟨_,λ_=>rfl,hK _ ?_⟩;clear hK K;refine nH ?_)|(refine hK _ ?_;clear hK K;refine nH ?_))
      refine⟨a2,?_⟩;go_wp2_with fail;have l1:∀z:rE (nN g off x y),z.w.cell? ⟨g,off,none⟩=some (.string x):=λz=>z.h.1;have l2:∀z:rE (nN g off x y),z.w.cell? ⟨g,off+1,none⟩=some (.string y):=λz=>z.h.2;refine nO (nN g off x y) [(true,0),(true,2),(true,3),(true,4),(true,5),(true,6),(false,1),(false,7),(false,8),(true,9),(true,10),(true,11),(true,12),(true,13),(true,14),(false,15)] (by kernel_rfl) (by kernel_rfl) (λc a d v w h=>by cases d<;>exact h) ?_;simp only[oQ,nR,aj,ak,au]
      repeat(refine nJ (λK hK=> ?_);go_simp;first|(refine⟨_,λ_=>rfl,hK _ ?_⟩;clear hK K;refine nH ?_)|(refine hK _ ?_;clear hK K;refine nH ?_))
      clear l1 l2;refine⟨a2,?_⟩;go_wp2_with fail;have KC:=KB.nK (ah nM w2).drew;have Nn:Nums w2.drew (.slice pv ([]:List af).length cv) zs:=(yu (by have h5:=MX.out;rw[<-Hzl.out]at h5⊢;exact h5)).keep ((ah nM w2).drew) (λ_ _ x=>x);have Hfd:=ag (HF.out _ KC _ Nn);clear Nn HF;refine(BO.out _ KC).mono ?_;rintro e w3 ⟨rfl,hw3⟩;subst w3;go_wp2_with fail
      repeat(refine nJ (λK hK=> ?_);go_simp;first|(refine⟨_,λ_=>rfl,hK _ ?_⟩;clear hK K;refine nH ?_)|(refine hK _ ?_;clear hK K;refine nH ?_))
      refine⟨a2,?_⟩;go_wp2_with fail;refine(Tryz.strings_TrimPrefix y ⟨#[45]⟩ _).mono ?_;rintro e w3 ⟨rfl,hw3⟩;subst w3;rw[htr];go_wp2_with fail
      repeat(refine nJ (λK hK=> ?_);go_simp;first|(refine⟨_,λ_=>rfl,hK _ ?_⟩;clear hK K;refine nH ?_)|(refine hK _ ?_;clear hK K;refine nH ?_))
      refine⟨a2,?_⟩;go_wp2_with fail;refine Hfd.out.mono ?_;rintro e w3 ⟨hfs,K3⟩;have he:=HFS.out _ _ _ hfs;subst he;have KD:=KC.nK K3;have a3:nN g off x y w3:=⟨(KD.cell (p:=⟨g,off,none⟩) hgl (λx=>x)).trans a0.1,(KD.cell (p:=⟨g,off+1,none⟩) hgl (λx=>x)).trans a0.2⟩
      clear hfs Hfd;go_wp2_with fail
      repeat(refine nJ (λK hK=> ?_);go_simp;first|(refine⟨_,λ_=>rfl,hK _ ?_⟩;clear hK K;refine nH ?_)|(refine hK _ ?_;clear hK K;refine nH ?_))
      refine⟨a3,?_⟩;go_wp2_with fail;refine(zl er w3 (HEV.out _ KD)).mono ?_;rintro e w4 ⟨he,K4⟩;rw[aB zkO]at he;subst he;go_wp2_with fail;exact⟨rfl,rfl,HS.out _ (KD.nK K4)⟩
     ·have hd0:¬b.nS=0:=λe=>hz (.inl e);have hak:¬DN b.nS zs ka=false:=λe=>hz (.inr e);have hd:qH st (x::y::([]:List af))=(.ok (wZ (FH (o9 b.now) zs ka tg)),st):=by simp only[qH,hva,hv,hb];rw[aB hd0,aB hak,FC]
      rw[hd];obtain⟨F,hF⟩:∃F,F=FH (o9 b.now) zs ka tg:=⟨_,rfl⟩
      have hFb:F.length<=60∧∀f∈F,f.1.size<=10∧-9223372036854775808<=f.2∧f.2<=9223372036854775807:=by rw[hF];exact Nu QA
      have hFS:∀w1 w' e,tJ w1 w' b.nS (o9 b.now) zs ka tg e->∃(v':Value) (looked:Nat),e= .returned (.tuple #[v',.int .i64 looked,.nilIface])∧sQ w' v' 2 yG F:=λw1 w' e hs=>by unfold tJ at hs;rw[aB hd0,aB hak]at hs;obtain⟨v',lk,h1,h2,_⟩:=hs;exact⟨v',lk,h1,by rw[hF];exact h2⟩
      rw[<-hF];show ae 41 #[.pointer (some ⟨DD,0,none⟩),.slice (some ⟨g,off,none⟩) 2 2] W λe w'=>e= .returned (.string (wZ F))∧Done w0 DD (kk+1) st W Q w';have HFS:=ag hFS;have HFb:=ag hFb;have HPV:=ag PV;have l1:∀z:rE (nN g off x y),z.w.cell? ⟨g,off,none⟩=some (.string x):=λz=>z.h.1;have l2:∀z:rE (nN g off x y),z.w.cell? ⟨g,off+1,none⟩=some (.string y):=λz=>z.h.2;clear h hQ PV hx hva hv ha hB QA FC hz hd hF hFb hFS hd0 hak zfn EV NE K0 S hc uj hrs hcell hnum yZ Uh h2 hmr hm hrr hmi;go_enter Tryz.func41,Tryz.ntmps41;go_wp2_with fail;refine nO (nN g off x y) [(true,0),(true,1),(true,2),(true,4),(true,5),(false,3),(false,6),(true,7),(false,8)] (by kernel_rfl) (by kernel_rfl) (λc a d v w h=>by cases d<;>exact h) ?_;simp only[oQ,nR,aj,ak,au]
      repeat(refine nJ (λK hK=> ?_);go_simp;first|(refine⟨_,λ_=>rfl,hK _ ?_⟩;clear hK K;refine nH ?_)|(refine hK _ ?_;clear hK K;refine nH ?_))
      clear l1 l2;refine⟨a0,?_⟩;go_wp2_with fail;refine(Ha.out _ (ah nM W).drew).mono ?_;rintro e w1 ⟨rfl,K1⟩;have KA:=(ah nM W).drew.nK K1;have a1:nN g off x y w1:=⟨(KA.cell (p:=⟨g,off,none⟩) hgl (λx=>x)).trans a0.1,(KA.cell (p:=⟨g,off+1,none⟩) hgl (λx=>x)).trans a0.2⟩
      clear Ha;go_wp2_with fail;refine⟨a1,?_⟩;go_wp2_with fail;refine(tq.out _ KA).mono ?_;rintro e w2 ⟨⟨v',rfl,hown⟩,K2⟩;obtain⟨pv,cv,rfl⟩:=uD hown;have KB:=KA.nK K2;have a2:nN g off x y w2:=⟨(KB.cell (p:=⟨g,off,none⟩) hgl (λx=>x)).trans a0.1,(KB.cell (p:=⟨g,off+1,none⟩) hgl (λx=>x)).trans a0.2⟩
      have MX:=ag hown;clear hown tq a1;go_wp2_with fail
      repeat(refine nJ (λK hK=> ?_);go_simp;first|(refine⟨_,λ_=>rfl,hK _ ?_⟩;clear hK K;refine nH ?_)|(refine hK _ ?_;clear hK K;refine nH ?_))
      refine⟨a2,?_⟩;go_wp2_with fail;have l1:∀z:rE (nN g off x y),z.w.cell? ⟨g,off,none⟩=some (.string x):=λz=>z.h.1;have l2:∀z:rE (nN g off x y),z.w.cell? ⟨g,off+1,none⟩=some (.string y):=λz=>z.h.2;refine nO (nN g off x y) [(true,0),(true,2),(true,3),(true,4),(true,5),(true,6),(false,1),(false,7),(false,8),(true,9),(true,10),(true,11),(true,12),(true,13),(true,14),(false,15)] (by kernel_rfl) (by kernel_rfl) (λc a d v w h=>by cases d<;>exact h) ?_;simp only[oQ,nR,aj,ak,au]
      repeat(refine nJ (λK hK=> ?_);go_simp;first|(refine⟨_,λ_=>rfl,hK _ ?_⟩;clear hK K;refine nH ?_)|(refine hK _ ?_;clear hK K;refine nH ?_))
      clear l1 l2;refine⟨a2,?_⟩;go_wp2_with fail;have KC:=KB.nK (ah nM w2).drew;have Nn:Nums w2.drew (.slice pv ([]:List af).length cv) zs:=(yu (by have h5:=MX.out;rw[<-Hzl.out]at h5⊢;exact h5)).keep ((ah nM w2).drew) (λ_ _ x=>x);have Hfd:=ag (HF.out _ KC _ Nn);clear Nn HF;refine(BO.out _ KC).mono ?_;rintro e w3 ⟨rfl,hw3⟩;subst w3;go_wp2_with fail
      repeat(refine nJ (λK hK=> ?_);go_simp;first|(refine⟨_,λ_=>rfl,hK _ ?_⟩;clear hK K;refine nH ?_)|(refine hK _ ?_;clear hK K;refine nH ?_))
      refine⟨a2,?_⟩;go_wp2_with fail;refine(Tryz.strings_TrimPrefix y ⟨#[45]⟩ _).mono ?_;rintro e w3 ⟨rfl,hw3⟩;subst w3;rw[htr];go_wp2_with fail
      repeat(refine nJ (λK hK=> ?_);go_simp;first|(refine⟨_,λ_=>rfl,hK _ ?_⟩;clear hK K;refine nH ?_)|(refine hK _ ?_;clear hK K;refine nH ?_))
      refine⟨a2,?_⟩;go_wp2_with fail;refine Hfd.out.mono ?_;rintro e w3 ⟨hfs,K3⟩;obtain⟨vF,lk,rfl,hRF⟩:=HFS.out _ _ _ hfs;obtain⟨pF,cF,rfl⟩:=hRF.len;have KD:=KC.nK K3;have a3:nN g off x y w3:=⟨(KD.cell (p:=⟨g,off,none⟩) hgl (λx=>x)).trans a0.1,(KD.cell (p:=⟨g,off+1,none⟩) hgl (λx=>x)).trans a0.2⟩
      obtain⟨n,hn⟩:∃n,n=F.length:=⟨_,rfl⟩
      rw[<-hn]at hRF⊢;have zml:n<=60:=by have:=HFb.out.1;omega
      have HRF:=ag hRF;have Hn:=ag hn;clear hfs Hfd hRF hn HFS;go_wp2_with fail
      repeat(refine nJ (λK hK=> ?_);go_simp;first|(refine⟨_,λ_=>rfl,hK _ ?_⟩;clear hK K;refine nH ?_)|(refine hK _ ?_;clear hK K;refine nH ?_))
      refine⟨a3,?_⟩;go_wp2_with fail;refine(Gv _).mono ?_;rintro e w4 ⟨rfl,hw4⟩;subst w4;go_wp2_with fail
      go_loopw [10,42] (λsv iv wr=>∃(j:Nat) (s7:af),j<=n∧iv= .int .i64 j∧sv= .string s7∧Hid (s7.data.toList= [102,105,110,100]++(F.take j).flatMap ui)∧Hid (Keep nM w3 wr)) (λ_ iv _=>n-(intOf iv).toNat)
      case atStart=>exact⟨0,_,by omega,rfl,rfl,ag (by simp),ag (ah _ _)⟩
      case round=>
       obtain⟨j,s7,hj,rfl,rfl,hs7,K⟩:=hrel;obtain⟨wo,rfl⟩:∃wo,wo=wr:=⟨_,rfl⟩
       have hsz:s7.size<=10000:=by have h1:s7.size=s7.data.toList.length:=rfl;rw[h1,hs7.out,ay];have h2:=EY (F.take j) (λf hf=>(HFb.out.2 f (dH hf)));rw[bG]at h2;have h3:=HFb.out.1;simp only[aK,bI];omega
       by_cases hlt:j<n
       ·have j1:(j:Int)<n:=by omega
        have Ir:=HRF.out.keep K.out (λ_ _ x=>x);obtain⟨pb,of2,rfl,-,hpb,hcell⟩:=Ir.at (by have:=Hn.out;omega);obtain⟨f,hf⟩:∃f,F[j]? =some f:=⟨_,aC (by have:=Hn.out;omega)⟩
        have hra:=hcell j f hf;have c0:wo.cell? ⟨pb,of2+j*2,none⟩=some (.string f.1):=hra 0 _ rfl;have c1:wo.cell? ⟨pb,of2+j*2+1,none⟩=some (.int .i64 f.2):=hra 1 _ rfl;have hfb:=HFb.out.2 f (bg hf);have hstep:(F.take (j+1)).flatMap ui=(F.take j).flatMap ui++ui f:=by have hj2:=aN.1 hf;rw[aT hj2.1,hj2.2,cZ];simp
        obtain⟨fn,ff⟩:=f;simp only at c0 c1 hfb;have hitz:=zo ff hfb.2.1 hfb.2.2;have xZ:=λw5 (K5:Keep nM wo w5)=>uS ff hfb.2.1 hfb.2.2 w5 (HPV.out.keep ((KD.nK K.out).nK K5) (λx=>x));obtain⟨it,hit⟩:∃it:af,it=Dq ff:=⟨_,rfl⟩
        rw[show(⟨(Lib.itoa ff).toArray⟩:af)=Dq ff from rfl,<-hit]at xZ;rw[<-hit]at hitz;have Du:it.data.toList=Lib.itoa ff:=by rw[hit];rfl
        obtain⟨d1,hd1⟩:∃d:af,d=⟨#[32]⟩++fn:=⟨_,rfl⟩
        obtain⟨d2,hd2⟩:∃d:af,d=d1++⟨#[58]⟩:=⟨_,rfl⟩
        obtain⟨d3,hd3⟩:∃d:af,d=d2++it:=⟨_,rfl⟩
        have z1:d1.size=1+fn.size:=by rw[hd1,aX];rfl
        have z2:d2.size=d1.size+1:=by rw[hd2,aX];rfl
        have z3:d3.size=d2.size+it.size:=by rw[hd3,aX]
        have f1:¬(9223372036854775807<(⟨#[32]⟩:af).size+fn.size):=by have:(⟨#[32]⟩:af).size=1:=rfl;omega
        have f2:¬(9223372036854775807<d1.size+(⟨#[58]⟩:af).size):=by have:(⟨#[58]⟩:af).size=1:=rfl;omega
        have f1':¬(9223372036854775807<1+fn.size):=by omega
        have f2':¬(9223372036854775807<d1.size+1):=by omega
        have f3:¬(9223372036854775807<d2.size+it.size):=by omega
        have f4:¬(9223372036854775807<s7.size+d3.size):=by omega
        have hfin:(s7++d3).data.toList= [102,105,110,100]++(F.take (j+1)).flatMap ui:=by rw[hstep,hd3,hd2,hd1];simp[hs7.out,ui,Du]
        have yH:=ag hfin;have Ej:=ag xZ;have HK:=ag K.out;have g1:=hd1.symm;have g2:=hd2.symm;have g3:=hd3.symm;clear hfin xZ K hs7 hd1 hd2 hd3 z1 z2 z3 hf hra hcell hfb hstep Ir hsz hit Du hitz;go_wp2_with fail;obtain⟨wX,Yc⟩:∃wX,wX=wo.alloc (.cells #[.string fn,.int .i64 ff] 116):=⟨_,rfl⟩
        obtain⟨X,hX⟩:∃X,X=wo.heap.size:=⟨_,rfl⟩
        have nX:wX.heap[X]? =some (.cells #[.string fn,.int .i64 ff] 116 (0,0)):=by rw[Yc,hX];exact aG _ _
        have KX:Keep nM wo wX:=by rw[Yc];exact(ah _ _).alloc _
        rw[<-Yc,<-hX];have b0:FoC X fn ff wX:=⟨cellOf nX 0 rfl,cellOf nX 1 rfl⟩
        have q1:∀z:rE (FoC X fn ff),z.w.cell? ⟨X,0,none⟩=some (.string fn):=λz=>z.h.1;have q2:∀z:rE (FoC X fn ff),z.w.cell? ⟨X,1,none⟩=some (.int .i64 ff):=λz=>z.h.2;have HKX:=ag KX;clear Yc hX nX KX c0 c1;refine nO (FoC X fn ff) [(true,0),(true,1),(true,2),(true,3),(true,4),(true,5),(true,6),(false,7),(true,8),(true,9),(false,10)] (by kernel_rfl) (by kernel_rfl) (λc a d v w h=>by cases d<;>exact h) ?_;simp only[oQ,nR,aj,ak,au]
        repeat(refine nJ (λK hK=> ?_);go_simp;first|(refine⟨_,λ_=>rfl,hK _ ?_⟩;clear hK K;refine nH ?_)|(refine hK _ ?_;clear hK K;refine nH ?_))
        clear q1 q2;refine⟨b0,?_⟩;go_wp2_with fail;have KY:=HKX.out.nK (ah nM wX).drew;refine(Ej.out _ KY).mono ?_;rintro e w5 ⟨rfl,K5⟩;have b1:FoC X fn ff w5:=⟨(K5.cell (p:=⟨X,0,none⟩) (Lib.lt_of_cell b0.1) (λx=>x)).trans b0.1,(K5.cell (p:=⟨X,1,none⟩) (Lib.lt_of_cell b0.2) (λx=>x)).trans b0.2⟩
        go_wp2_with fail
        repeat(refine nJ (λK hK=> ?_);go_simp;first|(refine⟨_,λ_=>rfl,hK _ ?_⟩;clear hK K;refine nH ?_)|(refine hK _ ?_;clear hK K;refine nH ?_))
        refine⟨b1,?_⟩;go_wp2_with fail;exact⟨⟨j+1,s7++d3,by omega,by go_num,rfl,yH,ag (HK.out.nK (KY.nK K5))⟩,by simp[intOf];omega⟩
       ·obtain rfl:j=n:=by omega
        have j1:¬(j:Int)<j:=by omega
        have hfull:s7=wZ F:=by apply iD;apply gU.1;rw[hs7.out,aV (by rw[<-Hn.out];exact aF _),wZ]
        have QQ:=ag hfull;clear hfull hs7;go_wp2_with fail;go_ret;exact⟨by rw[QQ.out];rfl,HS.out _ (KD.nK K.out)⟩
 ·skip
  obtain⟨s,hs⟩:∃s,s=c-2:=⟨_,rfl⟩
  have hci:(c:Int)-2=(s:Int):=by omega
  have hnum:=hnum s;have hc3:¬(2:Int)=c:=by omega
  have hc4:¬(c:Int)=2:=by omega
  have Hhs:=ag hs;have Hhr:=ag (show rr=m-2 by omega);have Hrr:=ag hrr;unfold IQ at hnum;cases hva:yg x with
  | none=>
   have hd:qH st (x::y::r)=(.error 3,st):=by simp only[qH,hva]
   rw[hd];rw[hva]at ha;have Ha:=ag ha;show ae 41 #[.pointer (some ⟨DD,0,none⟩),.slice (some ⟨g,off,none⟩) m c] W λe w'=>e= .panicked [{ v:=ou 3,recovered:=false }]∧Done w0 DD (kk+1) st W Q w';have l1:∀z:rE (nN g off x y),z.w.cell? ⟨g,off,none⟩=some (.string x):=λz=>z.h.1;have l2:∀z:rE (nN g off x y),z.w.cell? ⟨g,off+1,none⟩=some (.string y):=λz=>z.h.2;clear h hQ hd PV hx hva ha EV NE K0 S hc uj hrs hcell hnum yZ Uh h2 hmr hs hm hrr;go_enter Tryz.func41,Tryz.ntmps41;go_wp2_with fail;refine nO (nN g off x y) [(true,0),(true,1),(true,2),(true,4),(true,5),(false,3),(false,6),(true,7),(false,8)] (by kernel_rfl) (by kernel_rfl) (λc a d v w h=>by cases d<;>exact h) ?_;simp only[oQ,nR,aj,ak,au]
   repeat(refine nJ (λK hK=> ?_);go_simp;first|(refine⟨_,λ_=>rfl,hK _ ?_⟩;clear hK K;refine nH ?_)|(refine hK _ ?_;clear hK K;refine nH ?_))
   clear l1 l2;refine⟨a0,?_⟩;go_wp2_with fail;refine(Ha.out _ (ah nM W).drew).mono ?_;rintro e w1 ⟨rfl,K1⟩;go_wp2_with fail;exact⟨rfl,rfl,HS.out _ ((ah nM W).drew.nK K1)⟩
  | some ka=>
   rw[hva]at ha;have Ha:=ag ha;cases hv:wV r with
   | none=>
    have hd:qH st (x::y::r)=(.error 3,st):=by simp only[qH,hva,hv]
    rw[hd];rw[hv]at hnum;have tq:=ag hnum;show ae 41 #[.pointer (some ⟨DD,0,none⟩),.slice (some ⟨g,off,none⟩) m c] W λe w'=>e= .panicked [{ v:=ou 3,recovered:=false }]∧Done w0 DD (kk+1) st W Q w';have l1:∀z:rE (nN g off x y),z.w.cell? ⟨g,off,none⟩=some (.string x):=λz=>z.h.1;have l2:∀z:rE (nN g off x y),z.w.cell? ⟨g,off+1,none⟩=some (.string y):=λz=>z.h.2;clear h hQ hd PV hx hva hv ha EV NE K0 S hc uj hrs hcell hnum yZ Uh h2 hmr hs hm hrr;go_enter Tryz.func41,Tryz.ntmps41;go_wp2_with fail;refine nO (nN g off x y) [(true,0),(true,1),(true,2),(true,4),(true,5),(false,3),(false,6),(true,7),(false,8)] (by kernel_rfl) (by kernel_rfl) (λc a d v w h=>by cases d<;>exact h) ?_;simp only[oQ,nR,aj,ak,au]
    repeat(refine nJ (λK hK=> ?_);go_simp;first|(refine⟨_,λ_=>rfl,hK _ ?_⟩;clear hK K;refine nH ?_)|(refine hK _ ?_;clear hK K;refine nH ?_))
    clear l1 l2;refine⟨a0,?_⟩;go_wp2_with fail;refine(Ha.out _ (ah nM W).drew).mono ?_;rintro e w1 ⟨rfl,K1⟩;have KA:=(ah nM W).drew.nK K1;have a1:nN g off x y w1:=⟨(KA.cell (p:=⟨g,off,none⟩) hgl (λx=>x)).trans a0.1,(KA.cell (p:=⟨g,off+1,none⟩) hgl (λx=>x)).trans a0.2⟩
    clear Ha;go_wp2_with fail;refine⟨a1,?_⟩;go_wp2_with fail;rw[<-Hhr.out,<-Hhs.out];refine(tq.out _ KA).mono ?_;rintro e w2 ⟨rfl,K2⟩;go_wp2_with fail;exact⟨rfl,rfl,HS.out _ (KA.nK K2)⟩
   | some zs=>
    rw[hv]at hnum;have tq:=ag hnum;have hzl:=D5 r zs hv;have Hzl:=ag hzl;cases hb:st.base with
    | none=>
     have hd:qH st (x::y::r)=(.error 8,st):=by simp only[qH,hva,hv,hb]
     rw[hd];show ae 41 #[.pointer (some ⟨DD,0,none⟩),.slice (some ⟨g,off,none⟩) m c] W λe w'=>e= .panicked [{ v:=ou 8,recovered:=false }]∧Done w0 DD (kk+1) st W Q w';have hrow:=h.row;rw[uK h hb]at hrow;have BN:Hid (∀w1,Keep nM W w1->ae 67 #[.pointer (some ⟨DD,0,none⟩)] w1 λe w'=>e= .panicked [{ v:=ou 8,recovered:=false }]∧Keep nM w1 w'):=ag (λw1 K=>qO (hrow.keep K (λx=>x)) (EV.keep K (λx=>x)));have l1:∀z:rE (nN g off x y),z.w.cell? ⟨g,off,none⟩=some (.string x):=λz=>z.h.1;have l2:∀z:rE (nN g off x y),z.w.cell? ⟨g,off+1,none⟩=some (.string y):=λz=>z.h.2;clear h hQ hd PV hx hva hv ha hrow EV NE K0 S hc uj hrs hcell hnum yZ Uh h2 hmr hs hm hrr;go_enter Tryz.func41,Tryz.ntmps41;go_wp2_with fail;refine nO (nN g off x y) [(true,0),(true,1),(true,2),(true,4),(true,5),(false,3),(false,6),(true,7),(false,8)] (by kernel_rfl) (by kernel_rfl) (λc a d v w h=>by cases d<;>exact h) ?_;simp only[oQ,nR,aj,ak,au]
     repeat(refine nJ (λK hK=> ?_);go_simp;first|(refine⟨_,λ_=>rfl,hK _ ?_⟩;clear hK K;refine nH ?_)|(refine hK _ ?_;clear hK K;refine nH ?_))
     clear l1 l2;refine⟨a0,?_⟩;go_wp2_with fail;refine(Ha.out _ (ah nM W).drew).mono ?_;rintro e w1 ⟨rfl,K1⟩;have KA:=(ah nM W).drew.nK K1;have a1:nN g off x y w1:=⟨(KA.cell (p:=⟨g,off,none⟩) hgl (λx=>x)).trans a0.1,(KA.cell (p:=⟨g,off+1,none⟩) hgl (λx=>x)).trans a0.2⟩
     clear Ha;go_wp2_with fail;refine⟨a1,?_⟩;go_wp2_with fail;rw[<-Hhr.out,<-Hhs.out];refine(tq.out _ KA).mono ?_;rintro e w2 ⟨⟨v',rfl,hown⟩,K2⟩;obtain⟨pv,cv,rfl⟩:=uD hown;have KB:=KA.nK K2;have a2:nN g off x y w2:=⟨(KB.cell (p:=⟨g,off,none⟩) hgl (λx=>x)).trans a0.1,(KB.cell (p:=⟨g,off+1,none⟩) hgl (λx=>x)).trans a0.2⟩
     have MX:=ag hown;clear hown tq a1;go_wp2_with fail
     repeat(refine nJ (λK hK=> ?_);go_simp;first|(refine⟨_,λ_=>rfl,hK _ ?_⟩;clear hK K;refine nH ?_)|(refine hK _ ?_;clear hK K;refine nH ?_))
     refine⟨a2,?_⟩;go_wp2_with fail;have l1:∀z:rE (nN g off x y),z.w.cell? ⟨g,off,none⟩=some (.string x):=λz=>z.h.1;have l2:∀z:rE (nN g off x y),z.w.cell? ⟨g,off+1,none⟩=some (.string y):=λz=>z.h.2;refine nO (nN g off x y) [(true,0),(true,2),(true,3),(true,4),(true,5),(true,6),(false,1),(false,7),(false,8),(true,9),(true,10),(true,11),(true,12),(true,13),(true,14),(false,15)] (by kernel_rfl) (by kernel_rfl) (λc a d v w h=>by cases d<;>exact h) ?_;simp only[oQ,nR,aj,ak,au]
     repeat(refine nJ (λK hK=> ?_);go_simp;first|(refine⟨_,λ_=>rfl,hK _ ?_⟩;clear hK K;refine nH ?_)|(refine hK _ ?_;clear hK K;refine nH ?_))
     clear l1 l2;refine⟨a2,?_⟩;go_wp2_with fail;have KC:=KB.nK (ah nM w2).drew;refine(BN.out _ KC).mono ?_;rintro e w3 ⟨rfl,K3⟩;go_wp2_with fail;exact⟨rfl,rfl,HS.out _ (KC.nK K3)⟩
    | some p=>
     obtain⟨V,b⟩:=p;obtain⟨BB,k,rfl,hB,hk⟩:=sW h hb;have BO:Hid (∀w1,Keep nM W w1->ae 67 #[.pointer (some ⟨DD,0,none⟩)] w1 λe w'=>e= .returned (.pointer (some ⟨BB,0,none⟩))∧w'=w1):=ag (λw1 K=>sS (h.row.keep K (λx=>x)));obtain⟨tg,FC⟩:∃tg,tg=tagV y:=⟨_,rfl⟩
     have htr:(⟨(Lib.trimPrefix y.data.toList (⟨#[45]⟩:af).data.toList).toArray⟩:af)=tg:=FC.symm;have zfn:tg.size<=20000:=by rw[FC];exact bH (Vq y) hy6
     have HF:Hid (∀w1,Keep nM W w1->∀va,Nums w1 va zs->ae 74 #[.pointer (some ⟨BB,0,none⟩),va,.int .i64 ka,.string tg] w1 λe w'=>tJ w1 w' b.nS (o9 b.now) zs ka tg e∧Keep nM w1 w'):=ag (λw1 K va N=>zgg (hB.oz K) N (by omega) ka tg (by omega));have QA:=hB.ok;by_cases hz:b.nS=0∨DN b.nS zs ka=false
     ·obtain⟨er,zkO,zfs,hFS⟩:∃er:Int,er≠0∧qH st (x::y::r)=(.error er,st)∧∀w1 w' e,tJ w1 w' b.nS (o9 b.now) zs ka tg e->e= .returned (.tuple #[.slice none 0 0,.int .i64 0,errVal er]):=by
       by_cases hd0:b.nS=0
       ·exact⟨6,by decide,by simp only[qH,hva,hv,hb];rw[aP hd0],λw1 w' e hs=>by unfold tJ at hs;rwa [aP hd0]at hs⟩
       ·have hak:=hz.resolve_left hd0;exact⟨1,by decide,by simp only[qH,hva,hv,hb];rw[aB hd0,aP hak],λw1 w' e hs=>by unfold tJ at hs;rwa [aB hd0,aP hak]at hs⟩
      rw[zfs];show ae 41 #[.pointer (some ⟨DD,0,none⟩),.slice (some ⟨g,off,none⟩) m c] W λe w'=>e= .panicked [{ v:=ou er,recovered:=false }]∧Done w0 DD (kk+1) st W Q w';have HEV:Hid (∀w1,Keep nM W w1->ErrVar w1):=ag (λw1 K=>EV.keep K (λx=>x));have HFS:=ag hFS;have l1:∀z:rE (nN g off x y),z.w.cell? ⟨g,off,none⟩=some (.string x):=λz=>z.h.1;have l2:∀z:rE (nN g off x y),z.w.cell? ⟨g,off+1,none⟩=some (.string y):=λz=>z.h.2;clear h hQ PV hx hva hv ha hB QA FC hz zfs hFS zfn EV NE K0 S hc uj hrs hcell hnum yZ Uh h2 hmr hs hm hrr;go_enter Tryz.func41,Tryz.ntmps41;go_wp2_with fail;refine nO (nN g off x y) [(true,0),(true,1),(true,2),(true,4),(true,5),(false,3),(false,6),(true,7),(false,8)] (by kernel_rfl) (by kernel_rfl) (λc a d v w h=>by cases d<;>exact h) ?_;simp only[oQ,nR,aj,ak,au]
      repeat(refine nJ (λK hK=> ?_);go_simp;first|(refine⟨_,λ_=>rfl,hK _ ?_⟩;clear hK K;refine nH ?_)|(refine hK _ ?_;clear hK K;refine nH ?_))
      clear l1 l2;refine⟨a0,?_⟩;go_wp2_with fail;refine(Ha.out _ (ah nM W).drew).mono ?_;rintro e w1 ⟨rfl,K1⟩;have KA:=(ah nM W).drew.nK K1;have a1:nN g off x y w1:=⟨(KA.cell (p:=⟨g,off,none⟩) hgl (λx=>x)).trans a0.1,(KA.cell (p:=⟨g,off+1,none⟩) hgl (λx=>x)).trans a0.2⟩
      clear Ha;go_wp2_with fail;refine⟨a1,?_⟩;go_wp2_with fail;rw[<-Hhr.out,<-Hhs.out];refine(tq.out _ KA).mono ?_;rintro e w2 ⟨⟨v',rfl,hown⟩,K2⟩;obtain⟨pv,cv,rfl⟩:=uD hown;have KB:=KA.nK K2;have a2:nN g off x y w2:=⟨(KB.cell (p:=⟨g,off,none⟩) hgl (λx=>x)).trans a0.1,(KB.cell (p:=⟨g,off+1,none⟩) hgl (λx=>x)).trans a0.2⟩
      have MX:=ag hown;clear hown tq a1;go_wp2_with fail
      repeat(refine nJ (λK hK=> ?_);go_simp;first|(refine⟨_,λ_=>rfl,hK _ ?_⟩;clear hK K;refine nH ?_)|(refine hK _ ?_;clear hK K;refine nH ?_))
      refine⟨a2,?_⟩;go_wp2_with fail;have l1:∀z:rE (nN g off x y),z.w.cell? ⟨g,off,none⟩=some (.string x):=λz=>z.h.1;have l2:∀z:rE (nN g off x y),z.w.cell? ⟨g,off+1,none⟩=some (.string y):=λz=>z.h.2;refine nO (nN g off x y) [(true,0),(true,2),(true,3),(true,4),(true,5),(true,6),(false,1),(false,7),(false,8),(true,9),(true,10),(true,11),(true,12),(true,13),(true,14),(false,15)] (by kernel_rfl) (by kernel_rfl) (λc a d v w h=>by cases d<;>exact h) ?_;simp only[oQ,nR,aj,ak,au]
      repeat(refine nJ (λK hK=> ?_);go_simp;first|(refine⟨_,λ_=>rfl,hK _ ?_⟩;clear hK K;refine nH ?_)|(refine hK _ ?_;clear hK K;refine nH ?_))
      clear l1 l2;refine⟨a2,?_⟩;go_wp2_with fail;have KC:=KB.nK (ah nM w2).drew;have Nn:Nums w2.drew (.slice pv r.length cv) zs:=(yu (by have h5:=MX.out;rw[<-Hzl.out]at h5⊢;exact h5)).keep ((ah nM w2).drew) (λ_ _ x=>x);have Hfd:=ag (HF.out _ KC _ Nn);clear Nn HF;refine(BO.out _ KC).mono ?_;rintro e w3 ⟨rfl,hw3⟩;subst w3;go_wp2_with fail
      repeat(refine nJ (λK hK=> ?_);go_simp;first|(refine⟨_,λ_=>rfl,hK _ ?_⟩;clear hK K;refine nH ?_)|(refine hK _ ?_;clear hK K;refine nH ?_))
      refine⟨a2,?_⟩;go_wp2_with fail;refine(Tryz.strings_TrimPrefix y ⟨#[45]⟩ _).mono ?_;rintro e w3 ⟨rfl,hw3⟩;subst w3;rw[htr];go_wp2_with fail
      repeat(refine nJ (λK hK=> ?_);go_simp;first|(refine⟨_,λ_=>rfl,hK _ ?_⟩;clear hK K;refine nH ?_)|(refine hK _ ?_;clear hK K;refine nH ?_))
      refine⟨a2,?_⟩;go_wp2_with fail;refine Hfd.out.mono ?_;rintro e w3 ⟨hfs,K3⟩;have he:=HFS.out _ _ _ hfs;subst he;have KD:=KC.nK K3;have a3:nN g off x y w3:=⟨(KD.cell (p:=⟨g,off,none⟩) hgl (λx=>x)).trans a0.1,(KD.cell (p:=⟨g,off+1,none⟩) hgl (λx=>x)).trans a0.2⟩
      clear hfs Hfd;go_wp2_with fail
      repeat(refine nJ (λK hK=> ?_);go_simp;first|(refine⟨_,λ_=>rfl,hK _ ?_⟩;clear hK K;refine nH ?_)|(refine hK _ ?_;clear hK K;refine nH ?_))
      refine⟨a3,?_⟩;go_wp2_with fail;refine(zl er w3 (HEV.out _ KD)).mono ?_;rintro e w4 ⟨he,K4⟩;rw[aB zkO]at he;subst he;go_wp2_with fail;exact⟨rfl,rfl,HS.out _ (KD.nK K4)⟩
     ·have hd0:¬b.nS=0:=λe=>hz (.inl e);have hak:¬DN b.nS zs ka=false:=λe=>hz (.inr e);have hd:qH st (x::y::r)=(.ok (wZ (FH (o9 b.now) zs ka tg)),st):=by simp only[qH,hva,hv,hb];rw[aB hd0,aB hak,FC]
      rw[hd];obtain⟨F,hF⟩:∃F,F=FH (o9 b.now) zs ka tg:=⟨_,rfl⟩
      have hFb:F.length<=60∧∀f∈F,f.1.size<=10∧-9223372036854775808<=f.2∧f.2<=9223372036854775807:=by rw[hF];exact Nu QA
      have hFS:∀w1 w' e,tJ w1 w' b.nS (o9 b.now) zs ka tg e->∃(v':Value) (looked:Nat),e= .returned (.tuple #[v',.int .i64 looked,.nilIface])∧sQ w' v' 2 yG F:=λw1 w' e hs=>by unfold tJ at hs;rw[aB hd0,aB hak]at hs;obtain⟨v',lk,h1,h2,_⟩:=hs;exact⟨v',lk,h1,by rw[hF];exact h2⟩
      rw[<-hF];show ae 41 #[.pointer (some ⟨DD,0,none⟩),.slice (some ⟨g,off,none⟩) m c] W λe w'=>e= .returned (.string (wZ F))∧Done w0 DD (kk+1) st W Q w';have HFS:=ag hFS;have HFb:=ag hFb;have HPV:=ag PV;have l1:∀z:rE (nN g off x y),z.w.cell? ⟨g,off,none⟩=some (.string x):=λz=>z.h.1;have l2:∀z:rE (nN g off x y),z.w.cell? ⟨g,off+1,none⟩=some (.string y):=λz=>z.h.2;clear h hQ PV hx hva hv ha hB QA FC hz hd hF hFb hFS hd0 hak zfn EV NE K0 S hc uj hrs hcell hnum yZ Uh h2 hmr hs hm hrr;go_enter Tryz.func41,Tryz.ntmps41;go_wp2_with fail;refine nO (nN g off x y) [(true,0),(true,1),(true,2),(true,4),(true,5),(false,3),(false,6),(true,7),(false,8)] (by kernel_rfl) (by kernel_rfl) (λc a d v w h=>by cases d<;>exact h) ?_;simp only[oQ,nR,aj,ak,au]
      repeat(refine nJ (λK hK=> ?_);go_simp;first|(refine⟨_,λ_=>rfl,hK _ ?_⟩;clear hK K;refine nH ?_)|(refine hK _ ?_;clear hK K;refine nH ?_))
      clear l1 l2;refine⟨a0,?_⟩;go_wp2_with fail;refine(Ha.out _ (ah nM W).drew).mono ?_;rintro e w1 ⟨rfl,K1⟩;have KA:=(ah nM W).drew.nK K1;have a1:nN g off x y w1:=⟨(KA.cell (p:=⟨g,off,none⟩) hgl (λx=>x)).trans a0.1,(KA.cell (p:=⟨g,off+1,none⟩) hgl (λx=>x)).trans a0.2⟩
      clear Ha;go_wp2_with fail;refine⟨a1,?_⟩;go_wp2_with fail;rw[<-Hhr.out,<-Hhs.out];refine(tq.out _ KA).mono ?_;rintro e w2 ⟨⟨v',rfl,hown⟩,K2⟩;obtain⟨pv,cv,rfl⟩:=uD hown;have KB:=KA.nK K2;have a2:nN g off x y w2:=⟨(KB.cell (p:=⟨g,off,none⟩) hgl (λx=>x)).trans a0.1,(KB.cell (p:=⟨g,off+1,none⟩) hgl (λx=>x)).trans a0.2⟩
      have MX:=ag hown;clear hown tq a1;go_wp2_with fail
      repeat(refine nJ (λK hK=> ?_);go_simp;first|(refine⟨_,λ_=>rfl,hK _ ?_⟩;clear hK K;refine nH ?_)|(refine hK _ ?_;clear hK K;refine nH ?_))
      refine⟨a2,?_⟩;go_wp2_with fail;have l1:∀z:rE (nN g off x y),z.w.cell? ⟨g,off,none⟩=some (.string x):=λz=>z.h.1;have l2:∀z:rE (nN g off x y),z.w.cell? ⟨g,off+1,none⟩=some (.string y):=λz=>z.h.2;refine nO (nN g off x y) [(true,0),(true,2),(true,3),(true,4),(true,5),(true,6),(false,1),(false,7),(false,8),(true,9),(true,10),(true,11),(true,12),(true,13),(true,14),(false,15)] (by kernel_rfl) (by kernel_rfl) (λc a d v w h=>by cases d<;>exact h) ?_;simp only[oQ,nR,aj,ak,au]
      repeat(refine nJ (λK hK=> ?_);go_simp;first|(refine⟨_,λ_=>rfl,hK _ ?_⟩;clear hK K;refine nH ?_)|(refine hK _ ?_;clear hK K;refine nH ?_))
      clear l1 l2;refine⟨a2,?_⟩;go_wp2_with fail;have KC:=KB.nK (ah nM w2).drew;have Nn:Nums w2.drew (.slice pv r.length cv) zs:=(yu (by have h5:=MX.out;rw[<-Hzl.out]at h5⊢;exact h5)).keep ((ah nM w2).drew) (λ_ _ x=>x);have Hfd:=ag (HF.out _ KC _ Nn);clear Nn HF;refine(BO.out _ KC).mono ?_;rintro e w3 ⟨rfl,hw3⟩;subst w3;go_wp2_with fail
      repeat(refine nJ (λK hK=> ?_);go_simp;first|(refine⟨_,λ_=>rfl,hK _ ?_⟩;clear hK K;refine nH ?_)|(refine hK _ ?_;clear hK K;refine nH ?_))
      refine⟨a2,?_⟩;go_wp2_with fail;refine(Tryz.strings_TrimPrefix y ⟨#[45]⟩ _).mono ?_;rintro e w3 ⟨rfl,hw3⟩;subst w3;rw[htr];go_wp2_with fail
      repeat(refine nJ (λK hK=> ?_);go_simp;first|(refine⟨_,λ_=>rfl,hK _ ?_⟩;clear hK K;refine nH ?_)|(refine hK _ ?_;clear hK K;refine nH ?_))
      refine⟨a2,?_⟩;go_wp2_with fail;refine Hfd.out.mono ?_;rintro e w3 ⟨hfs,K3⟩;obtain⟨vF,lk,rfl,hRF⟩:=HFS.out _ _ _ hfs;obtain⟨pF,cF,rfl⟩:=hRF.len;have KD:=KC.nK K3;have a3:nN g off x y w3:=⟨(KD.cell (p:=⟨g,off,none⟩) hgl (λx=>x)).trans a0.1,(KD.cell (p:=⟨g,off+1,none⟩) hgl (λx=>x)).trans a0.2⟩
      obtain⟨n,hn⟩:∃n,n=F.length:=⟨_,rfl⟩
      rw[<-hn]at hRF⊢;have zml:n<=60:=by have:=HFb.out.1;omega
      have HRF:=ag hRF;have Hn:=ag hn;clear hfs Hfd hRF hn HFS;go_wp2_with fail
      repeat(refine nJ (λK hK=> ?_);go_simp;first|(refine⟨_,λ_=>rfl,hK _ ?_⟩;clear hK K;refine nH ?_)|(refine hK _ ?_;clear hK K;refine nH ?_))
      refine⟨a3,?_⟩;go_wp2_with fail;refine(Gv _).mono ?_;rintro e w4 ⟨rfl,hw4⟩;subst w4;go_wp2_with fail
      go_loopw [10,42] (λsv iv wr=>∃(j:Nat) (s7:af),j<=n∧iv= .int .i64 j∧sv= .string s7∧Hid (s7.data.toList= [102,105,110,100]++(F.take j).flatMap ui)∧Hid (Keep nM w3 wr)) (λ_ iv _=>n-(intOf iv).toNat)
      case atStart=>exact⟨0,_,by omega,rfl,rfl,ag (by simp),ag (ah _ _)⟩
      case round=>
       obtain⟨j,s7,hj,rfl,rfl,hs7,K⟩:=hrel;obtain⟨wo,rfl⟩:∃wo,wo=wr:=⟨_,rfl⟩
       have hsz:s7.size<=10000:=by have h1:s7.size=s7.data.toList.length:=rfl;rw[h1,hs7.out,ay];have h2:=EY (F.take j) (λf hf=>(HFb.out.2 f (dH hf)));rw[bG]at h2;have h3:=HFb.out.1;simp only[aK,bI];omega
       by_cases hlt:j<n
       ·have j1:(j:Int)<n:=by omega
        have Ir:=HRF.out.keep K.out (λ_ _ x=>x);obtain⟨pb,of2,rfl,-,hpb,hcell⟩:=Ir.at (by have:=Hn.out;omega);obtain⟨f,hf⟩:∃f,F[j]? =some f:=⟨_,aC (by have:=Hn.out;omega)⟩
        have hra:=hcell j f hf;have c0:wo.cell? ⟨pb,of2+j*2,none⟩=some (.string f.1):=hra 0 _ rfl;have c1:wo.cell? ⟨pb,of2+j*2+1,none⟩=some (.int .i64 f.2):=hra 1 _ rfl;have hfb:=HFb.out.2 f (bg hf);have hstep:(F.take (j+1)).flatMap ui=(F.take j).flatMap ui++ui f:=by have hj2:=aN.1 hf;rw[aT hj2.1,hj2.2,cZ];simp
        obtain⟨fn,ff⟩:=f;simp only at c0 c1 hfb;have hitz:=zo ff hfb.2.1 hfb.2.2;have xZ:=λw5 (K5:Keep nM wo w5)=>uS ff hfb.2.1 hfb.2.2 w5 (HPV.out.keep ((KD.nK K.out).nK K5) (λx=>x));obtain⟨it,hit⟩:∃it:af,it=Dq ff:=⟨_,rfl⟩
        rw[show(⟨(Lib.itoa ff).toArray⟩:af)=Dq ff from rfl,<-hit]at xZ;rw[<-hit]at hitz;have Du:it.data.toList=Lib.itoa ff:=by rw[hit];rfl
        obtain⟨d1,hd1⟩:∃d:af,d=⟨#[32]⟩++fn:=⟨_,rfl⟩
        obtain⟨d2,hd2⟩:∃d:af,d=d1++⟨#[58]⟩:=⟨_,rfl⟩
        obtain⟨d3,hd3⟩:∃d:af,d=d2++it:=⟨_,rfl⟩
        have z1:d1.size=1+fn.size:=by rw[hd1,aX];rfl
        have z2:d2.size=d1.size+1:=by rw[hd2,aX];rfl
        have z3:d3.size=d2.size+it.size:=by rw[hd3,aX]
        have f1:¬(9223372036854775807<(⟨#[32]⟩:af).size+fn.size):=by have:(⟨#[32]⟩:af).size=1:=rfl;omega
        have f2:¬(9223372036854775807<d1.size+(⟨#[58]⟩:af).size):=by have:(⟨#[58]⟩:af).size=1:=rfl;omega
        have f1':¬(9223372036854775807<1+fn.size):=by omega
        have f2':¬(9223372036854775807<d1.size+1):=by omega
        have f3:¬(9223372036854775807<d2.size+it.size):=by omega
        have f4:¬(9223372036854775807<s7.size+d3.size):=by omega
        have hfin:(s7++d3).data.toList= [102,105,110,100]++(F.take (j+1)).flatMap ui:=by rw[hstep,hd3,hd2,hd1];simp[hs7.out,ui,Du]
        have yH:=ag hfin;have Ej:=ag xZ;have HK:=ag K.out;have g1:=hd1.symm;have g2:=hd2.symm;have g3:=hd3.symm;clear hfin xZ K hs7 hd1 hd2 hd3 z1 z2 z3 hf hra hcell hfb hstep Ir hsz hit Du hitz;go_wp2_with fail;obtain⟨wX,Yc⟩:∃wX,wX=wo.alloc (.cells #[.string fn,.int .i64 ff] 116):=⟨_,rfl⟩
        obtain⟨X,hX⟩:∃X,X=wo.heap.size:=⟨_,rfl⟩
        have nX:wX.heap[X]? =some (.cells #[.string fn,.int .i64 ff] 116 (0,0)):=by rw[Yc,hX];exact aG _ _
        have KX:Keep nM wo wX:=by rw[Yc];exact(ah _ _).alloc _
        rw[<-Yc,<-hX];have b0:FoC X fn ff wX:=⟨cellOf nX 0 rfl,cellOf nX 1 rfl⟩
        have q1:∀z:rE (FoC X fn ff),z.w.cell? ⟨X,0,none⟩=some (.string fn):=λz=>z.h.1;have q2:∀z:rE (FoC X fn ff),z.w.cell? ⟨X,1,none⟩=some (.int .i64 ff):=λz=>z.h.2;have HKX:=ag KX;clear Yc hX nX KX c0 c1;refine nO (FoC X fn ff) [(true,0),(true,1),(true,2),(true,3),(true,4),(true,5),(true,6),(false,7),(true,8),(true,9),(false,10)] (by kernel_rfl) (by kernel_rfl) (λc a d v w h=>by cases d<;>exact h) ?_;simp only[oQ,nR,aj,ak,au]
        repeat(refine nJ (λK hK=> ?_);go_simp;first|(refine⟨_,λ_=>rfl,hK _ ?_⟩;clear hK K;refine nH ?_)|(refine hK _ ?_;clear hK K;refine nH ?_))
        clear q1 q2;refine⟨b0,?_⟩;go_wp2_with fail;have KY:=HKX.out.nK (ah nM wX).drew;refine(Ej.out _ KY).mono ?_;rintro e w5 ⟨rfl,K5⟩;have b1:FoC X fn ff w5:=⟨(K5.cell (p:=⟨X,0,none⟩) (Lib.lt_of_cell b0.1) (λx=>x)).trans b0.1,(K5.cell (p:=⟨X,1,none⟩) (Lib.lt_of_cell b0.2) (λx=>x)).trans b0.2⟩
        go_wp2_with fail
        repeat(refine nJ (λK hK=> ?_);go_simp;first|(refine⟨_,λ_=>rfl,hK _ ?_⟩;clear hK K;refine nH ?_)|(refine hK _ ?_;clear hK K;refine nH ?_))
        refine⟨b1,?_⟩;go_wp2_with fail;exact⟨⟨j+1,s7++d3,by omega,by go_num,rfl,yH,ag (HK.out.nK (KY.nK K5))⟩,by simp[intOf];omega⟩
       ·obtain rfl:j=n:=by omega
        have j1:¬(j:Int)<j:=by omega
        have hfull:s7=wZ F:=by apply iD;apply gU.1;rw[hs7.out,aV (by rw[<-Hn.out];exact aF _),wZ]
        have QQ:=ag hfull;clear hfull hs7;go_wp2_with fail;go_ret;exact⟨by rw[QQ.out];rfl,HS.out _ (KD.nK K.out)⟩
end
section
variable {w0:World}{DD:Nat}
end
def Nc(l:List af):af:=⟨#[115,117,109,32]⟩++txt (hex (bs (txt (sha (bs (⟨(Lib.join (l.map (·.data.toList)) [32]).toArray⟩:af))))))
def QM(st:oI)(l:List af):Ans×oI:=(.ok (Nc l),st)
def GH(x:af)(k:Nat):af:=⟨#[98,108,111,99,107,32]⟩++txt (hex (bs (txt (block (bs (txt (sha (bs x)))) k (bs ⟨#[48,48,48,48,48,48,48,48,48,48,48,48]⟩)))))
def xh(st:oI):List af->Ans×oI
 | [x,y]=>match yg y with
  | none=>(.error 3,st)
  | some n=>if 0<=n∧n<4294967296 then(.ok (GH x n.toNat),st)else(.error 1,st)
 | _=>(.error 3,st)
theorem zqa(l:List Nat):∀k,(zJ l k).length=2*k
 | 0=>rfl
 | k+1=>by rw[zJ,ay,zqa l k];simp only[aK,bI];omega
theorem Qo(l:List Nat):(hex l).length=2*l.length:=zqa l l.length
theorem Ze:∀l:List af,(Lib.join (l.map (·.data.toList)) [32]).length<=(l.map ByteArray.size).sum+l.length
 | []=>aF _
 | [x]=>by
  have h1:(Lib.join ([x].map (·.data.toList)) [32]).length=x.data.toList.length:=by simp[Lib.join]
  have h2:x.data.toList.length=x.size:=rfl;rw[h1,h2];simp
 | x::y::r=>by
  have ih:=Ze (y::r);have h1:(Lib.join ((x::y::r).map (·.data.toList)) [32]).length=x.data.toList.length+(1+(Lib.join ((y::r).map (·.data.toList)) [32]).length):=by simp[Lib.join];omega
  have h2:x.data.toList.length=x.size:=rfl;have h3:((x::y::r).map ByteArray.size).sum=x.size+((y::r).map ByteArray.size).sum:=by simp
  have h4:(x::y::r).length=(y::r).length+1:=rfl;omega
section
variable {w0:World}{DD:Nat}
theorem zjd(G:pM w0):Ul w0 DD 51 QM:=by
 intro W Q st kk rest q c hG hkk S hc uj hrs hsm hx;have Hsm:=ag hsm;clear hsm;have K0:=hG.keep;have EV:=G.errs.keep K0 (λx=>x);have PV:=G.items.pow.keep K0 (λx=>x);have NE:=G.items.errs.keep K0 (λx=>x) (λx=>x);have HS:Hid (∀w',Keep nM W w'->Done w0 DD (kk+1) st W Q w'):=ag (λw' K=>hG.same K);have hd:QM st rest=(.ok (Nc rest),st):=rfl;rw[hd];show ae 51 #[.pointer (some ⟨DD,0,none⟩),.slice q rest.length c] W λe w'=>e= .returned (.string (Nc rest))∧Done w0 DD (kk+1) st W Q w';have hjl:(Lib.join (rest.map (·.data.toList)) [32]).length<=50000:=bH (Ze rest) Hsm.out;obtain⟨J,hJ⟩:∃J:af,J=⟨(Lib.join (rest.map (·.data.toList)) [32]).toArray⟩:=⟨_,rfl⟩
 have hJz:J.size<=50000:=by rw[hJ];exact hjl
 have hjo:ae 82 #[.slice q rest.length c,.string ⟨#[32]⟩] W λe w'=>e= .returned (.string J)∧Keep nM W w':=by
  by_cases h0:rest= []
  ·subst h0;refine(Tryz.strings_Join_none q c ⟨#[32]⟩ W).mono ?_;rintro e w' ⟨rfl,rfl⟩;exact⟨by rw[hJ];rfl,ah _ _⟩
  ·obtain⟨g,off,rfl,hgl,hcell⟩:=zf S rfl (kV.2 h0);refine(Tryz.strings_Join g off c rest ⟨#[32]⟩ W (λj x hj=>by
    have zo2:=(aN.1 hj).1;rw[hcell j zo2,ax,hj];rfl) hgl (by omega) hc (bH hjl (by decide))).mono ?_
   rintro e w' ⟨rfl,hb⟩;exact⟨by rw[hJ],Keep.vg hb⟩
 have hsu:=λw1 (K:Keep nM W w1)=>sum_any J (by omega) w1 (G.rounds.keep (K0.nK K) (λx=>x));obtain⟨H,hH⟩:∃H:af,H=txt (sha (bs J)):=⟨_,rfl⟩
 have hHz:H.size=32:=by rw[hH,oU,yB]
 rw[<-hH]at hsu;have hhe:=λw1=>zc3 H (by omega) w1;obtain⟨X,hX⟩:∃X:af,X=txt (hex (bs H)):=⟨_,rfl⟩
 have hXz:X.size=64:=by rw[hX,oU,Qo,bs_len,hHz]
 rw[<-hX]at hhe;have hfin:Nc rest=⟨#[115,117,109,32]⟩++X:=by rw[Nc,hX,hH,hJ]
 rw[hfin];have FM:¬(9223372036854775807<(⟨#[115,117,109,32]⟩:af).size+X.size):=by have:(⟨#[115,117,109,32]⟩:af).size=4:=rfl;omega
 obtain⟨m,hm⟩:∃m,m=rest.length:=⟨_,rfl⟩
 rw[<-hm]at hjo⊢;have Hjo:=ag hjo;have MM:=ag hsu;have Hhe:=ag hhe;clear EV PV NE K0 S hx hc uj hrs hG hjl hJ hJz hH hHz hX hXz hfin hm hjo hsu hhe hd Hsm;go_enter Tryz.func51,Tryz.ntmps51;go_wp2_with fail;refine Hjo.out.mono ?_;rintro e w1 ⟨rfl,K1⟩;go_wp2_with fail;refine(MM.out _ K1).mono ?_;rintro e w2 ⟨rfl,K2⟩;go_wp2_with fail;refine(Hhe.out _).mono ?_;rintro e w3 ⟨rfl,K3⟩;go_wp2_with fail;go_ret;exact⟨rfl,HS.out _ ((K1.nK K2).nK K3)⟩
theorem ze3(G:pM w0):Ul w0 DD 35 xh:=by
 intro W Q st kk rest q c hG hkk S hc uj hrs hsm hx;have Hsm:=ag hsm;clear hsm;have K0:=hG.keep;have EV:=G.errs.keep K0 (λx=>x);have PV:=G.items.pow.keep K0 (λx=>x);have NE:=G.items.errs.keep K0 (λx=>x) (λx=>x);have HS:Hid (∀w',Keep nM W w'->Done w0 DD (kk+1) st W Q w'):=ag (λw' K=>hG.same K);by_cases h0:rest.length=2;rotate_left
 ·have hd:xh st rest=(.error 3,st):=by
   rcases rest with _|⟨a,_|⟨b,_|⟨d,r⟩⟩⟩
   ·rfl
   ·rfl
   ·exact absurd rfl h0
   ·rfl
  rw[hd];have hw:=rO q rest.length c 2 h0 W EV;have Hw:=ag hw;obtain⟨m,hm⟩:∃m,m=rest.length:=⟨_,rfl⟩
  rw[<-hm]at Hw⊢;show ae 35 #[.pointer (some ⟨DD,0,none⟩),.slice q m c] W λe w'=>e= .panicked [{ v:=ou 3,recovered:=false }]∧Done w0 DD (kk+1) st W Q w';clear hw EV PV NE K0 hd S hG hm hx hc uj hrs h0;go_enter Tryz.func35,Tryz.ntmps35;go_wp2_with fail;refine Hw.out.mono ?_;rintro e w1 ⟨rfl,K1⟩;go_wp2_with fail;exact⟨rfl,rfl,HS.out _ K1⟩
 ·obtain⟨x,y,rfl⟩:∃x y,rest= [x,y]:=by
   rcases rest with _|⟨a,_|⟨b,_|⟨d,r⟩⟩⟩
   ·cases h0
   ·cases h0
   ·exact⟨_,_,rfl⟩
   ·simp only[aK]at h0;omega
  obtain⟨P,D,C,bv,iv,h,hQ⟩:=hG;obtain⟨g,off,rfl,hgl,hcell⟩:=zf S rfl (kN 1);have a0:nN g off x y W:=⟨hcell 0 (kN 1),hcell 1 (kS 1)⟩
  have hx6:x.size<=20000:=hrs x (by simp);have hy6:y.size<=20000:=hrs y (by simp);have n0:0<2:=by decide
  have n1:1<2:=by decide
  have hsu:=λw1 (K:Keep nM W w1)=>sum_any x (by omega) w1 (G.rounds.keep (K0.nK K) (λx=>x));obtain⟨H,hH⟩:∃H:af,H=txt (sha (bs x)):=⟨_,rfl⟩
  have hHz:H.size=32:=by rw[hH,oU,yB]
  rw[<-hH]at hsu;have MM:=ag hsu;have ha:=λw1 (K:Keep nM W w1)=>CB y (by omega) w1 (PV.keep K (λx=>x)) (NE.keep K (λx=>x) (λx=>x)) (EV.keep K (λx=>x));simp only[JK]at ha;have l1:∀z:rE (nN g off x y),z.w.cell? ⟨g,off,none⟩=some (.string x):=λz=>z.h.1;have l2:∀z:rE (nN g off x y),z.w.cell? ⟨g,off+1,none⟩=some (.string y):=λz=>z.h.2;have HEV:Hid (∀w1,Keep nM W w1->ErrVar w1):=ag (λw1 K=>EV.keep K (λx=>x));cases hva:yg y with
  | none=>
   have hd:xh st [x,y]=(.error 3,st):=by simp only[xh,hva]
   rw[hd];rw[hva]at ha;have Ha:=ag ha;show ae 35 #[.pointer (some ⟨DD,0,none⟩),.slice (some ⟨g,off,none⟩) 2 c] W λe w'=>e= .panicked [{ v:=ou 3,recovered:=false }]∧Done w0 DD (kk+1) st W Q w';clear h EV PV NE K0 hQ hd S hx hc uj hrs hcell ha hva hsu hH hHz;go_enter Tryz.func35,Tryz.ntmps35;go_wp2_with fail;refine(pz _ 2 c W).mono ?_;rintro e w1 ⟨rfl,hw1⟩;subst w1;go_wp2_with fail;refine nO (nN g off x y) [(true,0),(true,1),(true,2),(true,4),(true,5),(true,6),(false,3),(false,7),(false,8),(true,9),(true,10),(true,11),(true,12),(false,13)] (by kernel_rfl) (by kernel_rfl) (λc a d v w h=>by cases d<;>exact h) ?_;simp only[oQ,nR,aj,ak,au]
   repeat(refine nJ (λK hK=> ?_);go_simp;first|(refine⟨_,λ_=>rfl,hK _ ?_⟩;clear hK K;refine nH ?_)|(refine hK _ ?_;clear hK K;refine nH ?_))
   clear l1 l2;refine⟨a0,?_⟩;go_wp2_with fail;refine(MM.out _ (ah nM W).drew).mono ?_;rintro e w1 ⟨rfl,K1⟩;have KA:=(ah nM W).drew.nK K1;have a1:nN g off x y w1:=⟨(KA.cell (p:=⟨g,off,none⟩) hgl (λx=>x)).trans a0.1,(KA.cell (p:=⟨g,off+1,none⟩) hgl (λx=>x)).trans a0.2⟩
   clear MM;go_wp2_with fail
   repeat(refine nJ (λK hK=> ?_);go_simp;first|(refine⟨_,λ_=>rfl,hK _ ?_⟩;clear hK K;refine nH ?_)|(refine hK _ ?_;clear hK K;refine nH ?_))
   refine⟨a1,?_⟩;go_wp2_with fail;refine(Ha.out _ KA).mono ?_;rintro e w2 ⟨rfl,K2⟩;go_wp2_with fail;exact⟨rfl,rfl,HS.out _ (KA.nK K2)⟩
  | some n=>
   rw[hva]at ha;have Ha:=ag ha;by_cases hn:0<=n∧n<4294967296;rotate_left
   ·have hd:xh st [x,y]=(.error 1,st):=by simp only[xh,hva];rw[aB hn]
    rw[hd];show ae 35 #[.pointer (some ⟨DD,0,none⟩),.slice (some ⟨g,off,none⟩) 2 c] W λe w'=>e= .panicked [{ v:=ou 1,recovered:=false }]∧Done w0 DD (kk+1) st W Q w';have Hbl:=ag (λw1=>zff H ⟨#[48,48,48,48,48,48,48,48,48,48,48,48]⟩ n (λhh=>hn hh.2.2) w1);clear h EV PV NE K0 hQ hd S hx hc uj hrs hcell ha hva hsu hH hHz hn;go_enter Tryz.func35,Tryz.ntmps35;go_wp2_with fail;refine(pz _ 2 c W).mono ?_;rintro e w1 ⟨rfl,hw1⟩;subst w1;go_wp2_with fail;refine nO (nN g off x y) [(true,0),(true,1),(true,2),(true,4),(true,5),(true,6),(false,3),(false,7),(false,8),(true,9),(true,10),(true,11),(true,12),(false,13)] (by kernel_rfl) (by kernel_rfl) (λc a d v w h=>by cases d<;>exact h) ?_;simp only[oQ,nR,aj,ak,au]
    repeat(refine nJ (λK hK=> ?_);go_simp;first|(refine⟨_,λ_=>rfl,hK _ ?_⟩;clear hK K;refine nH ?_)|(refine hK _ ?_;clear hK K;refine nH ?_))
    clear l1 l2;refine⟨a0,?_⟩;go_wp2_with fail;refine(MM.out _ (ah nM W).drew).mono ?_;rintro e w1 ⟨rfl,K1⟩;have KA:=(ah nM W).drew.nK K1;have a1:nN g off x y w1:=⟨(KA.cell (p:=⟨g,off,none⟩) hgl (λx=>x)).trans a0.1,(KA.cell (p:=⟨g,off+1,none⟩) hgl (λx=>x)).trans a0.2⟩
    clear MM;go_wp2_with fail
    repeat(refine nJ (λK hK=> ?_);go_simp;first|(refine⟨_,λ_=>rfl,hK _ ?_⟩;clear hK K;refine nH ?_)|(refine hK _ ?_;clear hK K;refine nH ?_))
    refine⟨a1,?_⟩;go_wp2_with fail;refine(Ha.out _ KA).mono ?_;rintro e w2 ⟨rfl,K2⟩;have KB:=KA.nK K2;have a2:nN g off x y w2:=⟨(KB.cell (p:=⟨g,off,none⟩) hgl (λx=>x)).trans a0.1,(KB.cell (p:=⟨g,off+1,none⟩) hgl (λx=>x)).trans a0.2⟩
    clear Ha;go_wp2_with fail
    repeat(refine nJ (λK hK=> ?_);go_simp;first|(refine⟨_,λ_=>rfl,hK _ ?_⟩;clear hK K;refine nH ?_)|(refine hK _ ?_;clear hK K;refine nH ?_))
    refine⟨a2,?_⟩;go_wp2_with fail;refine(Hbl.out _).mono ?_;rintro e w3 ⟨rfl,K3⟩;have KC:=KB.nK K3;have a3:nN g off x y w3:=⟨(KC.cell (p:=⟨g,off,none⟩) hgl (λx=>x)).trans a0.1,(KC.cell (p:=⟨g,off+1,none⟩) hgl (λx=>x)).trans a0.2⟩
    clear Hbl;go_wp2_with fail
    repeat(refine nJ (λK hK=> ?_);go_simp;first|(refine⟨_,λ_=>rfl,hK _ ?_⟩;clear hK K;refine nH ?_)|(refine hK _ ?_;clear hK K;refine nH ?_))
    refine⟨a3,?_⟩;go_wp2_with fail;refine(sZ 1 w3 (HEV.out _ KC)).mono ?_;rintro e w4 ⟨rfl,K4⟩;go_wp2_with fail;exact⟨rfl,rfl,HS.out _ (KC.nK K4)⟩
   have hd:xh st [x,y]=(.ok (GH x n.toNat),st):=by simp only[xh,hva];rw[aP hn]
   rw[hd];obtain⟨k,rfl⟩:∃k:Nat,n=k:=⟨n.toNat,by omega⟩
   rw[jf];obtain⟨B,hB⟩:∃B:af,B=txt (block (bs H) k (bs ⟨#[48,48,48,48,48,48,48,48,48,48,48,48]⟩)):=⟨_,rfl⟩
   have hBz:B.size=64:=by rw[hB,oU,NY]
   have hbl:=λw1=>Wn H ⟨#[48,48,48,48,48,48,48,48,48,48,48,48]⟩ k (ag hHz) (ag rfl) (by omega) w1;rw[<-hB]at hbl;have hhe:=λw1=>zc3 B (by omega) w1;obtain⟨X,hX⟩:∃X:af,X=txt (hex (bs B)):=⟨_,rfl⟩
   have hXz:X.size=128:=by rw[hX,oU,Qo,bs_len,hBz]
   rw[<-hX]at hhe;have hfin:GH x k=⟨#[98,108,111,99,107,32]⟩++X:=by rw[GH,hX,hB,hH]
   rw[hfin];have FM:¬(9223372036854775807<(⟨#[98,108,111,99,107,32]⟩:af).size+X.size):=by have:(⟨#[98,108,111,99,107,32]⟩:af).size=6:=rfl;omega
   have Hbl:=ag hbl;have Hhe:=ag hhe;show ae 35 #[.pointer (some ⟨DD,0,none⟩),.slice (some ⟨g,off,none⟩) 2 c] W λe w'=>e= .returned (.string (⟨#[98,108,111,99,107,32]⟩++X))∧Done w0 DD (kk+1) st W Q w';clear h EV PV NE K0 hQ hd S hx hc uj hrs hcell ha hva hsu hH hHz hn hB hBz hbl hX hXz hhe hfin;go_enter Tryz.func35,Tryz.ntmps35;go_wp2_with fail;refine(pz _ 2 c W).mono ?_;rintro e w1 ⟨rfl,hw1⟩;subst w1;go_wp2_with fail;refine nO (nN g off x y) [(true,0),(true,1),(true,2),(true,4),(true,5),(true,6),(false,3),(false,7),(false,8),(true,9),(true,10),(true,11),(true,12),(false,13)] (by kernel_rfl) (by kernel_rfl) (λc a d v w h=>by cases d<;>exact h) ?_;simp only[oQ,nR,aj,ak,au]
   repeat(refine nJ (λK hK=> ?_);go_simp;first|(refine⟨_,λ_=>rfl,hK _ ?_⟩;clear hK K;refine nH ?_)|(refine hK _ ?_;clear hK K;refine nH ?_))
   clear l1 l2;refine⟨a0,?_⟩;go_wp2_with fail;refine(MM.out _ (ah nM W).drew).mono ?_;rintro e w1 ⟨rfl,K1⟩;have KA:=(ah nM W).drew.nK K1;have a1:nN g off x y w1:=⟨(KA.cell (p:=⟨g,off,none⟩) hgl (λx=>x)).trans a0.1,(KA.cell (p:=⟨g,off+1,none⟩) hgl (λx=>x)).trans a0.2⟩
   clear MM;go_wp2_with fail
   repeat(refine nJ (λK hK=> ?_);go_simp;first|(refine⟨_,λ_=>rfl,hK _ ?_⟩;clear hK K;refine nH ?_)|(refine hK _ ?_;clear hK K;refine nH ?_))
   refine⟨a1,?_⟩;go_wp2_with fail;refine(Ha.out _ KA).mono ?_;rintro e w2 ⟨rfl,K2⟩;have KB:=KA.nK K2;have a2:nN g off x y w2:=⟨(KB.cell (p:=⟨g,off,none⟩) hgl (λx=>x)).trans a0.1,(KB.cell (p:=⟨g,off+1,none⟩) hgl (λx=>x)).trans a0.2⟩
   clear Ha;go_wp2_with fail
   repeat(refine nJ (λK hK=> ?_);go_simp;first|(refine⟨_,λ_=>rfl,hK _ ?_⟩;clear hK K;refine nH ?_)|(refine hK _ ?_;clear hK K;refine nH ?_))
   refine⟨a2,?_⟩;go_wp2_with fail;refine(Hbl.out _).mono ?_;rintro e w3 ⟨rfl,K3⟩;have KC:=KB.nK K3;have a3:nN g off x y w3:=⟨(KC.cell (p:=⟨g,off,none⟩) hgl (λx=>x)).trans a0.1,(KC.cell (p:=⟨g,off+1,none⟩) hgl (λx=>x)).trans a0.2⟩
   clear Hbl;go_wp2_with fail
   repeat(refine nJ (λK hK=> ?_);go_simp;first|(refine⟨_,λ_=>rfl,hK _ ?_⟩;clear hK K;refine nH ?_)|(refine hK _ ?_;clear hK K;refine nH ?_))
   refine⟨a3,?_⟩;go_wp2_with fail;refine(Gv _).mono ?_;rintro e w4 ⟨rfl,hw4⟩;subst w4;go_wp2_with fail;refine(Hhe.out _).mono ?_;rintro e w4 ⟨rfl,K4⟩;go_wp2_with fail;go_ret;exact⟨rfl,HS.out _ (KC.nK K4)⟩
end
theorem PT{st:oI}(h:(tH st).1=0):∃V b,(tH st).2.base=some (V,b):=by
 unfold tH at h⊢;split at h
 ·cases h
 ·split at h
  ·cases h
  ·exact⟨_,_,rfl⟩
section
variable {w0:World}{DD:Nat}
def ED(n:Int)(e:Ending):Prop:=if n=0 then e= .returned (.tuple #[])else e= .panicked [{ v:=ou n,recovered:=false }]
theorem zdf(G:pM w0){W:World}{P:Nat->Prop}{D C:Nat}{bv iv:Value}{kk:Nat}{st:oI}(h:rf w0 W P DD D C bv iv kk st)(hkk:kk<=20100):
  ae 14 #[.pointer (some ⟨DD,0,none⟩)] W λe w'=>ED (tH st).1 e∧(∃P' ML,rf w0 w' P' DD D C ML iv (kk+1) (tH st).2∧Grow W P P')∧Keep (λx=>P x∨x=DD) W w':=by
 obtain⟨S,wv,hd,Yf,-⟩:=h.body.device;obtain⟨hc,hPC⟩:=h.body.cnt;obtain⟨n,hn⟩:∃n:Nat,st.n=n:=⟨st.n.toNat,by have:=h.ok.n0;omega⟩
 rw[hn]at hc;have hnk:n<=kk:=by have:=h.ok.n1;omega
 have hne:DD≠C:=λe=>h.sep (e▸hPC);have hDd:¬qg D S wv DD:=λx=>h.sep (Yf DD x);have hCd:¬qg D S wv C:=λx=>yP hd hc x;have zmu:=h.row.lt;have KD:Keep (nY DD) W (W.setCell ⟨DD,2,none⟩ (.pointer none)):=(ah _ _).set1 2 _;have hat:=h.ok.dev.at;have hown:∀b,qg D S wv b∨b=C->w0.heap.size<=b:=λb hb=>h.body.new b (hb.elim (Yf b) (λe=>e▸hPC));have hcom:∀W1,Keep nM (W.setCell ⟨DD,2,none⟩ (.pointer none)) W1->qi W1 D S wv st.dev∧oL W1 C n∧Keep nM w0 W1∧W.heap.size<=W1.heap.size:=λW1 KW=>by have KA:Keep (nY DD) W W1:=KD.nK KW;exact⟨hd.keep KA (λb hb e=>by have e:b=DD:=e;exact hDd (e▸hb)),hc.keep KA (λe=>by have e:C=DD:=e;exact hne e.symm),h.body.keep.trans KA (λi hi e=>by have e:i=DD:=e;have:=h.new;omega),KA.size⟩
 have zjC:Grow W P (λx=>qg D S wv x∨x=C):=λx hx=> .inl (hx.elim (Yf x) (λe=>e▸hPC));have zmz:∀g,iv.ownBlock=some g->g<W.heap.size->¬(g=DD∨g=C):=λg hg hl e=>by
  obtain⟨_,h2,h3,_⟩:=h.img.own g hg;rcases e with e|e
  ·exact h3 e
  ·exact h2 (e▸hPC)
 have shut:∀(n':Int) (w':World),0<=n'->n'<=kk+1->qh w' DD D C (.pointer none) st.secret iv->qi w' D S wv st.dev->oL w' C n'->Keep (λi=>i=DD∨i=C) W w'->(∃P' ML,rf w0 w' P' DD D C ML iv (kk+1) { st with base:=none,n:=n' }∧Grow W P P')∧Keep (λx=>P x∨x=DD) W w':=by intro n' w' hn0 hn1 hr hd' hc' K;have KE:Keep nM w0 w':=h.body.keep.trans K (λi hi e=>by have:=h.body.new C hPC;have:=h.new;rcases e with e|e<;>omega);exact⟨⟨λx=>qg D S wv x∨x=C,.pointer none,⟨hr,⟨rfl,⟨S,wv,hd',λx=>kU⟩,hc',KE,λx hx=>hown x hx⟩,λhx=>hx.elim hDd hne,h.new,h.img.to zjC K zmz,h.ok.next (h.ok.dev.mono (by omega)) hn0 hn1 (λp hp=>by cases hp)⟩,zjC⟩,K.mono λi hi e=>e.elim .inr (λe=> .inl (e▸hPC))⟩
 cases ho:yS st.secret st.dev.now (n:Int)with
 | none=>
  have he:tH st=(15,{ st with base:=none }):=by simp only[tH,hn,ho]
  rw[he];refine(Wq (R:=λw'=>qi w' D S wv st.dev∧oL w' C n) (λa b ha K=>⟨ha.1.keep K (λ_ _ x=>x),ha.2.keep K (λx=>x)⟩) h.row hne λW1 KW=> ?_).mono ?_
  ·obtain⟨hd1,hc1,K1,hl⟩:=hcom W1 KW;refine(X5 hd1 hc1 (by omega) hat h.ok.sec (G.rounds.keep K1 (λx=>x)) ho).mono ?_;rintro e w2 ⟨he,hc2,K2⟩;have KE:Keep nM w0 w2:=K1.trans K2 (λi hi e=>by have e:i=C:=e;have:=h.body.new C hPC;omega);exact⟨he,G.errs.keep KE (λx=>x),⟨hd1.keep K2 (λb hb e=>by have e:b=C:=e;exact hCd (e▸hb)),hc2⟩,K2⟩
  ·rintro e w' ⟨he,hr,⟨hd',hc'⟩,K⟩;refine⟨by unfold ED;rw[aB (show¬(15:Int)=0 by decide)];exact he,?_⟩;have:=shut n w' (by omega) (by omega) hr hd' hc' K
   rwa [<-hn]at this
 | some p=>
  obtain⟨V,m⟩:=p;obtain⟨hV,hVc,_,_,hm⟩:=zgZ h.ok.sec (by omega) ho;have hm0:0<=m:=by rcases hm with e|e<;>omega
  have hm1:m<=kk+1:=by rcases hm with e|e<;>omega
  cases hp:Ad V.texts with
  | none=>
   have he:tH st=(15,{ st with base:=none,n:=m }):=by simp only[tH,hn,ho,hp]
   rw[he];refine(Wq (R:=λw'=>qi w' D S wv st.dev∧oL w' C m) (λa b ha K=>⟨ha.1.keep K (λ_ _ x=>x),ha.2.keep K (λx=>x)⟩) h.row hne λW1 KW=> ?_).mono ?_
   ·obtain⟨hd1,hc1,K1,hl⟩:=hcom W1 KW;refine(zcP hd1 K1 hown hc1 (by omega) hat h.ok.sec G.rounds G.items ho hV).mono ?_;rintro e w2 ⟨hs,K2⟩;rw[hp]at hs;obtain⟨he,hd2,hc2⟩:=hs;have KE:Keep nM w0 w2:=K1.trans K2 (λi hi e=>by have e:i=C:=e;have:=h.body.new C hPC;omega);exact⟨he,G.errs.keep KE (λx=>x),⟨hd2,hc2⟩,K2⟩
   ·rintro e w' ⟨he,hr,⟨hd',hc'⟩,K⟩;exact⟨by unfold ED;rw[aB (show¬(15:Int)=0 by decide)];exact he,shut m w' hm0 hm1 hr hd' hc' K⟩
  | some b=>
   have he:tH st=(0,{ st with base:=some (V,b),n:=m }):=by simp only[tH,hn,ho,hp]
   rw[he];refine(ZB (R:=λBB W'=>∃P',pq w0 W' P' BB D C V st.dev m b 60∧∀x,P' x->qg D S wv x∨x=C∨W.heap.size<=x) h.row hne λW1 KW=> ?_).mono ?_
   ·obtain⟨hd1,hc1,K1,hl⟩:=hcom W1 KW;refine(zcP hd1 K1 hown hc1 (by omega) hat h.ok.sec G.rounds G.items ho hV).mono ?_;rintro e w2 ⟨hs,K2⟩;rw[hp]at hs;obtain⟨BB,P',he,hB,hg⟩:=hs;exact⟨BB,he,⟨P',hB,λx hx=>(hg x hx).imp id (λh=>h.imp id (λh=>by omega))⟩,K2⟩
   ·rintro e w' ⟨he,BB,W',⟨P',hB,hg⟩,KC,hr,rfl⟩;have hnD:¬P' DD:=λhx=>by
     rcases hg DD hx with h1|h1|h1
     ·exact hDd h1
     ·exact hne h1
     ·omega
    have KS:Keep (nY DD) W' (W'.setCell ⟨DD,2,none⟩ (.pointer (some ⟨BB,0,none⟩))):=(ah _ _).set1 2 _;have hb0:uP w0 W' P' D C (.pointer (some ⟨BB,0,none⟩)) (kk+1) st.dev m (some (V,b)):=⟨BB,60,rfl,hB,by omega⟩
    have hb1:=hb0.other KS (λx hx hl=>by
     obtain rfl:x=DD:=hx;refine⟨h.new,hnD,λc t f hh=> ?_,λq M hmm=> ?_⟩
     ·have h5:W'.heap[x]? =some (.cells _ 30 (0,0)):=hr;rw[h5]at hh;cases hh;exact⟨by decide,by decide,by decide,by decide,by decide⟩
     ·obtain⟨es,cl,h8,_⟩:=hmm;have h5:W'.heap[x]? =some (.cells _ 30 (0,0)):=hr;rw[h5]at h8;cases h8)
    have Yj:Grow W P P':=λx hx=>by
     rcases hg x hx with h1|h1|h1
     ·exact .inl (Yf x h1)
     ·exact .inl (h1▸hPC)
     ·exact .inr h1
    have KF:Keep (λi=>i=DD∨i=C) W (W'.setCell ⟨DD,2,none⟩ (.pointer (some ⟨BB,0,none⟩))):=((KD.mono (S':=λi=>i=DD∨i=C) (λi hi e=> .inl e)).trans KC (λi hi e=> .inr e)).trans KS (λi hi e=> .inl e);refine⟨by unfold ED;rw[aP rfl];exact he,⟨⟨P',_,⟨hr.Qk _,hb1,hnD,h.new,h.img.to Yj KF zmz,h.ok.next (h.ok.dev.mono (by omega)) hm0 hm1 (λp hp=>by obtain rfl:=aH hp;exact hV.mono hm1)⟩,Yj⟩,KF.mono λi hi e=>e.elim .inr (λe=> .inl (e▸hPC))⟩⟩
end
section
variable {w0:World}{DD:Nat}
def FuC(DD D:Nat)(x:af)(g off:Nat)(W:World):Prop:=W.cell? ⟨DD,0,none⟩=some (.pointer (some ⟨D,0,none⟩))∧W.cell? ⟨g,off,none⟩=some (.string x)
theorem zaf{s:af}{v:Int}(h:yg s=some v): -9223372036854775808<=v∧v<=9223372036854775807:=by
 unfold yg yU at h;split at h
 ·rename_i u hu;split at h
  ·rw[<-aH h];exact Lib.atoiAll_bounds hu
  ·cases h
 ·cases h
theorem zal(l:List af)(k:Nat):(Ew l k).size=256:=by
 unfold Ew;split
 ·rw[dV,aX,tY];omega
 ·exact tY
theorem zcY(l:List af)(f:Int)(M:Nat):vC M ⟨FI l,[],f⟩:=
 ⟨by simp[FI],λs hs=>by obtain⟨i,_,rfl⟩:=bf.1 hs;exact zal _ _,λp hp=>(by cases hp),dL _⟩
theorem zhO(G:pM w0):Ul w0 DD 48 yf:=by
 intro W Q st kk rest q c hG hkk S hc uj hrs hsm hx;have Hsm:=ag hsm;clear hsm;have K0:=hG.keep;have EV:=G.errs.keep K0 (λx=>x);have PV:=G.items.pow.keep K0 (λx=>x);have NE:=G.items.errs.keep K0 (λx=>x) (λx=>x);have HS:Hid (∀w',Keep nM W w'->Done w0 DD (kk+1) st W Q w'):=ag (λw' K=>hG.same K);by_cases h0:rest.length=0;rotate_left
 ·have hd:yf st rest=(.error 3,st):=by
   rcases rest with _|⟨a,r⟩
   ·exact absurd rfl h0
   ·rfl
  rw[hd];have hw:=rO q rest.length c 0 h0 W EV;have Hw:=ag hw;obtain⟨m,hm⟩:∃m,m=rest.length:=⟨_,rfl⟩
  rw[<-hm]at Hw⊢;show ae 48 #[.pointer (some ⟨DD,0,none⟩),.slice q m c] W λe w'=>e= .panicked [{ v:=ou 3,recovered:=false }]∧Done w0 DD (kk+1) st W Q w';clear hw EV PV NE K0 hd S hG hm hx hc uj hrs h0;go_enter Tryz.func48,Tryz.ntmps48;go_wp2_with fail;refine Hw.out.mono ?_;rintro e w1 ⟨rfl,K1⟩;go_wp2_with fail;exact⟨rfl,rfl,HS.out _ K1⟩
 ·obtain rfl:=aU h0;obtain⟨P,D,C,bv,iv,h,hQ⟩:=hG;generalize hR:(λe w'=>WM (yf st []).1 e∧Done w0 DD (kk+1) (yf st []).2 W Q w')=R;have hag:=zdf G h hkk;obtain⟨s2,hs2⟩:∃s2,s2=tH st:=⟨_,rfl⟩
  rw[<-hs2]at hag;have hdone:∀w1 w9 (P':Nat->Prop) (ML:Value),rf w0 w1 P' DD D C ML iv (kk+1) s2.2->Grow W P P'->Keep (λx=>P x∨x=DD) W w1->Keep nM w1 w9->Done w0 DD (kk+1) s2.2 W Q w9:=by
   intro w1 w9 P' ML h' hg K K9;refine⟨⟨λx=>P' x∨x=DD∨iv.ownBlock=some x,⟨P',D,C,ML,iv,h'.oz K9,λx=>kU⟩,λx hx=> ?_⟩,(K.nK K9).mono λi _ hx=>(hQ i).2 (hx.imp id .inl)⟩;rcases hx with hx|hx|hx
   ·exact(hg x hx).imp (λh=>(hQ x).2 (.inl h)) id
   ·exact .inl ((hQ x).2 (.inr (.inl hx)))
   ·exact .inl ((hQ x).2 (.inr (.inr hx)))
  by_cases hz:s2.1=0
  rotate_left
  ·have HBAD:Hid (∀w1 w9 (P':Nat->Prop) (ML:Value),rf w0 w1 P' DD D C ML iv (kk+1) s2.2->Grow W P P'->Keep (λx=>P x∨x=DD) W w1->Keep nM w1 w9->R (.panicked [{ v:=ou s2.1,recovered:=false }]) w9):=ag (by
    intro w1 w9 P' ML h' hg K K9;rw[<-hR];have hd:yf st []=(.error s2.1,s2.2):=by simp only[yf];rw[<-hs2,aB hz]
    rw[hd];exact⟨rfl,hdone w1 w9 P' ML h' hg K K9⟩)
   have hag:ae 14 #[.pointer (some ⟨DD,0,none⟩)] W (λe w'=>e= .panicked [{ v:=ou s2.1,recovered:=false }]∧(∃P' ML,rf w0 w' P' DD D C ML iv (kk+1) s2.2∧Grow W P P')∧Keep (λx=>P x∨x=DD) W w'):=hag.mono (λe w' hh=>⟨by have h5:=hh.1;unfold ED at h5;rwa [aB hz]at h5,hh.2⟩);obtain⟨z,hzz⟩:∃z,z=s2.1:=⟨_,rfl⟩
   rw[<-hzz]at hag HBAD;have Hag:=ag hag;clear h EV PV NE K0 hQ S hx hc uj hrs hag hdone hR HS hzz hz hs2;go_enter Tryz.func48,Tryz.ntmps48;go_wp2_with fail;refine(pz _ 0 c W).mono ?_;rintro e w1 ⟨rfl,hw1⟩;subst w1;go_wp2_with fail;refine Hag.out.mono ?_;rintro e w1 ⟨rfl,⟨P',ML,h',hg⟩,K1⟩;go_wp2_with fail;exact⟨rfl,HBAD.out _ _ _ _ h' hg K1 (ah _ _)⟩
  obtain⟨V,b,hb⟩:∃V b,s2.2.base=some (V,b):=by rw[hs2]at hz⊢;exact PT hz
  have Qc:Hid (∀w1 w9 (P':Nat->Prop) (ML:Value),rf w0 w1 P' DD D C ML iv (kk+1) s2.2->Grow W P P'->Keep (λx=>P x∨x=DD) W w1->Keep nM w1 w9->R (.returned (.string (⟨#[111,112,101,110,32]⟩++Dq V.now.count))) w9):=ag (by
   intro w1 w9 P' ML h' hg K K9;rw[<-hR];have hd:yf st []=(.ok (⟨#[111,112,101,110,32]⟩++Dq V.now.count),s2.2):=by simp only[yf];rw[<-hs2,aP hz,zaU,hb]
   rw[hd];exact⟨rfl,hdone w1 w9 P' ML h' hg K K9⟩)
  have hag:ae 14 #[.pointer (some ⟨DD,0,none⟩)] W (λe w'=>e= .returned (.tuple #[])∧(∃P' ML,rf w0 w' P' DD D C ML iv (kk+1) s2.2∧Grow W P P')∧Keep (λx=>P x∨x=DD) W w'):=hag.mono (λe w' hh=>⟨by have h5:=hh.1;unfold ED at h5;rwa [aP hz]at h5,hh.2⟩);have Hag:=ag hag;have Hb:=ag hb;clear h EV NE hQ S hx hc uj hrs hag hdone hR HS hz hs2 hb;go_enter Tryz.func48,Tryz.ntmps48;go_wp2_with fail;refine(pz _ 0 c W).mono ?_;rintro e w1 ⟨rfl,hw1⟩;subst w1;go_wp2_with fail;refine Hag.out.mono ?_;rintro e w1 ⟨rfl,⟨P',ML,h',hg⟩,K1⟩;obtain⟨BB,k,rfl,hB,hk⟩:=sW h' Hb.out;have Eh:=h'.ok.base _ Hb.out;have hv0:0<=V.now.count:=Eh.MV;have hv1:V.now.count<=((kk+1:Nat):Int):=Eh.cnt1;have hlo: -9223372036854775808<=V.now.count:=by omega
  have hhi:V.now.count<=9223372036854775807:=by omega
  have hil:=zo V.now.count hlo hhi;have Hcn:=ag (Qq hB);have HI:Hid (∀w2,Keep nM w1 w2->ae 19 #[.int .i64 V.now.count] w2 λe w'=>e= .returned (.string (Dq V.now.count))∧Keep nM w2 w'):=ag (λw2 K=>uS V.now.count hlo hhi w2 (G.items.pow.keep (h'.body.keep.nK K) (λx=>x)));have HO:Hid (∀w9,Keep nM w1 w9->R (.returned (.string (⟨#[111,112,101,110,32]⟩++Dq V.now.count))) w9):=ag (λw9 K9=>Qc.out w1 w9 P' _ h' hg K1 K9);have c2:=h'.row.cell2;obtain⟨v,hv⟩:∃v,v=V.now.count:=⟨_,rfl⟩
  rw[<-hv]at Hcn HI HO hil;obtain⟨it,hit⟩:∃it,it=Dq v:=⟨_,rfl⟩
  rw[<-hit]at HI hil HO;have FM:¬(9223372036854775807<(⟨#[111,112,101,110,32]⟩:af).size+it.size):=by have:(⟨#[111,112,101,110,32]⟩:af).size=5:=rfl;omega
  clear Hag Qc Hb hB hk Eh hv0 hv1 hlo hhi hil h' hg K1 hv hit;go_wp2_with fail;refine Hcn.out.mono ?_;rintro e w2 ⟨rfl,K2⟩;go_wp2_with fail;refine(HI.out _ K2).mono ?_;rintro e w3 ⟨rfl,K3⟩;go_wp2_with fail;(try go_ret);exact HO.out _ (K2.nK K3)
theorem zhR(G:pM w0):Ul w0 DD 42 Be:=by
 intro W Q st kk rest q c hG hkk S hc uj hrs hsm hx;have Hsm:=ag hsm;clear hsm;have K0:=hG.keep;have EV:=G.errs.keep K0 (λx=>x);have PV:=G.items.pow.keep K0 (λx=>x);have NE:=G.items.errs.keep K0 (λx=>x) (λx=>x);have HS:Hid (∀w',Keep nM W w'->Done w0 DD (kk+1) st W Q w'):=ag (λw' K=>hG.same K);by_cases h0:rest.length=1;rotate_left
 ·have hd:Be st rest=(.error 3,st):=by
   rcases rest with _|⟨a,_|⟨b,r⟩⟩
   ·rfl
   ·exact absurd rfl h0
   ·rfl
  rw[hd];have hw:=rO q rest.length c 1 h0 W EV;have Hw:=ag hw;obtain⟨m,hm⟩:∃m,m=rest.length:=⟨_,rfl⟩
  rw[<-hm]at Hw⊢;show ae 42 #[.pointer (some ⟨DD,0,none⟩),.slice q m c] W λe w'=>e= .panicked [{ v:=ou 3,recovered:=false }]∧Done w0 DD (kk+1) st W Q w';clear hw EV PV NE K0 hd S hG hm hx hc uj hrs h0;go_enter Tryz.func42,Tryz.ntmps42;go_wp2_with fail;refine Hw.out.mono ?_;rintro e w1 ⟨rfl,K1⟩;go_wp2_with fail;exact⟨rfl,rfl,HS.out _ K1⟩
 ·obtain⟨x,rfl⟩:∃x,rest= [x]:=jr.1 h0;have hG0:=hG;obtain⟨P,D,C,bv,iv,h,hQ⟩:=hG;obtain⟨g,off,rfl,hgl,hcell⟩:=zf S rfl (iG);have a0:Ie x g off W:=hcell 0 (iG);have Yj:¬P g:=λhp=>hx g rfl ((hQ g).2 (.inl hp));have hx6:x.size<=20000:=hrs x (bD.2 rfl);have n0:0<1:=by decide
  obtain⟨Sd,wv,hdv,Yf,hst⟩:=h.body.device;have b0:FuC DD D x g off W:=⟨h.row.cell0,a0⟩
  have hnum:=λw1 (K:Keep nM W w1)=>CB x (by omega) w1 (PV.keep K (λx=>x)) (NE.keep K (λx=>x) (λx=>x)) (EV.keep K (λx=>x));simp only[JK]at hnum;have l1:∀y:rE (FuC DD D x g off),y.w.cell? ⟨DD,0,none⟩=some (.pointer (some ⟨D,0,none⟩)):=λy=>y.h.1;have l2:∀y:rE (FuC DD D x g off),y.w.cell? ⟨g,off,none⟩=some (.string x):=λy=>y.h.2;cases hv:yg x with
  | none=>
   have hd:Be st [x]=(.error 3,st):=by simp only[Be,hv]
   rw[hd];rw[hv]at hnum;have tq:=ag hnum;show ae 42 #[.pointer (some ⟨DD,0,none⟩),.slice (some ⟨g,off,none⟩) 1 c] W λe w'=>e= .panicked [{ v:=ou 3,recovered:=false }]∧Done w0 DD (kk+1) st W Q w';clear h EV PV NE K0 hQ hd S hx hc uj hrs hcell hnum a0 hv hdv hst Yf;go_enter Tryz.func42,Tryz.ntmps42;go_wp2_with fail;refine(pz _ 1 c W).mono ?_;rintro e w1 ⟨rfl,hw1⟩;subst w1;go_wp2_with fail;refine nO (FuC DD D x g off) [(true,0),(true,1),(true,2),(true,3),(true,4),(true,5),(true,6),(false,7),(false,8)] (by kernel_rfl) (by kernel_rfl) (λc a d v w h=>by cases d<;>exact h) ?_;simp only[oQ,nR,aj,ak,au]
   repeat(refine nJ (λK hK=> ?_);go_simp;first|(refine⟨_,λ_=>rfl,hK _ ?_⟩;clear hK K;refine nH ?_)|(refine hK _ ?_;clear hK K;refine nH ?_))
   clear l1 l2;refine⟨b0,?_⟩;go_wp2_with fail;refine(tq.out _ (ah nM W).drew).mono ?_;rintro e w1 ⟨rfl,K1⟩;go_wp2_with fail;exact⟨rfl,rfl,HS.out _ ((ah nM W).drew.nK K1)⟩
  | some n=>
   rw[hv]at hnum;have tq:=ag hnum;have hd:Be st [x]=(.ok Xk,{ st with dev:=⟨st.dev.sure,st.dev.wait,max n (-1)⟩ }):=by simp only[Be,hv]
   rw[hd];show ae 42 #[.pointer (some ⟨DD,0,none⟩),.slice (some ⟨g,off,none⟩) 1 c] W λe w'=>e= .returned (.string Xk)∧Done w0 DD (kk+1) { st with dev:=⟨st.dev.sure,st.dev.wait,max n (-1)⟩ } W Q w';have hnb:=zaf hv;have HF:Hid (∀w1,Keep nM W w1->ae 76 #[.pointer (some ⟨D,0,none⟩),.int .i64 n] w1 λe w'=>e= .returned (.tuple #[])∧qi w' D Sd wv ⟨st.dev.sure,st.dev.wait,max n (-1)⟩∧Keep (nY D) w1 w'):=ag (λw1 K=>zhh (hdv.keep K (λ_ _ x=>x)) n hnb.2);have HD:Hid (∀w1 w',Keep nM W w1->qi w' D Sd wv ⟨st.dev.sure,st.dev.wait,max n (-1)⟩->Keep (nY D) w1 w'->Done w0 DD (kk+1) { st with dev:=⟨st.dev.sure,st.dev.wait,max n (-1)⟩ } W Q w'):=ag (by intro w1 w' K1 hd' K2;obtain⟨P',hB',hg,KP⟩:=hst hd' (.inl rfl) ((K1.vN (S:=qg D Sd wv)).then (K2.mono (S':=qg D Sd wv) (λi _ e=> .inl e)));exact rf.done hQ hg KP (h.step (hB'.more (ik _)) hg KP rfl rfl (h.ok.next ⟨h.ok.dev.len,h.ok.dev.sure,h.ok.dev.wait,by have:=h.ok.dev.few;show st.dev.wait.length<=_;omega⟩ h.ok.n0 (by have:=h.ok.n1;omega) (λp hp=>(h.ok.base p hp).mono (by omega)))))
   clear h EV PV NE K0 hQ hd S hx hc uj hrs hcell hnum a0 hv hdv hst Yf hnb HS;go_enter Tryz.func42,Tryz.ntmps42;go_wp2_with fail;refine(pz _ 1 c W).mono ?_;rintro e w1 ⟨rfl,hw1⟩;subst w1;go_wp2_with fail;refine nO (FuC DD D x g off) [(true,0),(true,1),(true,2),(true,3),(true,4),(true,5),(true,6),(false,7),(false,8)] (by kernel_rfl) (by kernel_rfl) (λc a d v w h=>by cases d<;>exact h) ?_;simp only[oQ,nR,aj,ak,au]
   repeat(refine nJ (λK hK=> ?_);go_simp;first|(refine⟨_,λ_=>rfl,hK _ ?_⟩;clear hK K;refine nH ?_)|(refine hK _ ?_;clear hK K;refine nH ?_))
   clear l1 l2;refine⟨b0,?_⟩;go_wp2_with fail;refine(tq.out _ (ah nM W).drew).mono ?_;rintro e w1 ⟨rfl,K1⟩;have b1:FuC DD D x g off w1:=⟨(K1.cell (p:=⟨DD,0,none⟩) (Lib.lt_of_cell b0.1) (λx=>x)).trans b0.1,(K1.cell (p:=⟨g,off,none⟩) hgl (λx=>x)).trans b0.2⟩
   go_wp2_with fail;refine⟨b1,?_⟩;go_wp2_with fail;have KW:=(ah nM W).drew.nK K1;refine(HF.out _ KW).mono ?_;rintro e w2 ⟨rfl,hd2,K2⟩;go_wp2_with fail;go_ret;exact⟨rfl,HD.out _ _ KW hd2 K2⟩
theorem zhP(G:pM w0):Ul w0 DD 44 BI:=by
 intro W Q st kk rest q c hG hkk S hc uj hrs hsm hx;have Hsm:=ag hsm;clear hsm;have K0:=hG.keep;have EV:=G.errs.keep K0 (λx=>x);have PV:=G.items.pow.keep K0 (λx=>x);have NE:=G.items.errs.keep K0 (λx=>x) (λx=>x);have HS:Hid (∀w',Keep nM W w'->Done w0 DD (kk+1) st W Q w'):=ag (λw' K=>hG.same K);by_cases h0:rest.length=0;rotate_left
 ·have hd:BI st rest=(.error 3,st):=by
   rcases rest with _|⟨a,r⟩
   ·exact absurd rfl h0
   ·rfl
  rw[hd];have hw:=rO q rest.length c 0 h0 W EV;have Hw:=ag hw;obtain⟨m,hm⟩:∃m,m=rest.length:=⟨_,rfl⟩
  rw[<-hm]at Hw⊢;show ae 44 #[.pointer (some ⟨DD,0,none⟩),.slice q m c] W λe w'=>e= .panicked [{ v:=ou 3,recovered:=false }]∧Done w0 DD (kk+1) st W Q w';clear hw EV PV NE K0 hd S hG hm hx hc uj hrs h0;go_enter Tryz.func44,Tryz.ntmps44;go_wp2_with fail;refine Hw.out.mono ?_;rintro e w1 ⟨rfl,K1⟩;go_wp2_with fail;exact⟨rfl,rfl,HS.out _ K1⟩
 ·obtain rfl:=aU h0;obtain⟨P,D,C,bv,iv,h,hQ⟩:=hG;have hd:BI st []=(.ok Rq,{ st with image:=st.dev.sure }):=rfl;rw[hd];show ae 44 #[.pointer (some ⟨DD,0,none⟩),.slice q 0 c] W λe w'=>e= .returned (.string Rq)∧Done w0 DD (kk+1) { st with image:=st.dev.sure } W Q w';obtain⟨Sd,wv,hdv,Yf,-⟩:=h.body.device;have c0:=h.row.cell0;have hlt:=h.row.lt;have hDf:∀w1,Keep nM W w1->w1.frozen? ⟨DD,4,none⟩=false∧w1.cell? ⟨DD,4,none⟩=some iv:=λw1 K=>by
   have hr:=h.row.keep K (λx=>x);exact⟨by have h2:w1.heap[DD]? =some (.cells _ _ (0,0)):=hr;simp[World.frozen?,h2],hr.YB⟩
  have HD:Hid (∀w1 g cg,Keep nM W w1->Strs w1 (.slice (some ⟨g,0,none⟩) 66 cg) st.dev.sure->W.heap.size<=g->(∃cs fz,w1.heap[g]? =some (.cells cs 9 fz))->Done w0 DD (kk+1) { st with image:=st.dev.sure } W Q (w1.setCell ⟨DD,4,none⟩ (.slice (some ⟨g,0,none⟩) 66 cg))):=ag (by
   intro w1 g cg K1 hS hg ⟨cs,fz,hty⟩;have hr:=h.row.keep K1 (λx=>x);have hb1:=h.body.oz K1;have hgl:=lt_of_heap hty;have hgD:g≠DD:=by omega
   have Yj:¬P g:=λhp=>by have:=h.body.lt g hp;omega
   have hw0:w0.heap.size<=W.heap.size:=h.body.keep.size;have KS:Keep (nY DD) w1 (w1.setCell ⟨DD,4,none⟩ (.slice (some ⟨g,0,none⟩) 66 cg)):=(ah _ _).set1 4 _;have hrow:qh (w1.setCell ⟨DD,4,none⟩ (.slice (some ⟨g,0,none⟩) 66 cg)) DD D C bv st.secret (.slice (some ⟨g,0,none⟩) 66 cg):=by show(w1.setCell ⟨DD,4,none⟩ _).heap[DD]? =_;rw[oM hr];rfl
   have hb2:=hb1.other KS (λx hx hl=>by
    obtain rfl:x=DD:=hx;have h5:w1.heap[x]? =some (.cells _ 30 (0,0)):=hr;refine⟨h.new,h.sep,λc t f hh=> ?_,λq M hmm=> ?_⟩
    ·rw[h5]at hh;cases hh;exact⟨by decide,by decide,by decide,by decide,by decide⟩
    ·obtain⟨es,cl,h8,_⟩:=hmm;rw[h5]at h8;cases h8)
   have hne:∀q,(Value.slice (some ⟨g,0,none⟩) 66 cg).ownBlock=some q->¬nY DD q:=λq hq e=>by obtain rfl:g=q:=aH hq;exact hgD e
   have hI:rf w0 (w1.setCell ⟨DD,4,none⟩ (.slice (some ⟨g,0,none⟩) 66 cg)) P DD D C bv (.slice (some ⟨g,0,none⟩) 66 cg) (kk+1) { st with image:=st.dev.sure } :=by refine⟨hrow,hb2.more (ik _),h.sep,h.new,⟨hS.keep KS hne,λq hq=> ?_⟩,⟨h.ok.dev.mono (by omega),h.ok.sec,h.ok.n0,by have:=h.ok.n1;show st.n<=((kk+1:Nat):Int);omega,λp hp=>(h.ok.base p hp).mono (by omega),by rw[h.ok.dev.len];exact aF _,λs hs=>by rw[h.ok.dev.sure s hs];exact aF _⟩⟩;obtain rfl:g=q:=aH hq;exact⟨by omega,Yj,hgD,cs,fz,KS.heap hty (λe=>hgD e)⟩
   refine⟨⟨λx=>P x∨x=DD∨(Value.slice (some ⟨g,0,none⟩) 66 cg).ownBlock=some x,⟨P,D,C,bv,_,hI,λx=>kU⟩,λx hx=> ?_⟩,(K1.vN (S:=Q)).then (KS.mono λi _ e=>(hQ i).2 (.inr (.inl e)))⟩;rcases hx with hx|hx|hx
   ·exact .inl ((hQ x).2 (.inl hx))
   ·exact .inl ((hQ x).2 (.inr (.inl hx)))
   ·obtain rfl:g=x:=aH hx;exact .inr hg)
  have Him:=ag (zes hdv);have Hdf:=ag hDf;clear h EV PV NE K0 hQ S hx hc uj hrs hd hdv Yf HS hDf;go_enter Tryz.func44,Tryz.ntmps44;go_wp2_with fail;refine(pz _ 0 c W).mono ?_;rintro e w1 ⟨rfl,hw1⟩;subst w1;go_wp2_with fail;refine Him.out.mono ?_;rintro e w1 ⟨g,cg,rfl,hS,hg,hty,K1⟩;have c4:=(Hdf.out w1 K1).2;have f4:=(Hdf.out w1 K1).1;have HS:=ag hS;have Hty:=ag hty;clear hS hty Him;go_wp2_with fail;go_ret;exact⟨rfl,HD.out _ _ _ K1 HS.out hg Hty.out⟩
theorem zjf(G:pM w0):Ul w0 DD 46 JU:=by
 intro W Q st kk rest q c hG hkk S hc uj hrs hsm hx;have Hsm:=ag hsm;clear hsm;have K0:=hG.keep;have EV:=G.errs.keep K0 (λx=>x);have PV:=G.items.pow.keep K0 (λx=>x);have NE:=G.items.errs.keep K0 (λx=>x) (λx=>x);have HS:Hid (∀w',Keep nM W w'->Done w0 DD (kk+1) st W Q w'):=ag (λw' K=>hG.same K);by_cases h0:rest.length=0;rotate_left
 ·have hd:JU st rest=(.error 3,st):=by
   rcases rest with _|⟨a,r⟩
   ·exact absurd rfl h0
   ·rfl
  rw[hd];have hw:=rO q rest.length c 0 h0 W EV;have Hw:=ag hw;obtain⟨m,hm⟩:∃m,m=rest.length:=⟨_,rfl⟩
  rw[<-hm]at Hw⊢;show ae 46 #[.pointer (some ⟨DD,0,none⟩),.slice q m c] W λe w'=>e= .panicked [{ v:=ou 3,recovered:=false }]∧Done w0 DD (kk+1) st W Q w';clear hw EV PV NE K0 hd S hG hm hx hc uj hrs h0;go_enter Tryz.func46,Tryz.ntmps46;go_wp2_with fail;refine Hw.out.mono ?_;rintro e w1 ⟨rfl,K1⟩;go_wp2_with fail;exact⟨rfl,rfl,HS.out _ K1⟩
 ·obtain rfl:=aU h0;obtain⟨P,D,C,bv,iv,h,hQ⟩:=hG;have hd:JU st []=(.ok za8,{ st with dev:=⟨FI st.image,[],st.dev.oD⟩ }):=rfl;rw[hd];show ae 46 #[.pointer (some ⟨DD,0,none⟩),.slice q 0 c] W λe w'=>e= .returned (.string za8)∧Done w0 DD (kk+1) { st with dev:=⟨FI st.image,[],st.dev.oD⟩ } W Q w';obtain⟨Sd,wv,hdv,Yf,hst⟩:=h.body.device;have a1:zik DD D iv W:=⟨h.row.cell0,h.row.YB⟩
  have HL:Hid (∀w1,Keep nM W w1->ae 79 #[.pointer (some ⟨D,0,none⟩),iv] w1 λe w'=>e= .returned (.tuple #[])∧qi w' D Sd (.slice none 0 0) ⟨FI st.image,[],st.dev.oD⟩∧Keep (qg D Sd wv) w1 w'):=ag (λw1 K=>zcX (hdv.keep K (λ_ _ x=>x)) iv st.image (h.img.strs.keep K (λ_ _ x=>x)) (by have:=h.ok.len;omega) (λs hs=>by have:=h.ok.img s hs;omega) (λb hb hx=>(h.img.own b hb).2.1 (Yf b hx)));have HD:Hid (∀w1 w',Keep nM W w1->qi w' D Sd (.slice none 0 0) ⟨FI st.image,[],st.dev.oD⟩->Keep (qg D Sd wv) w1 w'->Done w0 DD (kk+1) { st with dev:=⟨FI st.image,[],st.dev.oD⟩ } W Q w'):=ag (by intro w1 w' K1 hd' K2;obtain⟨P',hB',hg,KP⟩:=hst hd' (.inr (λb hb=>by cases hb)) ((K1.vN (S:=qg D Sd wv)).then K2);exact rf.done hQ hg KP (h.step (hB'.more (ik _)) hg KP rfl rfl (h.ok.next (zcY _ _ _) h.ok.n0 (by have:=h.ok.n1;omega) (λp hp=>(h.ok.base p hp).mono (by omega)))))
  have l1:∀y:rE (zik DD D iv),y.w.cell? ⟨DD,0,none⟩=some (.pointer (some ⟨D,0,none⟩)):=λy=>y.h.1;have l2:∀y:rE (zik DD D iv),y.w.cell? ⟨DD,4,none⟩=some iv:=λy=>y.h.2;clear h EV PV NE K0 hQ S hx hc uj hrs hd hdv Yf HS hst;go_enter Tryz.func46,Tryz.ntmps46;go_wp2_with fail;refine(pz _ 0 c W).mono ?_;rintro e w1 ⟨rfl,hw1⟩;subst w1;go_wp2_with fail;refine nO (zik DD D iv) [(true,0),(true,1),(true,2),(true,3),(true,4),(true,5),(true,6),(true,7),(false,8)] (by kernel_rfl) (by kernel_rfl) (λc a d v w h=>by cases d<;>exact h) ?_;simp only[oQ,nR,aj,ak,au]
  repeat(refine nJ (λK hK=> ?_);go_simp;first|(refine⟨_,λ_=>rfl,hK _ ?_⟩;clear hK K;refine nH ?_)|(refine hK _ ?_;clear hK K;refine nH ?_))
  clear l1 l2;refine⟨a1,?_⟩;go_wp2_with fail;refine(HL.out _ (ah nM W).drew).mono ?_;rintro e w1 ⟨rfl,hd1,K1⟩;go_wp2_with fail;go_ret;exact⟨rfl,HD.out _ _ (ah nM W).drew hd1 K1⟩
theorem zeZ(G:pM w0):Ul w0 DD 5 JS:=by
 intro W Q st kk rest q c hG hkk S hc uj hrs hsm hx;have Hsm:=ag hsm;clear hsm;have K0:=hG.keep;have EV:=G.errs.keep K0 (λx=>x);have PV:=G.items.pow.keep K0 (λx=>x);have NE:=G.items.errs.keep K0 (λx=>x) (λx=>x);have HS:Hid (∀w',Keep nM W w'->Done w0 DD (kk+1) st W Q w'):=ag (λw' K=>hG.same K);by_cases h0:rest.length=1;rotate_left
 ·have hd:JS st rest=(.error 3,st):=by
   rcases rest with _|⟨a,_|⟨b,r⟩⟩
   ·rfl
   ·exact absurd rfl h0
   ·rfl
  rw[hd];have hw:=rO q rest.length c 1 h0 W EV;have Hw:=ag hw;obtain⟨m,hm⟩:∃m,m=rest.length:=⟨_,rfl⟩
  rw[<-hm]at Hw⊢;show ae 5 #[.pointer (some ⟨DD,0,none⟩),.slice q m c] W λe w'=>e= .panicked [{ v:=ou 3,recovered:=false }]∧Done w0 DD (kk+1) st W Q w';clear hw EV PV NE K0 hd S hG hm hx hc uj hrs h0;go_enter Tryz.func5,Tryz.ntmps5;go_wp2_with fail;refine Hw.out.mono ?_;rintro e w1 ⟨rfl,K1⟩;go_wp2_with fail;exact⟨rfl,rfl,HS.out _ K1⟩
 ·obtain⟨x,rfl⟩:∃x,rest= [x]:=jr.1 h0;have hG0:=hG;obtain⟨P,D,C,bv,iv,h,hQ⟩:=hG;obtain⟨g,off,rfl,hgl,hcell⟩:=zf S rfl (iG);have a0:Ie x g off W:=hcell 0 (iG);have Yj:¬P g:=λhp=>hx g rfl ((hQ g).2 (.inl hp));have hx6:x.size<=20000:=hrs x (bD.2 rfl);have n0:0<1:=by decide
  have hd:JS st [x]=(.ok WS,MQ x):=rfl;rw[hd];have hgD:g≠DD:=λe=>hx g rfl ((hQ g).2 (.inr (.inl e)));have hlt:=h.row.lt;have hrD:¬nY DD 0:=λe=>by have e:0=DD:=e;have h1:=dX (G.rounds 0 (by decide));have h2:(0:Nat)<w0.heap.size:=h1;have:=h.new;omega
  refine(Pz (wz:=w0) x (by omega) h.row a0 hgD K0 h.new G (G.rounds.keep K0 (λx=>x)) hrD).mono ?_;rintro e w' ⟨rfl,⟨BB,D',C',P',hS,hP'⟩,K⟩;refine⟨rfl,⟨λy=>P' y∨y=DD∨(Value.slice none 0 0).ownBlock=some y,⟨P',D',C',_,_,⟨hS.row,⟨BB,60,rfl,hS.base,by omega⟩,hS.sep,hS.new,JL.nil _ _ _ _,?_⟩,λy=>kU⟩,λy hy=> ?_⟩,K.mono λi _ e=>(hQ i).2 (.inr (.inl e))⟩
  ·refine⟨⟨by simp[MQ,wU],λs hs=> ?_,λp hp=>(by cases hp),dL _⟩,DY _,jO _,by show(0:Int)<=_;omega,λp hp=> ?_,dL _,λs hs=>by cases hs⟩
   ·rw[kZ hs];exact tY
   ·obtain rfl:=aH hp;exact(Ry (DY _)).mono (by omega)
  ·rcases hy with hy|hy|hy
   ·exact .inr (hP' y hy)
   ·exact .inl ((hQ y).2 (.inr (.inl hy)))
   ·cases hy
end
section
variable {w0:World}{DD:Nat}
end
def Rj:af:=⟨#[115,112,111,105,108]⟩
def vk(st:oI):List af->Ans×oI
 | [x,y]=>match yg x with
  | none=>(.error 3,st)
  | some a=>match yg y with
   | none=>(.error 3,st)
   | some k=>if a<0∨66<=a∨k<0∨256<=k then(.error 2,st)
    else(.ok Rj,{ st with dev:=⟨FI (st.dev.sure.set a.toNat (txt ((bs (st.dev.sure.getD a.toNat ⟨#[]⟩)).set k.toNat ((bs (st.dev.sure.getD a.toNat ⟨#[]⟩)).getD k.toNat 0^^^1)))),[],st.dev.oD⟩ })
 | _=>(.error 3,st)
theorem zer{w:World}{D S:Nat}{wv:Value}{d:pG}(h:qi w D S wv d):
  ae 77 #[.pointer (some ⟨D,0,none⟩)] w λe w'=>∃g c cur,e= .returned (.slice (some ⟨g,0,none⟩) 66 c)∧w.heap.size<=g∧w'.heap[g]? =some (.cells cur 9 (0,0))∧cur.toList.take 66=d.sure.map Value.string∧Keep nM w w':=by
 obtain⟨_,c,cD,_⟩:=h.cell1;have hb:∀j,j<d.sure.length->w.cell? ⟨S,0+j,none⟩=some (.string (d.sure.getD j ByteArray.empty)):=λj hj=>by rw[dM];exact(h.block j (by rw[<-h.len];exact hj)).1
 have hl:=h.len;have hc:=Tryz.slices_Clone_string S 0 66 c d.sure w (by omega) (by omega) hb;rw[aV (by omega)]at hc;clear hb;have Hl:=ag hl;clear hl;go_enter Tryz.func77,Tryz.ntmps77;go_wp2_with fail;refine hc.mono ?_;clear hc;rintro e w1 ⟨v',rfl,ho,hne,hB⟩;rcases ho.2 with⟨_,h0⟩|⟨g,cap,cur,rfl,hg,hh,h1,h2,h3,htake⟩
 ·cases h0
 ·go_wp2_with fail;go_ret;exact⟨g,cap,cur,rfl,hg,hh,by rw[ng]at htake;rw[htake],Keep.vg hB⟩
theorem WO{cur:Array Value}{l:List af}(h:cur.toList.take 66=l.map Value.string)(hl:l.length=66){i:Nat}(hi:i<66):cur[i]? =some (.string (l.getD i ⟨#[]⟩)):=by
 have h1:(cur.toList.take 66)[i]? =(l.map Value.string)[i]? :=by rw[h]
 rw[fG,aP hi,iU]at h1;rw[h1,bC,aC (by omega),ax,aC (by omega)];rfl
theorem ziO{w:World}{g:Nat}{cur:Array Value}{l:List af}(h:w.heap[g]? =some (.cells cur 9 (0,0)))(ht:cur.toList.take 66=l.map Value.string)(hl:l.length=66){a:Nat}(ha:a<66)(t:af)(c:Nat):Strs (w.setCell ⟨g,a,none⟩ (.string t)) (.slice (some ⟨g,0,none⟩) 66 c) (l.set a t):=by
 have hr:=oM (i:=a) h (.string t);refine .inr ⟨g,0,c,by rw[dN,hl],lt_of_heap hr,λi hi=> ?_⟩;rw[dN,hl]at hi;rw[dM];refine cellOf hr i ?_;have hsz:a<cur.size:=by have:=WO ht hl ha;exact(fO.1 this).1
 rw[jZ];by_cases e:a=i
 ·subst e;rw[aP rfl,aP hsz,ax,jW (by omega)];rfl
 ·rw[aB e,WO ht hl hi,ax,ax,mf e]
section
variable {w0:World}{DD:Nat}
theorem zeX(G:pM w0):Ul w0 DD 50 vk:=by
 intro W Q st kk rest q c hG hkk S hc uj hrs hsm hx;have Hsm:=ag hsm;clear hsm;have K0:=hG.keep;have EV:=G.errs.keep K0 (λx=>x);have PV:=G.items.pow.keep K0 (λx=>x);have NE:=G.items.errs.keep K0 (λx=>x) (λx=>x);have HS:Hid (∀w',Keep nM W w'->Done w0 DD (kk+1) st W Q w'):=ag (λw' K=>hG.same K);by_cases h0:rest.length=2;rotate_left
 ·have hd:vk st rest=(.error 3,st):=by
   rcases rest with _|⟨a,_|⟨b,_|⟨d,r⟩⟩⟩
   ·rfl
   ·rfl
   ·exact absurd rfl h0
   ·rfl
  rw[hd];have hw:=rO q rest.length c 2 h0 W EV;have Hw:=ag hw;obtain⟨m,hm⟩:∃m,m=rest.length:=⟨_,rfl⟩
  rw[<-hm]at Hw⊢;show ae 50 #[.pointer (some ⟨DD,0,none⟩),.slice q m c] W λe w'=>e= .panicked [{ v:=ou 3,recovered:=false }]∧Done w0 DD (kk+1) st W Q w';clear hw EV PV NE K0 hd S hG hm hx hc uj hrs h0;go_enter Tryz.func50,Tryz.ntmps50;go_wp2_with fail;refine Hw.out.mono ?_;rintro e w1 ⟨rfl,K1⟩;go_wp2_with fail;exact⟨rfl,rfl,HS.out _ K1⟩
 ·obtain⟨x,y,rfl⟩:∃x y,rest= [x,y]:=by
   rcases rest with _|⟨a,_|⟨b,_|⟨d,r⟩⟩⟩
   ·cases h0
   ·cases h0
   ·exact⟨_,_,rfl⟩
   ·simp only[aK]at h0;omega
  obtain⟨P,D,C,bv,iv,h,hQ⟩:=hG;obtain⟨g,off,rfl,hgl,hcell⟩:=zf S rfl (kN 1);have a0:nN g off x y W:=⟨hcell 0 (kN 1),hcell 1 (kS 1)⟩
  have hx6:x.size<=20000:=hrs x (by simp);have hy6:y.size<=20000:=hrs y (by simp);have n0:0<2:=by decide
  have n1:1<2:=by decide
  have ha:=λw1 (K:Keep nM W w1)=>CB x (by omega) w1 (PV.keep K (λx=>x)) (NE.keep K (λx=>x) (λx=>x)) (EV.keep K (λx=>x));have hb:=λw1 (K:Keep nM W w1)=>CB y (by omega) w1 (PV.keep K (λx=>x)) (NE.keep K (λx=>x) (λx=>x)) (EV.keep K (λx=>x));simp only[JK]at ha hb;have l1:∀z:rE (nN g off x y),z.w.cell? ⟨g,off,none⟩=some (.string x):=λz=>z.h.1;have l2:∀z:rE (nN g off x y),z.w.cell? ⟨g,off+1,none⟩=some (.string y):=λz=>z.h.2;have HEV:Hid (∀w1,Keep nM W w1->ErrVar w1):=ag (λw1 K=>EV.keep K (λx=>x));cases hva:yg x with
  | none=>
   have hd:vk st [x,y]=(.error 3,st):=by simp only[vk,hva]
   rw[hd];rw[hva]at ha;have Ha:=ag ha;show ae 50 #[.pointer (some ⟨DD,0,none⟩),.slice (some ⟨g,off,none⟩) 2 c] W λe w'=>e= .panicked [{ v:=ou 3,recovered:=false }]∧Done w0 DD (kk+1) st W Q w';clear h EV PV NE K0 hQ hd S hx hc uj hrs hcell ha hb hva;go_enter Tryz.func50,Tryz.ntmps50;go_wp2_with fail;refine(pz _ 2 c W).mono ?_;rintro e w1 ⟨rfl,hw1⟩;subst w1;go_wp2_with fail;refine nO (nN g off x y) [(true,0),(true,1),(true,2),(true,4),(true,5),(true,6),(false,3),(false,7),(true,8),(false,9)] (by kernel_rfl) (by kernel_rfl) (λc a d v w h=>by cases d<;>exact h) ?_;simp only[oQ,nR,aj,ak,au]
   repeat(refine nJ (λK hK=> ?_);go_simp;first|(refine⟨_,λ_=>rfl,hK _ ?_⟩;clear hK K;refine nH ?_)|(refine hK _ ?_;clear hK K;refine nH ?_))
   clear l1 l2;refine⟨a0,?_⟩;go_wp2_with fail;refine(Ha.out _ (ah nM W).drew).mono ?_;rintro e w2 ⟨rfl,K2⟩;go_wp2_with fail;exact⟨rfl,rfl,HS.out _ ((ah nM W).drew.nK K2)⟩
  | some na=>
   rw[hva]at ha;have Ha:=ag ha;cases hvb:yg y with
   | none=>
    have hd:vk st [x,y]=(.error 3,st):=by simp only[vk,hva,hvb]
    rw[hd];rw[hvb]at hb;have Hb:=ag hb;show ae 50 #[.pointer (some ⟨DD,0,none⟩),.slice (some ⟨g,off,none⟩) 2 c] W λe w'=>e= .panicked [{ v:=ou 3,recovered:=false }]∧Done w0 DD (kk+1) st W Q w';clear h EV PV NE K0 hQ hd S hx hc uj hrs hcell ha hb hva hvb;go_enter Tryz.func50,Tryz.ntmps50;go_wp2_with fail;refine(pz _ 2 c W).mono ?_;rintro e w1 ⟨rfl,hw1⟩;subst w1;go_wp2_with fail;refine nO (nN g off x y) [(true,0),(true,1),(true,2),(true,4),(true,5),(true,6),(false,3),(false,7),(true,8),(false,9)] (by kernel_rfl) (by kernel_rfl) (λc a d v w h=>by cases d<;>exact h) ?_;simp only[oQ,nR,aj,ak,au]
    repeat(refine nJ (λK hK=> ?_);go_simp;first|(refine⟨_,λ_=>rfl,hK _ ?_⟩;clear hK K;refine nH ?_)|(refine hK _ ?_;clear hK K;refine nH ?_))
    clear l1 l2;refine⟨a0,?_⟩;go_wp2_with fail;refine(Ha.out _ (ah nM W).drew).mono ?_;rintro e w1 ⟨rfl,K1⟩;have KA:=(ah nM W).drew.nK K1;have a1:nN g off x y w1:=⟨(KA.cell (p:=⟨g,off,none⟩) hgl (λx=>x)).trans a0.1,(KA.cell (p:=⟨g,off+1,none⟩) hgl (λx=>x)).trans a0.2⟩
    clear Ha;go_wp2_with fail
    repeat(refine nJ (λK hK=> ?_);go_simp;first|(refine⟨_,λ_=>rfl,hK _ ?_⟩;clear hK K;refine nH ?_)|(refine hK _ ?_;clear hK K;refine nH ?_))
    refine⟨a1,?_⟩;go_wp2_with fail;refine(Hb.out _ KA).mono ?_;rintro e w2 ⟨rfl,K2⟩;go_wp2_with fail;exact⟨rfl,rfl,HS.out _ (KA.nK K2)⟩
   | some nb=>
    rw[hvb]at hb;have Hb:=ag hb;obtain⟨Sd,wv,hdv,Yf,hst⟩:=h.body.device;have c0:=h.row.cell0;have hlt:=h.row.lt;have hc0:∀w1,Keep nM W w1->w1.cell? ⟨DD,0,none⟩=some (.pointer (some ⟨D,0,none⟩)):=λw1 K=>(h.row.keep K (λx=>x)).cell0;have Hc0:=ag hc0;have Him:=ag (λw1 (K:Keep nM W w1)=>zer (hdv.keep K (λ_ _ x=>x)));by_cases hbad:na<0∨66<=na∨nb<0∨256<=nb
    ·have hd:vk st [x,y]=(.error 2,st):=by simp only[vk,hva,hvb];rw[aP hbad]
     rw[hd];show ae 50 #[.pointer (some ⟨DD,0,none⟩),.slice (some ⟨g,off,none⟩) 2 c] W λe w'=>e= .panicked [{ v:=ou 2,recovered:=false }]∧Done w0 DD (kk+1) st W Q w';have znu:=ag hbad;clear h EV PV NE K0 hQ hd S hx hc uj hrs hcell ha hb hva hvb hdv Yf hst c0 hc0 hbad;go_enter Tryz.func50,Tryz.ntmps50;go_wp2_with fail;refine(pz _ 2 c W).mono ?_;rintro e w1 ⟨rfl,hw1⟩;subst w1;go_wp2_with fail;refine nO (nN g off x y) [(true,0),(true,1),(true,2),(true,4),(true,5),(true,6),(false,3),(false,7),(true,8),(false,9)] (by kernel_rfl) (by kernel_rfl) (λc a d v w h=>by cases d<;>exact h) ?_;simp only[oQ,nR,aj,ak,au]
     repeat(refine nJ (λK hK=> ?_);go_simp;first|(refine⟨_,λ_=>rfl,hK _ ?_⟩;clear hK K;refine nH ?_)|(refine hK _ ?_;clear hK K;refine nH ?_))
     clear l1 l2;refine⟨a0,?_⟩;go_wp2_with fail;refine(Ha.out _ (ah nM W).drew).mono ?_;rintro e w1 ⟨rfl,K1⟩;have KA:=(ah nM W).drew.nK K1;have a1:nN g off x y w1:=⟨(KA.cell (p:=⟨g,off,none⟩) hgl (λx=>x)).trans a0.1,(KA.cell (p:=⟨g,off+1,none⟩) hgl (λx=>x)).trans a0.2⟩
     clear Ha;go_wp2_with fail
     repeat(refine nJ (λK hK=> ?_);go_simp;first|(refine⟨_,λ_=>rfl,hK _ ?_⟩;clear hK K;refine nH ?_)|(refine hK _ ?_;clear hK K;refine nH ?_))
     refine⟨a1,?_⟩;go_wp2_with fail;refine(Hb.out _ KA).mono ?_;rintro e w2 ⟨rfl,K2⟩;have KB:=KA.nK K2;have a2:nN g off x y w2:=⟨(KB.cell (p:=⟨g,off,none⟩) hgl (λx=>x)).trans a0.1,(KB.cell (p:=⟨g,off+1,none⟩) hgl (λx=>x)).trans a0.2⟩
     have c2:=Hc0.out w2 KB;clear Hb;go_wp2_with fail
     repeat(refine nJ (λK hK=> ?_);go_simp;first|(refine⟨_,λ_=>rfl,hK _ ?_⟩;clear hK K;refine nH ?_)|(refine hK _ ?_;clear hK K;refine nH ?_))
     refine⟨a2,?_⟩;go_wp2_with fail;refine(Him.out _ KB).mono ?_;rintro e w3 ⟨gI,cI,cur,rfl,hgI,hty,htk,K3⟩;have KC:=KB.nK K3;clear Him hgI hty htk c2 Hc0;have fin:∀(b1 b2 b3 b4:Bool),b1=decide (na<0)->b2=decide (66<=na)->b3=decide (nb<0)->b4=decide (256<=nb)->(b1||b2||b3||b4)=true:=λb1 b2 b3 b4 e1 e2 e3 e4=>by
      rw[e1,e2,e3,e4];simp only[dP,aS];rcases znu.out with h|h|h|h
      ·exact .inl (.inl (.inl h))
      ·exact .inl (.inl (.inr h))
      ·exact .inl (.inr h)
      ·exact .inr h
     by_cases q1:na<0
     ·go_wp2_with fail;refine(sZ 2 w3 (HEV.out _ KC)).mono ?_;rintro e w4 ⟨rfl,K4⟩;go_wp2_with fail;exact⟨rfl,rfl,HS.out _ (KC.nK K4)⟩
     by_cases q2:(66:Int)<=na
     ·go_wp2_with fail;refine(sZ 2 w3 (HEV.out _ KC)).mono ?_;rintro e w4 ⟨rfl,K4⟩;go_wp2_with fail;exact⟨rfl,rfl,HS.out _ (KC.nK K4)⟩
     by_cases q3:nb<0
     ·go_wp2_with fail;refine(sZ 2 w3 (HEV.out _ KC)).mono ?_;rintro e w4 ⟨rfl,K4⟩;go_wp2_with fail;exact⟨rfl,rfl,HS.out _ (KC.nK K4)⟩
     have q4:(256:Int)<=nb:=by
      rcases znu.out with h|h|h|h
      ·exact absurd h q1
      ·exact absurd h q2
      ·exact absurd h q3
      ·exact h
     go_wp2_with fail;refine(sZ 2 w3 (HEV.out _ KC)).mono ?_;rintro e w4 ⟨rfl,K4⟩;go_wp2_with fail;exact⟨rfl,rfl,HS.out _ (KC.nK K4)⟩
    have q1:¬na<0:=λe=>hbad (.inl e);have q2:¬(66:Int)<=na:=λe=>hbad (.inr (.inl e));have q3:¬nb<0:=λe=>hbad (.inr (.inr (.inl e)));have q4:¬(256:Int)<=nb:=λe=>hbad (.inr (.inr (.inr e)));obtain⟨a,rfl⟩:∃a:Nat,na=a:=⟨na.toNat,by omega⟩
    obtain⟨k,rfl⟩:∃k:Nat,nb=k:=⟨nb.toNat,by omega⟩
    have zkU:a<66:=by omega
    have zfM:k<256:=by omega
    obtain⟨s,hs⟩:∃s,s=st.dev.sure.getD a ⟨#[]⟩:=⟨_,rfl⟩
    have hsz:s.size=256:=by rw[hs];exact getD_mem (P:=λs=>s.size=256) h.ok.dev.sure a (by rw[h.ok.dev.len];exact zkU)
    obtain⟨nv,hnv⟩:∃nv:Nat,nv=(bs s).getD k 0^^^1:=⟨_,rfl⟩
    obtain⟨L,hL⟩:∃L,L=st.dev.sure.set a (txt ((bs s).set k nv)):=⟨_,rfl⟩
    have hd:vk st [x,y]=(.ok Rj,{ st with dev:=⟨FI L,[],st.dev.oD⟩ }):=by simp only[vk,hva,hvb];rw[aB hbad,jf,jf,<-hs,<-hnv,<-hL]
    rw[hd];show ae 50 #[.pointer (some ⟨DD,0,none⟩),.slice (some ⟨g,off,none⟩) 2 c] W λe w'=>e= .returned (.string Rj)∧Done w0 DD (kk+1) { st with dev:=⟨FI L,[],st.dev.oD⟩ } W Q w';have hLl:L.length=66:=by rw[hL,dN,h.ok.dev.len]
    have hLs:∀t∈L,t.size<=1000000:=λt ht=>by
     rw[hL]at ht;rcases iT ht with ht|rfl
     ·rw[h.ok.dev.sure t ht];decide
     ·rw[oU,dN,bs_len,hsz];decide
    have zmv:st.dev.sure.length=66:=h.ok.dev.len;have zp5:Hid (∀w1 gI cI,Keep nM W w1->W.heap.size<=gI->Strs w1 (.slice (some ⟨gI,0,none⟩) 66 cI) L->ae 79 #[.pointer (some ⟨D,0,none⟩),.slice (some ⟨gI,0,none⟩) 66 cI] w1 λe w'=>e= .returned (.tuple #[])∧qi w' D Sd (.slice none 0 0) ⟨FI L,[],st.dev.oD⟩∧Keep (qg D Sd wv) w1 w'):=ag (λw1 gI cI K hg hS=>zcX (hdv.keep K (λ_ _ x=>x)) _ L hS (by omega) hLs (λb hb hx=>by obtain rfl:gI=b:=aH hb;have:=h.body.lt gI (Yf gI hx);omega))
    have HD:Hid (∀w1 w',Keep nM W w1->qi w' D Sd (.slice none 0 0) ⟨FI L,[],st.dev.oD⟩->Keep (qg D Sd wv) w1 w'->Done w0 DD (kk+1) { st with dev:=⟨FI L,[],st.dev.oD⟩ } W Q w'):=ag (by intro w1 w' K1 hd' K2;obtain⟨P',hB',hg,KP⟩:=hst hd' (.inr (λb hb=>by cases hb)) ((K1.vN (S:=qg D Sd wv)).then K2);exact rf.done hQ hg KP (h.step (hB'.more (ik _)) hg KP rfl rfl (h.ok.next (zcY _ _ _) h.ok.n0 (by have:=h.ok.n1;omega) (λp hp=>(h.ok.base p hp).mono (by omega)))))
    have Hs:=ag hs;have Hnv:=ag hnv;have HL:=ag hL;have zlc:=ag zmv;have Hsz:=ag hsz;have zp9:=ag zfM;have q5:a<66:=zkU;have q6:(a:Int)<66:=by omega
    have q7:k<256:=zfM;have q8:(k:Int)<256:=by omega
    clear h EV PV NE K0 hQ hd S hx hc uj hrs hcell ha hb hva hvb hdv Yf hst c0 hc0 hbad hs hnv hL hLl hLs zmv hsz zkU zfM HS;go_enter Tryz.func50,Tryz.ntmps50;go_wp2_with fail;refine(pz _ 2 c W).mono ?_;rintro e w1 ⟨rfl,hw1⟩;subst w1;go_wp2_with fail;refine nO (nN g off x y) [(true,0),(true,1),(true,2),(true,4),(true,5),(true,6),(false,3),(false,7),(true,8),(false,9)] (by kernel_rfl) (by kernel_rfl) (λc a d v w h=>by cases d<;>exact h) ?_;simp only[oQ,nR,aj,ak,au]
    repeat(refine nJ (λK hK=> ?_);go_simp;first|(refine⟨_,λ_=>rfl,hK _ ?_⟩;clear hK K;refine nH ?_)|(refine hK _ ?_;clear hK K;refine nH ?_))
    clear l1 l2;refine⟨a0,?_⟩;go_wp2_with fail;refine(Ha.out _ (ah nM W).drew).mono ?_;rintro e w1 ⟨rfl,K1⟩;have KA:=(ah nM W).drew.nK K1;have a1:nN g off x y w1:=⟨(KA.cell (p:=⟨g,off,none⟩) hgl (λx=>x)).trans a0.1,(KA.cell (p:=⟨g,off+1,none⟩) hgl (λx=>x)).trans a0.2⟩
    clear Ha;go_wp2_with fail
    repeat(refine nJ (λK hK=> ?_);go_simp;first|(refine⟨_,λ_=>rfl,hK _ ?_⟩;clear hK K;refine nH ?_)|(refine hK _ ?_;clear hK K;refine nH ?_))
    refine⟨a1,?_⟩;go_wp2_with fail;refine(Hb.out _ KA).mono ?_;rintro e w2 ⟨rfl,K2⟩;have KB:=KA.nK K2;have a2:nN g off x y w2:=⟨(KB.cell (p:=⟨g,off,none⟩) hgl (λx=>x)).trans a0.1,(KB.cell (p:=⟨g,off+1,none⟩) hgl (λx=>x)).trans a0.2⟩
    have c2:=Hc0.out w2 KB;clear Hb;go_wp2_with fail
    repeat(refine nJ (λK hK=> ?_);go_simp;first|(refine⟨_,λ_=>rfl,hK _ ?_⟩;clear hK K;refine nH ?_)|(refine hK _ ?_;clear hK K;refine nH ?_))
    refine⟨a2,?_⟩;go_wp2_with fail;refine(Him.out _ KB).mono ?_;rintro e w3 ⟨gI,cI,cur,rfl,hgI,hty,htk,K3⟩;have KC:=KB.nK K3;have c3:=Hc0.out w3 KC;have zlG:w3.cell? ⟨gI,a,none⟩=some (.string s):=by rw[Hs.out];exact cellOf hty a (WO htk zlc.out q5)
    have hcv:=jh (P:=Tryz.prog) w3 9 33 5 s Tryz.underlying9 Tryz.underlying33 Tryz.underlying5;rw[Hsz.out]at hcv;obtain⟨B,hB⟩:∃B,B=w3.heap.size:=⟨_,rfl⟩
    obtain⟨cB,hcB⟩:∃cB,cB=grownCap w3 256 0 5:=⟨_,rfl⟩
    obtain⟨w4,hw4⟩:∃w4,w4=Lib.bytesWorld w3 5 s:=⟨_,rfl⟩
    have R4:vP w4 B 5 (bs s):=by rw[hw4,hB];exact vP.ofBytes w3 _ s
    have K4:Keep nM w3 w4:=by rw[hw4];exact(ah _ _).bytesWorld _ _
    rw[<-hw4,<-hB,<-hcB]at hcv;have hkl:k<(bs s).length:=by rw[bs_len,Hsz.out];exact zp9.out
    have b4:=R4.cell k hkl;have f4:=R4.free k hkl;have hxv:bits .xor .u8 (((bs s).getD k 0:Nat):Int) 1=(nv:Int):=by rw[Hnv.out];exact zfZ _ 1 (IP s k) (by decide)
    have HgI:=ag hgI;have HR4:=ag R4;have HK4:=ag K4;have HKC:=ag KC;have znx:Hid (W.heap.size<=w2.heap.size):=ag KB.size;have HB:=ag hB;have Hty:=ag hty;have Htk:=ag htk;obtain⟨bv0,zmJ⟩:∃z,z=(bs s).getD k 0:=⟨_,rfl⟩
    rw[<-zmJ]at b4 hxv;clear hgI R4 K4 hB hty htk c2 hcB hw4 zmJ Him;go_upto_region 7 with(fail)
    clear hcv zlG;go_upto_region 8 with(fail)
    obtain⟨w5,hw5⟩:∃w5,w5=w4.setCell ⟨B,k,none⟩ (.int .u8 (nv:Int)):=⟨_,rfl⟩
    rw[<-hw5];have R5:vP w5 B 5 ((bs s).set k nv):=by rw[hw5];exact HR4.out.store k hkl rfl
    have K5:Keep nM w3 w5:=by rw[hw5];exact HK4.out.setCell (p:=⟨B,k,none⟩) (.inr (by rw[<-HB.out];exact aF _)) _
    have hcv2:=xK (P:=Tryz.prog) (cap:=cB) R5 Tryz.underlying33 Tryz.underlying5 Tryz.underlying9;rw[dN,bs_len,Hsz.out]at hcv2;obtain⟨tx,htx⟩:∃tx,tx=txt ((bs s).set k nv):=⟨_,rfl⟩
    rw[<-htx]at hcv2;have hr5:=K5.heap Hty.out (λx=>x);have c5:w5.cell? ⟨gI,a,none⟩=some (.string s):=cellOf hr5 a (by rw[Hs.out];exact WO Htk.out zlc.out q5);have f5:w5.frozen? ⟨gI,a,none⟩=false:=by simp[World.frozen?,hr5]
    have HK5:=ag K5;have Hr5:=ag hr5;have Htx:=ag htx;clear hw5 R5 K5 hr5 htx b4 f4 hxv;go_upto_region 9 with(fail)
    obtain⟨w6,hw6⟩:∃w6,w6=w5.setCell ⟨gI,a,none⟩ (.string tx):=⟨_,rfl⟩
    rw[<-hw6];have S6:Strs w6 (.slice (some ⟨gI,0,none⟩) 66 cI) L:=by rw[hw6,HL.out,<-Htx.out];exact ziO Hr5.out Htk.out zlc.out q5 tx cI
    have K6:Keep nM W w6:=by rw[hw6];exact(HKC.out.nK HK5.out).setCell (p:=⟨gI,a,none⟩) (.inr (bH (znx.out) HgI.out)) _
    have c6:=Hc0.out w6 K6;have Hly:=ag (zp5.out w6 gI cI K6 (bH znx.out HgI.out) S6);have HK6:=ag K6;clear hw6 S6 K6 c5 f5 hcv2 c3;go_wp2_with fail;refine Hly.out.mono ?_;rintro e w7 ⟨rfl,hd7,K7⟩;go_wp2_with fail;go_ret;exact⟨rfl,HD.out _ _ HK6.out hd7 K7⟩
end
section
variable {w0:World}{DD:Nat}
end
theorem Sr(s:af):∀(f p:Nat),(Es s f p).length<=f
 | 0,_=>aF _
 | f+1,p=>by
  unfold Es;split
  ·exact Nat.succ_le_succ (Sr s f _)
  ·exact dL _
theorem zb7(s:af):(Nj s).length<=s.size:=by unfold Nj;rw[aI];exact Sr _ _ _
def Oo(w:World)(g:Nat)(s:af)(pos:Nat):World:= { w with heap:=w.heap.setIfInBounds g (.stringIter s pos) }
theorem zbr{w:World}{g pos:Nat}{s:af}(h:g<w.heap.size):(Oo w g s pos).heap[g]? =some (.stringIter s pos):=by simp[Oo,h]
theorem zbq(w:World)(g:Nat)(s:af)(pos:Nat):Keep (nY g) w (Oo w g s pos):=
 ⟨rfl,rfl,rfl,by simp[Oo],λk hk hn=>by
  have:g≠k:=λe=>hn e.symm
  simp[Oo,jZ,this]⟩
theorem ziX{P:Program}(w:World)(g:Nat)(s:af)(pos:Nat)(ty:TypeId)(h:w.heap[g]? =some (.stringIter s pos))(hp:pos<s.size):
  (Instr.next (.pointer (some ⟨g,0,none⟩)) true ty).run P w= .ok (.tuple #[.bool true,.int .i64 pos,.int .i32 (Utf8.decode s pos).1]) (Oo w g s (pos+(Utf8.decode s pos).2)):=by
 simp[Instr.next,getObj,setObj,jG,Sem.run,h,Result.andThen,hp,goInt,Oo]
theorem zee{P:Program}(w:World)(g:Nat)(s:af)(pos:Nat)(ty:TypeId)(h:w.heap[g]? =some (.stringIter s pos))(hp:¬pos<s.size):
  (Instr.next (.pointer (some ⟨g,0,none⟩)) true ty).run P w= .ok (.tuple #[.bool false]) w:=by
 simp[Instr.next,getObj,Sem.run,h,hp]
theorem iterPos_at{w:World}{g:Nat}{s:af}{pos:Nat}(h:w.heap[g]? =some (.stringIter s pos)):w.iterPos g=pos:=by simp[World.iterPos,h]
theorem ZY(s:af)(f p:Nat)(h:¬p<s.size):Es s f p= []:=by
 cases f with
 | zero=>rfl
 | succ f=>simp[Es,h]
theorem PG(s:af)(pos:Nat)(h:pos<s.size):1<=(Utf8.decode s pos).2:=by
 by_cases ha:(s[pos]'h).toNat<128
 ·rw[decode_ascii s pos h ha];exact aF _
 ·exact(decode_high s pos h (by omega)).2
theorem zfc{w:World}{base:Nat}{E:TypeId}{v:Value}{l:List Bool}(h:nV w base E 1 v l.length (l.map Value.bool)):Bools w v l:=by
 by_cases h0:0<l.length
 ·obtain⟨g,cap,rfl,hg,hc,_⟩:=h.at h0;refine .inr ⟨g,0,cap,rfl,hg,λi hi=> ?_⟩;rw[dM];exact hc i _ (by rw[bC,ax,aC hi];rfl)
 ·have hnil:l= []:=aU (by omega);subst hnil;rcases h.2 with⟨hv,_⟩|⟨g,cap,cur,fz,hv,_⟩
  ·exact .inl ⟨rfl,_,_,hv⟩
  ·exact .inl ⟨rfl,_,_,hv⟩
theorem zeu{wait:List (Nat×af)}(h:∀p∈wait,p.2.size=256)(k:Nat)(hw:k<wait.length):(wait.getD k (0,⟨#[]⟩)).2.size=256:=by rw[ax,aC hw];exact h _ (fD hw)
theorem zeT{kk:Nat}{st:oI}(h:uI kk st)(x:af):uI kk (Gl st x):=by
 have hc:∀k,k<=st.dev.wait.length->(qo st.dev.sure st.dev.wait (Nj x) k).length=66∧∀s∈qo st.dev.sure st.dev.wait (Nj x) k,s.size=256:=by
  intro k
  induction k with
  | zero=>exact λ_=>⟨h.dev.len,h.dev.sure⟩
  | succ k ih=>
   intro hkw;have ih:=ih (by omega);unfold qo;split
   ·refine⟨by rw[dN];exact ih.1,λs hs=> ?_⟩;rcases iT hs with hs|rfl
    ·exact ih.2 s hs
    ·exact zeu h.dev.wait k (by omega)
   ·exact ih
 exact⟨⟨(hc _ (aF _)).1,(hc _ (aF _)).2,λp hp=>(by cases hp),dL _⟩,h.sec,h.n0,h.n1,h.base,h.len,h.img⟩
theorem zn8(n:Nat):((n:Int)==49)=decide (n=49):=by
 by_cases h:n=49
 ·subst h;rfl
 ·rw[bV h];exact dS.2 (λe=>h (by omega))
theorem zfd(b:Bool):∀u∈ [Value.bool b],u.oneCell'=true:=by
 intro u hu;obtain rfl:u= .bool b:=by simpa using hu
 rfl
theorem zfe:∃i,Tryz.prog.info? 4=some i∧i.zero=some (.bool false)∧i.size=1∧i.bytes=1:=by
 have h:(Tryz.prog.info? 4).map (λi=>(i.zero,i.size,i.bytes))=some (some (.bool false),1,1):=by kernel_rfl
 cases hi:Tryz.prog.info? 4 with
 | none=>rw[hi]at h;cases h
 | some i=>
  rw[hi]at h;simp only[eQ,eU,iE]at h;exact⟨i,rfl,h.1,h.2.1,h.2.2⟩
section
variable {w0:World}{DD:Nat}
theorem ze1(G:pM w0):Ul w0 DD 38 xg:=by
 intro W Q st kk rest q c hG hkk S hc uj hrs hsm hx;have Hsm:=ag hsm;clear hsm;have K0:=hG.keep;have EV:=G.errs.keep K0 (λx=>x);have PV:=G.items.pow.keep K0 (λx=>x);have NE:=G.items.errs.keep K0 (λx=>x) (λx=>x);have HS:Hid (∀w',Keep nM W w'->Done w0 DD (kk+1) st W Q w'):=ag (λw' K=>hG.same K);by_cases h0:rest.length=1;rotate_left
 ·have hd:xg st rest=(.error 3,st):=by
   rcases rest with _|⟨a,_|⟨b,r⟩⟩
   ·rfl
   ·exact absurd rfl h0
   ·rfl
  rw[hd];have hw:=rO q rest.length c 1 h0 W EV;have Hw:=ag hw;obtain⟨m,hm⟩:∃m,m=rest.length:=⟨_,rfl⟩
  rw[<-hm]at Hw⊢;show ae 38 #[.pointer (some ⟨DD,0,none⟩),.slice q m c] W λe w'=>e= .panicked [{ v:=ou 3,recovered:=false }]∧Done w0 DD (kk+1) st W Q w';clear hw EV PV NE K0 hd S hG hm hx hc uj hrs h0;go_enter Tryz.func38,Tryz.ntmps38;go_wp2_with fail;refine Hw.out.mono ?_;rintro e w1 ⟨rfl,K1⟩;go_wp2_with fail;exact⟨rfl,rfl,HS.out _ K1⟩
 ·obtain⟨x,rfl⟩:∃x,rest= [x]:=jr.1 h0;have hG0:=hG;obtain⟨P,D,C,bv,iv,h,hQ⟩:=hG;obtain⟨g,off,rfl,hgl,hcell⟩:=zf S rfl (iG);have a0:Ie x g off W:=hcell 0 (iG);have Yj:¬P g:=λhp=>hx g rfl ((hQ g).2 (.inl hp));have hx6:x.size<=20000:=hrs x (bD.2 rfl);have n0:0<1:=by decide
  obtain⟨Sd,wv,hdv,Yf,hst⟩:=h.body.device;obtain⟨ks,hks⟩:∃ks,ks=Nj x:=⟨_,rfl⟩
  have hkl:ks.length<=x.size:=hks▸zb7 x;obtain⟨s1,hs1⟩:∃s1,s1=Gl st x:=⟨_,rfl⟩
  have hok1:uI kk s1:=by rw[hs1];exact zeT h.ok x
  have HC:Hid (∀w1 v,Keep nM W w1->Bools w1 v ks->(∀b,v.ownBlock=some b->W.heap.size<=b)->ae 70 #[.pointer (some ⟨D,0,none⟩),v] w1 λe w3=>e= .returned (.tuple #[])∧(∃P',rf w0 w3 P' DD D C bv iv kk s1∧Grow W P P')∧Keep P W w3):=ag (by intro w1 v K1 hB hv;refine(zeS (hdv.keep K1 (λ_ _ x=>x)) v ks hB (by omega) (λ_ b hb hx=>by have:=hv b hb;have:=Zu hdv b hx;omega)).mono ?_;rintro e w3 ⟨rfl,hd3,K3⟩;subst hs1;obtain⟨P',hB',hg,KP⟩:=hst (zdp:=(Gl st x).dev) (by rw[Gl,<-hks];exact hd3) (.inr (λb hb=>by cases hb)) ((K1.vN (S:=qg D Sd wv)).then K3);exact⟨rfl,⟨P',h.step hB' hg KP rfl rfl hok1,hg⟩,KP⟩)
  obtain⟨s2,hs2⟩:∃s2,s2=tH s1:=⟨_,rfl⟩
  have HA:Hid (∀w3 P',rf w0 w3 P' DD D C bv iv kk s1->ae 14 #[.pointer (some ⟨DD,0,none⟩)] w3 λe w4=>ED s2.1 e∧(∃P2 ML,rf w0 w4 P2 DD D C ML iv (kk+1) s2.2∧Grow w3 P' P2)∧Keep (λx=>P' x∨x=DD) w3 w4):=ag (λw3 P' h3=>by rw[hs2];exact zdf G h3 hkk);have HD:Hid (∀w3 w4 w9 P' P2 ML,Grow W P P'->Keep P W w3->rf w0 w4 P2 DD D C ML iv (kk+1) s2.2->Grow w3 P' P2->Keep (λx=>P' x∨x=DD) w3 w4->Keep nM w4 w9->Done w0 DD (kk+1) s2.2 W Q w9):=ag (by
   intro w3 w4 w9 P' P2 ML hg KP h' hg2 K4 K9;have hs3:=KP.size;have K:Keep (λx=>P x∨x=DD) W w4:=(KP.mono (λ_ _ e=> .inl e)).trans K4 (λi hi hx=>hx.elim (λe=> .inl ((hg i e).elim id (λe=>by omega))) .inr);refine⟨⟨λx=>P2 x∨x=DD∨iv.ownBlock=some x,⟨P2,D,C,ML,iv,h'.oz K9,λx=>kU⟩,λx hx=> ?_⟩,(K.nK K9).mono λi _ hx=>(hQ i).2 (hx.imp id .inl)⟩;rcases hx with hx|hx|hx
   ·rcases hg2 x hx with h1|h1
    ·exact(hg x h1).imp (λh=>(hQ x).2 (.inl h)) id
    ·exact .inr (by omega)
   ·exact .inl ((hQ x).2 (.inr (.inl hx)))
   ·exact .inl ((hQ x).2 (.inr (.inr hx))))
  generalize hR:(λe w'=>WM (xg st [x]).1 e∧Done w0 DD (kk+1) (xg st [x]).2 W Q w')=R;have HBAD:Hid (s2.1≠0->∀w9,Done w0 DD (kk+1) s2.2 W Q w9->R (.panicked [{ v:=ou s2.1,recovered:=false }]) w9):=ag (by
   intro hz w9 hd9;rw[<-hR];have hd:xg st [x]=(.error s2.1,s2.2):=by simp only[xg];rw[<-hs1,<-hs2,aB hz]
   rw[hd];exact⟨rfl,hd9⟩)
  have Qc:Hid (∀V b,s2.2.base=some (V,b)->s2.1=0->∀w9,Done w0 DD (kk+1) s2.2 W Q w9->R (.returned (.string (⟨#[99,114,97,115,104,32]⟩++Dq V.now.count))) w9):=ag (by
   intro V b hb hz w9 hd9;rw[<-hR];have hd:xg st [x]=(.ok (⟨#[99,114,97,115,104,32]⟩++Dq V.now.count),s2.2):=by simp only[xg];rw[<-hs1,<-hs2,aP hz,zaU,hb]
   rw[hd];exact⟨rfl,hd9⟩)
  have HB2:Hid (s2.1=0->∃V b,s2.2.base=some (V,b)):=ag (λhz=>by rw[hs2]at hz⊢;exact PT hz);have Hks:=ag hks;have HPV:Hid (∀w1,Keep nM w0 w1->uH w1):=ag (λw1 K=>G.items.pow.keep K (λx=>x));obtain⟨i0,hi0,hz0,hsz0,hb0⟩:=zfe;obtain⟨g0,hg0⟩:∃g0,g0=W.heap.size:=⟨_,rfl⟩
  have a1:W.cell? ⟨g,off,none⟩=some (.string x):=a0;have c0:=h.row.cell0;have hDg:DD<W.heap.size:=h.row.lt;have Hg0:=ag hg0;clear h EV PV NE K0 hQ S hx hc uj hrs hcell hR HS hks hs1 hs2 hok1 hst Yf hdv Yj hG0 hg0;go_enter Tryz.func38,Tryz.ntmps38;go_wp2_with fail;refine(pz _ 1 c W).mono ?_;rintro e w1 ⟨rfl,hw1⟩;subst w1;go_wp2_with fail
  go_loopw [5] (λlv wr=>∃(o:Value) (pos f:Nat) (bl:List Bool),o=lv∧Hid (wr.heap[W.heap.size]? =some (.stringIter x pos))∧Hid (nV wr (W.heap.size+1) 4 1 o bl.length (bl.map Value.bool))∧Hid (ks=bl++(Es x f pos).map λc=>decide (c=49))∧x.size<=pos+f∧bl.length<=pos∧Hid (Keep nM W wr)) (λ_ wr=>x.size-wr.iterPos W.heap.size)
  case atStart=>exact⟨_,0,x.size,[],rfl,ag (World.iter_heap W x 0),ag (nV.nil _ _ _ _),ag Hks.out,by omega,aF _,ag ((ah nM W).alloc _)⟩
  case round=>
   obtain⟨o,pos,f,bl,rfl,hit,hO,hK,hf,hbp,K⟩:=hrel;obtain⟨wo,rfl⟩:∃wo,wo=wr:=⟨_,rfl⟩
   by_cases hp:pos<x.size
   ·obtain⟨c1,hc1⟩:∃c1,c1=(Utf8.decode x pos).1:=⟨_,rfl⟩
    obtain⟨dw,hdw⟩:∃dw,dw=(Utf8.decode x pos).2:=⟨_,rfl⟩
    have hdp:1<=dw:=by rw[hdw];exact PG x pos hp
    obtain⟨ws,hws⟩:∃ws,ws=Oo wo W.heap.size x (pos+dw):=⟨_,rfl⟩
    have hlw:=lt_of_heap hit.out;have hi1:ws.heap[W.heap.size]? =some (.stringIter x (pos+dw)):=by rw[hws];exact zbr hlw
    have KS:Keep (nY W.heap.size) wo ws:=by rw[hws];exact zbq _ _ _ _
    have HO1:=ag (hO.out.keep KS (λb hb e=>by have e:b=W.heap.size:=e;have:=(hO.out.lt b hb).1;omega));have BU:Hid (Keep nM W ws):=ag (K.out.trans KS (λi hi e=>by have e:i=W.heap.size:=e;omega));have hnx:∀ty,(Instr.next (.pointer (some ⟨W.heap.size,0,none⟩)) true ty).run Tryz.prog wo= .ok (.tuple #[.bool true,.int .i64 pos,.int .i32 c1]) ws:=λty=>by rw[hc1,hws,hdw];exact ziX wo W.heap.size x pos ty hit.out hp
    have hKs:Hid (∃f',x.size<=pos+dw+f'∧ks=(bl++ [decide (c1=49)])++(Es x f' (pos+dw)).map λc=>decide (c=49)):=ag (by
     obtain⟨f',rfl⟩:∃f',f=f'+1:=⟨f-1,by omega⟩
     refine⟨f',by omega,?_⟩;have:=hK.out;rw[Es,aP hp,<-hc1,<-hdw,bF]at this;rw[this,bu];rfl)
    have Hi1:=ag hi1;have hb6:bl.length<=20000:=by omega
    have hip:wo.iterPos W.heap.size=pos:=iterPos_at hit.out;have Hip:=ag hip;clear hit hO hK K hi1 KS hws hc1 hdw hlw hip;go_wp2_with (at_builtin;refine qc _ rfl _ _ 108 rfl (W.heap.size+1) 4 i0 _ 1 1 Tryz.underlying108 hi0 hz0 hsz0 hb0 rfl (by decide) o bl.length _ rfl (HO1.out.alloc _) ⟨ws.heap.size,0,none⟩ 1 1 [.bool ((c1:Int)==49)] rfl rfl (qj _ _ _) (zfd _) (by unfold maxLen;omega) (by omega) (by have:=BU.out.size;have:=lt_of_heap Hi1.out;simp;omega) ?_;intro v' w' own' hgrow);have KN:Keep nM W w':=(BU.out.alloc (.cells #[.bool ((c1:Int)==49)] 4)).grown hgrow (λb hb=> .inr (by have:=(HO1.out.lt b hb).1;omega));have KA:Keep (λk=>o.ownBlock=some k) ws w':=((ah _ ws).alloc (.cells #[.bool ((c1:Int)==49)] 4)).grown hgrow (λb hb=> .inl hb);have hi2:w'.heap[W.heap.size]? =some (.stringIter x (pos+dw)):=KA.heap Hi1.out (λe=>by have:=(HO1.out.lt _ e).1;omega);obtain⟨f',hf',hk'⟩:=hKs.out;refine⟨⟨v',pos+dw,f',bl++ [decide (c1=49)],rfl,ag hi2,ag ?_,ag hk',hf',by rw[ay];show bl.length+1<=_;omega,ag KN⟩,?_⟩
    ·rw[di,ay,<-zn8];exact own'
    ·rw[iterPos_at hi2,Hip.out];omega
   ·have hnx:∀ty,(Instr.next (.pointer (some ⟨W.heap.size,0,none⟩)) true ty).run Tryz.prog wo= .ok (.tuple #[.bool false]) wo:=λty=>zee wo W.heap.size x pos ty hit.out hp;have hks:ks=bl:=by
     have:=hK.out;rw[ZY x f pos hp]at this;rw[this];exact dJ _
    have hcr:=HC.out wo o K.out (by rw[hks];exact zfc hO.out) (λb hb=>by have:=(hO.out.lt b hb).1;omega);have Hcr:=ag hcr;have c2:wo.cell? ⟨DD,0,none⟩=some (.pointer (some ⟨D,0,none⟩)):=(K.out.cell (p:=⟨DD,0,none⟩) hDg (λx=>x)).trans c0;clear hit hO hK K hcr hks c0 a1 HC Hks;go_wp2_with fail;refine Hcr.out.mono ?_;rintro e w3 ⟨rfl,⟨P',h3,hg3⟩,KP⟩;have Ha:=ag (HA.out w3 P' h3);have c3:=h3.row.cell0;clear Hcr c2;go_wp2_with fail;refine Ha.out.mono ?_;rintro e w4 ⟨hE,⟨P2,ML,h4,hg4⟩,K4⟩;by_cases hz:s2.1=0
    ·obtain⟨V,b,hb⟩:=HB2.out hz;rw[ED,aP hz]at hE;subst hE;obtain⟨BB,k,rfl,hB,hk⟩:=sW h4 hb;have Eh:=h4.ok.base _ hb;have hv0:0<=V.now.count:=Eh.MV;have hv1:V.now.count<=((kk+1:Nat):Int):=Eh.cnt1;have hlo: -9223372036854775808<=V.now.count:=by omega
     have hhi:V.now.count<=9223372036854775807:=by omega
     have hil:=zo V.now.count hlo hhi;have Hcn:=ag (Qq hB);have HI:Hid (∀w2,Keep nM w4 w2->ae 19 #[.int .i64 V.now.count] w2 λe w'=>e= .returned (.string (Dq V.now.count))∧Keep nM w2 w'):=ag (λw2 K=>uS V.now.count hlo hhi w2 (HPV.out _ (h4.body.keep.nK K)));have HO:Hid (∀w9,Keep nM w4 w9->R (.returned (.string (⟨#[99,114,97,115,104,32]⟩++Dq V.now.count))) w9):=ag (λw9 K9=>Qc.out V b hb hz w9 (HD.out w3 w4 w9 P' P2 _ hg3 KP h4 hg4 K4 K9));have c4:=h4.row.cell2;obtain⟨v,hv⟩:∃v,v=V.now.count:=⟨_,rfl⟩
     rw[<-hv]at Hcn HI HO hil;obtain⟨it,hit⟩:∃it,it=Dq v:=⟨_,rfl⟩
     rw[<-hit]at HI hil HO;have FM:¬(9223372036854775807<(⟨#[99,114,97,115,104,32]⟩:af).size+it.size):=by have:(⟨#[99,114,97,115,104,32]⟩:af).size=6:=rfl;omega
     clear Qc HBAD HD HA Ha hb hB hk Eh hv0 hv1 hlo hhi hil h4 hg4 K4 hv hit h3 hg3 KP hz HB2 c3;go_wp2_with fail;refine Hcn.out.mono ?_;rintro e w2 ⟨rfl,K2⟩;go_wp2_with fail;refine(HI.out _ K2).mono ?_;rintro e w5 ⟨rfl,K5⟩;go_wp2_with fail;(try go_ret);exact HO.out _ (K2.nK K5)
    ·rw[ED,aB hz]at hE;subst hE;have HO:=ag (HBAD.out hz w4 (HD.out w3 w4 w4 P' P2 _ hg3 KP h4 hg4 K4 (ah _ _)));obtain⟨z,hzz⟩:∃z,z=s2.1:=⟨_,rfl⟩
     rw[<-hzz]at HO;rw[<-hzz];clear Qc HBAD HD HA Ha h4 hg4 K4 h3 hg3 KP hz HB2 hzz c3;go_wp2_with fail;exact⟨rfl,HO.out⟩
end
def zN(x:af):Option (oI->List af->Ans×oI):=
 if x=⟨#[98,108,111,99,107]⟩then some xh else
 if x=⟨#[99,111,109,109,105,116]⟩then some rM else
 if x=⟨#[99,111,117,110,116]⟩then some yC else
 if x=⟨#[99,114,97,115,104]⟩then some xg else
 if x=⟨#[100,101,108]⟩then some Bv else
 if x=⟨#[101,112,111,99,104]⟩then some xe else
 if x=⟨#[102,105,110,100]⟩then some qH else
 if x=⟨#[102,117,115,101]⟩then some Be else
 if x=⟨#[104,101,108,112]⟩then some Gj else
 if x=⟨#[105,109,97,103,101]⟩then some BI else
 if x=⟨#[105,116,101,109,115]⟩then some xR else
 if x=⟨#[108,97,121]⟩then some JU else
 if x=⟨#[109,97,107,101]⟩then some vV else
 if x=⟨#[110,101,119]⟩then some JS else
 if x=⟨#[111,112,101,110]⟩then some yf else
 if x=⟨#[112,117,116]⟩then some uF else
 if x=⟨#[115,112,111,105,108]⟩then some vk else
 if x=⟨#[115,117,109]⟩then some QM else
 if x=⟨#[116,117,114,110]⟩then some wR else
 if x=⟨#[117,110,100,111]⟩then some Bd else
 none
def zm4:Ans->af
 | .ok t=>t
 | .error n=>uG n
def ve(st:oI)(s:af):af×oI:=match qK s with
 | []=>(Oq,st)
 | name::rest=>match zN name with
  | none=>(uG 3,st)
  | some f=>(zm4 (f st rest).1,(f st rest).2)
def Jd:oI->List af->List af
 | _,[]=> []
 | st,s::r=>(ve st s).1::Jd (ve st s).2 r
def stV:oI->List af->oI
 | st,[]=>st
 | st,s::r=>stV (ve st s).2 r
theorem Y1:∀(ls:List af) (st:oI),(Jd st ls).length=ls.length
 | [],_=>rfl
 | s::r,st=>by rw[Jd,aK,aK,Y1 r]
theorem Xe:∀(ls:List af) (st:oI) (k:Nat),k<ls.length->(Jd st ls).getD k ⟨#[]⟩=(ve (stV st (ls.take k)) (ls.getD k ⟨#[]⟩)).1∧stV st (ls.take (k+1))=(ve (stV st (ls.take k)) (ls.getD k ⟨#[]⟩)).2
 | [],st,k,h=>by cases h
 | s::r,st,0,h=>⟨rfl,rfl⟩
 | s::r,st,k+1,h=>by have ih:=Xe r (ve st s).2 k (by simpa using h);exact ih
theorem Y2:∀(a b:List af) (st:oI),Jd st (a++b)=Jd st a++Jd (stV st a) b
 | [],b,st=>rfl
 | s::r,b,st=>by rw[dI,Jd,Jd,Y2 r b,stV];rfl
def yt(f:oI->List af->Ans×oI):Prop:=∀st rest n,(f st rest).1= .error n→-10000<n∧n<10000
def uV(f:oI->List af->Ans×oI):Prop:=∀kk st rest,uI kk st->(∀p,st.base=some p->Ed p.2)->uI (kk+1) (f st rest).2->kk<=20100->∀t,(f st rest).1= .ok t->t.size<=40000
theorem zgU(b:oZ)(x:pR): -10000<(xY b x).1∧(xY b x).1<10000:=by
 unfold xY;split
 ·constructor<;>dsimp only<;>decide
 ·split
  ·constructor<;>dsimp only<;>decide
  ·split
   ·constructor<;>dsimp only<;>decide
   ·constructor<;>dsimp only<;>decide
theorem zhE(b:oZ)(x:af): -10000<(C9 b x).1∧(C9 b x).1<10000:=by
 unfold C9;split
 ·constructor<;>dsimp only<;>decide
 ·constructor<;>dsimp only<;>decide
theorem zeg(b:oZ)(x:Int): -10000<(vZ b x).1∧(vZ b x).1<10000:=by
 unfold vZ;split
 ·constructor<;>dsimp only<;>decide
 ·split
  ·constructor<;>dsimp only<;>decide
  ·constructor<;>dsimp only<;>decide
theorem TF(st:oI): -10000<(tH st).1∧(tH st).1<10000:=by
 unfold tH;split
 ·constructor<;>dsimp only<;>decide
 ·split
  ·constructor<;>dsimp only<;>decide
  ·constructor<;>dsimp only<;>decide
theorem zbk(secret:af)(x0:rC)(marks:List af)(d:pG)(W:List (Nat×af)): -10000<(qR secret x0 marks d W).err∧(qR secret x0 marks d W).err<10000:=by
 unfold qR;dsimp only;split
 ·constructor<;>dsimp only<;>decide
 ·split
  ·constructor<;>dsimp only<;>decide
  ·split
   ·constructor<;>dsimp only<;>decide
   ·split
    ·constructor<;>dsimp only<;>decide
    ·split
     ·constructor<;>dsimp only<;>decide
     ·constructor<;>dsimp only<;>decide
theorem Vp(V:nT)(d:pG)(n ep:Int)(W:List (Nat×af)): -10000<(vY V d n ep W).err∧(vY V d n ep W).err<10000:=by
 unfold vY;split
 ·constructor<;>dsimp only<;>decide
 ·unfold sO;dsimp only;split
  ·exact zbk _ _ _ _ _
  ·split
   ·constructor<;>dsimp only<;>decide
   ·constructor<;>dsimp only<;>decide
theorem zax(V:nT)(d:pG)(n:Int)(b:oZ): -10000<(pX V d n b).err∧(pX V d n b).err<10000:=Vp _ _ _ _ _
theorem zdH(V:nT)(d:pG)(n:Int): -10000<(tK V d n).err∧(tK V d n).err<10000:=Vp _ _ _ _ _
theorem pJ{a n:Int}(h:(Except.error a:Ans)= .error n)(ha: -10000<a∧a<10000): -10000<n∧n<10000:=by
 cases h
 exact ha
theorem Np{p:af}{v:Int}(hp:p.size<=100)(h0:0<=v)(h1:v<=1099511627776):(p++Dq v).size<=40000:=by rw[aX];have:=zo v (by omega) (by omega);omega
theorem vH{a t:af}(h:(Except.ok a:Ans)= .ok t)(ha:a.size<=40000):t.size<=40000:=by
 cases h
 exact ha
theorem zdc{kk:Nat}{st:oI}(h:uI kk st):0<=zaU st∧zaU st<=kk:=by
 unfold zaU;split
 ·exact⟨jO _,by omega⟩
 ·rename_i V b hb;exact⟨(h.base _ hb).MV,(h.base _ hb).cnt1⟩
theorem zeG:yt xh:=by intro st rest n h;unfold xh at h;(repeat' split at h)<;>first|(cases h;done)|exact pJ h (by decide)|exact pJ h (by decide)
theorem zce:yt rM:=by intro st rest n h;unfold rM at h;(repeat' split at h)<;>first|(cases h;done)|exact pJ h (by decide)|exact pJ h (by exact zax _ _ _ _)
theorem zeF:yt yC:=by intro st rest n h;unfold yC at h;(repeat' split at h)<;>first|(cases h;done)|exact pJ h (by decide)|exact pJ h (by decide)
theorem zeE:yt xg:=by intro st rest n h;unfold xg at h;(repeat' split at h)<;>first|(cases h;done)|exact pJ h (by decide)|exact pJ h (by exact TF _)
theorem zi8:yt Bv:=by intro st rest n h;unfold Bv at h;(repeat' split at h)<;>first|(cases h;done)|exact pJ h (by decide)|exact pJ h (by exact zhE _ _)
theorem zeD:yt xe:=by intro st rest n h;unfold xe at h;(repeat' split at h)<;>first|(cases h;done)|exact pJ h (by decide)|exact pJ h (by decide)
theorem zhs:yt qH:=by intro st rest n h;unfold qH at h;(repeat' split at h)<;>first|(cases h;done)|exact pJ h (by decide)|exact pJ h (by decide)
theorem zhr:yt Be:=by intro st rest n h;unfold Be at h;(repeat' split at h)<;>first|(cases h;done)|exact pJ h (by decide)|exact pJ h (by decide)
theorem zhq:yt Gj:=by intro st rest n h;unfold Gj at h;(repeat' split at h)<;>first|(cases h;done)|exact pJ h (by decide)|exact pJ h (by decide)
theorem zeC:yt BI:=by intro st rest n h;unfold BI at h;(repeat' split at h)<;>first|(cases h;done)|exact pJ h (by decide)|exact pJ h (by decide)
theorem zeB:yt xR:=by intro st rest n h;unfold xR at h;(repeat' split at h)<;>first|(cases h;done)|exact pJ h (by decide)|exact pJ h (by decide)
theorem zi7:yt JU:=by intro st rest n h;unfold JU at h;(repeat' split at h)<;>first|(cases h;done)|exact pJ h (by decide)|exact pJ h (by decide)
theorem zhp:yt vV:=by intro st rest n h;unfold vV at h;(repeat' split at h)<;>first|(cases h;done)|exact pJ h (by decide)|exact pJ h (by exact zeg _ _)
theorem zi6:yt JS:=by intro st rest n h;unfold JS at h;(repeat' split at h)<;>first|(cases h;done)|exact pJ h (by decide)|exact pJ h (by decide)
theorem zho:yt yf:=by intro st rest n h;unfold yf at h;(repeat' split at h)<;>first|(cases h;done)|exact pJ h (by decide)|exact pJ h (by exact TF _)
theorem zi5:yt uF:=by intro st rest n h;unfold uF at h;(repeat' split at h)<;>first|(cases h;done)|exact pJ h (by decide)|exact pJ h (by exact zgU _ _)
theorem zeA:yt vk:=by intro st rest n h;unfold vk at h;(repeat' split at h)<;>first|(cases h;done)|exact pJ h (by decide)|exact pJ h (by decide)
theorem zi4:yt QM:=by intro st rest n h;unfold QM at h;(repeat' split at h)<;>first|(cases h;done)|exact pJ h (by decide)|exact pJ h (by decide)
theorem zhn:yt wR:=by intro st rest n h;unfold wR at h;(repeat' split at h)<;>first|(cases h;done)|exact pJ h (by decide)|exact pJ h (by exact zdH _ _ _)
theorem zhm:yt Bd:=by intro st rest n h;unfold Bd at h;(repeat' split at h)<;>first|(cases h;done)|exact pJ h (by decide)|exact pJ h (by decide)
theorem size_del:uV Bv:=by intro kk st rest h hB h2 hk t ht;unfold Bv at ht;(repeat' split at ht)<;>first|(cases ht;done)|exact vH ht (by decide)
theorem zdU:uV Be:=by intro kk st rest h hB h2 hk t ht;unfold Be at ht;(repeat' split at ht)<;>first|(cases ht;done)|exact vH ht (by decide)
theorem zdT:uV Gj:=by intro kk st rest h hB h2 hk t ht;unfold Gj at ht;(repeat' split at ht)<;>first|(cases ht;done)|exact vH ht (by decide)
theorem zby:uV BI:=by intro kk st rest h hB h2 hk t ht;unfold BI at ht;(repeat' split at ht)<;>first|(cases ht;done)|exact vH ht (by decide)
theorem zgJ:uV JU:=by intro kk st rest h hB h2 hk t ht;unfold JU at ht;(repeat' split at ht)<;>first|(cases ht;done)|exact vH ht (by decide)
theorem zdS:uV vV:=by intro kk st rest h hB h2 hk t ht;unfold vV at ht;(repeat' split at ht)<;>first|(cases ht;done)|exact vH ht (by decide)
theorem zgI:uV JS:=by intro kk st rest h hB h2 hk t ht;unfold JS at ht;(repeat' split at ht)<;>first|(cases ht;done)|exact vH ht (by decide)
theorem size_put:uV uF:=by intro kk st rest h hB h2 hk t ht;unfold uF at ht;(repeat' split at ht)<;>first|(cases ht;done)|exact vH ht (by decide)
theorem zbw:uV vk:=by intro kk st rest h hB h2 hk t ht;unfold vk at ht;(repeat' split at ht)<;>first|(cases ht;done)|exact vH ht (by decide)
theorem zdP:uV Bd:=by intro kk st rest h hB h2 hk t ht;unfold Bd at ht;(repeat' split at ht)<;>first|(cases ht;done)|exact vH ht (by decide)
theorem zbB:uV yC:=by
 intro kk st rest h hB h2 hk t ht;unfold yC at ht;split at ht
 ·split at ht
  ·cases ht
  ·rename_i V b hb;have hV:=h.base _ hb;have h3:=hV.MV;have h4:=hV.cnt1;dsimp only at h3 h4;exact vH ht (Np (by decide) h3 (by omega))
 ·cases ht
theorem zbz:uV xe:=by
 intro kk st rest h hB h2 hk t ht;unfold xe at ht;split at ht
 ·split at ht
  ·cases ht
  ·rename_i V b hb;have hV:=h.base _ hb;have h3:=hV.ep0;have h4:=hV.ep1;dsimp only at h3 h4;exact vH ht (Np (by decide) h3 (by omega))
 ·cases ht
theorem ZU:uV rM:=by
 intro kk st rest h hB h2 hk t ht;unfold rM at ht h2;split at ht
 ·split at ht
  ·cases ht
  ·rename_i V b hb;split at ht
   ·cases ht
   ·rename_i hz;split at ht
    ·rename_i he;simp only[hb]at h2;rw[aB hz,aP he]at h2;have hV:=h2.base _ rfl;have h3:=hV.MV;have h4:=hV.cnt1;dsimp only at h3 h4;exact vH ht (Np (by decide) h3 (by omega))
    ·cases ht
 ·cases ht
theorem zdQ:uV wR:=by
 intro kk st rest h hB h2 hk t ht;unfold wR at ht h2;split at ht
 ·split at ht
  ·cases ht
  ·rename_i V b hb;simp only[hb]at h2;have hV:=h2.base _ rfl;have h3:=hV.ep0;have h4:=hV.ep1;dsimp only at ht;split at ht
   ·exact vH ht (Np (by decide) h3 h4)
   ·cases ht
 ·cases ht
theorem zdR:uV yf:=by
 intro kk st rest h hB h2 hk t ht;unfold yf at ht h2;split at ht
 ·dsimp only at ht h2;have h3:=zdc h2;split at ht
  ·exact vH ht (Np (by decide) h3.1 (by omega))
  ·cases ht
 ·cases ht
theorem zbA:uV xg:=by
 intro kk st rest h hB h2 hk t ht;unfold xg at ht h2;split at ht
 ·dsimp only at ht h2;have h3:=zdc h2;split at ht
  ·exact vH ht (Np (by decide) h3.1 (by omega))
  ·cases ht
 ·cases ht
theorem zbx:uV xR:=by
 intro kk st rest h hB h2 hk t ht;unfold xR at ht;split at ht
 ·split at ht
  ·cases ht
  ·rename_i V b hb;have ho:=hB _ hb;refine vH ht ?_;show([105,116,101,109,115]++(o9 b.now).flatMap Af:List UInt8).length<=40000;have h1:=Ff (o9 b.now) b.nS (λx hx=>by
    obtain⟨p,hp,rfl⟩:=bf.1 hx;exact(ho.now p hp).2)
   have h2:(o9 b.now).length<=60:=by rw[o9,aI];exact ho.len
   rw[ay];simp only[aK,bI];omega
 ·cases ht
theorem zdV:uV qH:=by
 intro kk st rest h hB h2 hk t ht;unfold qH at ht;split at ht
 ·split at ht
  ·cases ht
  ·split at ht
   ·cases ht
   ·split at ht
    ·cases ht
    ·rename_i V b hb;split at ht
     ·cases ht
     ·split at ht
      ·cases ht
      ·have ho:=hB _ hb;refine vH ht ?_;unfold wZ;have hT:=λzs k tg=>Nu ho (zs:=zs) (k:=k) (tg:=tg);have h1:=λzs k tg=>EY _ (hT zs k tg).2;show([102,105,110,100]++_:List UInt8).length<=40000;rw[ay];refine bH (Nat.add_le_add_left (bH (h1 _ _ _) (Nat.mul_le_mul_left 33 (hT _ _ _).1)) _) (by decide)
 ·cases ht
theorem zgH:uV QM:=by intro kk st rest h hB h2 hk t ht;refine vH ht ?_;unfold Nc;rw[aX,oU,Qo,bs_len,oU,yB];decide
theorem zbC:uV xh:=by
 intro kk st rest h hB h2 hk t ht;unfold xh at ht;split at ht
 ·split at ht
  ·cases ht
  ·split at ht
   ·refine vH ht ?_;unfold GH;rw[aX,oU,Qo,bs_len,oU,NY];decide
   ·cases ht
 ·cases ht
section
variable {w0:World}{DD:Nat}
theorem Wj(G:pM w0)(x:af):(zN x=none∧qy DD x= .nilFunc)∨∃F doX,zN x=some doX∧qy DD x=BR DD F∧Ul w0 DD F doX∧yt doX∧uV doX∧∀args w,(callFunc F args).run Tryz.prog w= .ok (.enter F args) w:=by
 by_cases h0:x=⟨#[98,108,111,99,107]⟩
 ·refine .inr ⟨35,xh,?_,h0▸zcm DD,ze3 G,zeG,zbC,enters_of Tryz.func35 (by kernel_rfl) rfl⟩;unfold zN;rw[aP h0]
 by_cases h1:x=⟨#[99,111,109,109,105,116]⟩
 ·refine .inr ⟨36,rM,?_,h1▸zav DD,zcq G,zce,ZU,enters_of Tryz.func36 (by kernel_rfl) rfl⟩;unfold zN;rw[aB h0,aP h1]
 by_cases h2:x=⟨#[99,111,117,110,116]⟩
 ·refine .inr ⟨37,yC,?_,h2▸zcl DD,ze2 G,zeF,zbB,enters_of Tryz.func37 (by kernel_rfl) rfl⟩;unfold zN;rw[aB h0,aB h1,aP h2]
 by_cases h3:x=⟨#[99,114,97,115,104]⟩
 ·refine .inr ⟨38,xg,?_,h3▸zck DD,ze1 G,zeE,zbA,enters_of Tryz.func38 (by kernel_rfl) rfl⟩;unfold zN;rw[aB h0,aB h1,aB h2,aP h3]
 by_cases h4:x=⟨#[100,101,108]⟩
 ·refine .inr ⟨39,Bv,?_,h4▸zhC DD,zjh G,zi8,size_del,enters_of Tryz.func39 (by kernel_rfl) rfl⟩;unfold zN;rw[aB h0,aB h1,aB h2,aB h3,aP h4]
 by_cases h5:x=⟨#[101,112,111,99,104]⟩
 ·refine .inr ⟨40,xe,?_,h5▸zcj DD,ze0 G,zeD,zbz,enters_of Tryz.func40 (by kernel_rfl) rfl⟩;unfold zN;rw[aB h0,aB h1,aB h2,aB h3,aB h4,aP h5]
 by_cases h6:x=⟨#[102,105,110,100]⟩
 ·refine .inr ⟨41,qH,?_,h6▸zeQ DD,zhS G,zhs,zdV,enters_of Tryz.func41 (by kernel_rfl) rfl⟩;unfold zN;rw[aB h0,aB h1,aB h2,aB h3,aB h4,aB h5,aP h6]
 by_cases h7:x=⟨#[102,117,115,101]⟩
 ·refine .inr ⟨42,Be,?_,h7▸zeP DD,zhR G,zhr,zdU,enters_of Tryz.func42 (by kernel_rfl) rfl⟩;unfold zN;rw[aB h0,aB h1,aB h2,aB h3,aB h4,aB h5,aB h6,aP h7]
 by_cases h8:x=⟨#[104,101,108,112]⟩
 ·refine .inr ⟨43,Gj,?_,h8▸zeO DD,zhQ G,zhq,zdT,enters_of Tryz.func43 (by kernel_rfl) rfl⟩;unfold zN;rw[aB h0,aB h1,aB h2,aB h3,aB h4,aB h5,aB h6,aB h7,aP h8]
 by_cases h9:x=⟨#[105,109,97,103,101]⟩
 ·refine .inr ⟨44,BI,?_,h9▸zci DD,zhP G,zeC,zby,enters_of Tryz.func44 (by kernel_rfl) rfl⟩;unfold zN;rw[aB h0,aB h1,aB h2,aB h3,aB h4,aB h5,aB h6,aB h7,aB h8,aP h9]
 by_cases h10:x=⟨#[105,116,101,109,115]⟩
 ·refine .inr ⟨45,xR,?_,h10▸zch DD,zeY G,zeB,zbx,enters_of Tryz.func45 (by kernel_rfl) rfl⟩;unfold zN;rw[aB h0,aB h1,aB h2,aB h3,aB h4,aB h5,aB h6,aB h7,aB h8,aB h9,aP h10]
 by_cases h11:x=⟨#[108,97,121]⟩
 ·refine .inr ⟨46,JU,?_,h11▸zhB DD,zjf G,zi7,zgJ,enters_of Tryz.func46 (by kernel_rfl) rfl⟩;unfold zN;rw[aB h0,aB h1,aB h2,aB h3,aB h4,aB h5,aB h6,aB h7,aB h8,aB h9,aB h10,aP h11]
 by_cases h12:x=⟨#[109,97,107,101]⟩
 ·refine .inr ⟨47,vV,?_,h12▸zeN DD,zjg G,zhp,zdS,enters_of Tryz.func47 (by kernel_rfl) rfl⟩;unfold zN;rw[aB h0,aB h1,aB h2,aB h3,aB h4,aB h5,aB h6,aB h7,aB h8,aB h9,aB h10,aB h11,aP h12]
 by_cases h13:x=⟨#[110,101,119]⟩
 ·refine .inr ⟨5,JS,?_,h13▸zhA DD,zeZ G,zi6,zgI,enters_of Tryz.func5 (by kernel_rfl) rfl⟩;unfold zN;rw[aB h0,aB h1,aB h2,aB h3,aB h4,aB h5,aB h6,aB h7,aB h8,aB h9,aB h10,aB h11,aB h12,aP h13]
 by_cases h14:x=⟨#[111,112,101,110]⟩
 ·refine .inr ⟨48,yf,?_,h14▸zeL DD,zhO G,zho,zdR,enters_of Tryz.func48 (by kernel_rfl) rfl⟩;unfold zN;rw[aB h0,aB h1,aB h2,aB h3,aB h4,aB h5,aB h6,aB h7,aB h8,aB h9,aB h10,aB h11,aB h12,aB h13,aP h14]
 by_cases h15:x=⟨#[112,117,116]⟩
 ·refine .inr ⟨49,uF,?_,h15▸zhz DD,zje G,zi5,size_put,enters_of Tryz.func49 (by kernel_rfl) rfl⟩;unfold zN;rw[aB h0,aB h1,aB h2,aB h3,aB h4,aB h5,aB h6,aB h7,aB h8,aB h9,aB h10,aB h11,aB h12,aB h13,aB h14,aP h15]
 by_cases h16:x=⟨#[115,112,111,105,108]⟩
 ·refine .inr ⟨50,vk,?_,h16▸zcg DD,zeX G,zeA,zbw,enters_of Tryz.func50 (by kernel_rfl) rfl⟩;unfold zN;rw[aB h0,aB h1,aB h2,aB h3,aB h4,aB h5,aB h6,aB h7,aB h8,aB h9,aB h10,aB h11,aB h12,aB h13,aB h14,aB h15,aP h16]
 by_cases h17:x=⟨#[115,117,109]⟩
 ·refine .inr ⟨51,QM,?_,h17▸zhy DD,zjd G,zi4,zgH,enters_of Tryz.func51 (by kernel_rfl) rfl⟩;unfold zN;rw[aB h0,aB h1,aB h2,aB h3,aB h4,aB h5,aB h6,aB h7,aB h8,aB h9,aB h10,aB h11,aB h12,aB h13,aB h14,aB h15,aB h16,aP h17]
 by_cases h18:x=⟨#[116,117,114,110]⟩
 ·refine .inr ⟨52,wR,?_,h18▸zeK DD,zhN G,zhn,zdQ,enters_of Tryz.func52 (by kernel_rfl) rfl⟩;unfold zN;rw[aB h0,aB h1,aB h2,aB h3,aB h4,aB h5,aB h6,aB h7,aB h8,aB h9,aB h10,aB h11,aB h12,aB h13,aB h14,aB h15,aB h16,aB h17,aP h18]
 by_cases h19:x=⟨#[117,110,100,111]⟩
 ·refine .inr ⟨53,Bd,?_,h19▸zeJ DD,zhM G,zhm,zdP,enters_of Tryz.func53 (by kernel_rfl) rfl⟩;unfold zN;rw[aB h0,aB h1,aB h2,aB h3,aB h4,aB h5,aB h6,aB h7,aB h8,aB h9,aB h10,aB h11,aB h12,aB h13,aB h14,aB h15,aB h16,aB h17,aB h18,aP h19]
 refine .inl ⟨?_,zeM DD x h0 h1 h2 h3 h4 h5 h6 h7 h8 h9 h10 h11 h12 h13 h14 h15 h16 h17 h18 h19⟩;unfold zN;rw[aB h0,aB h1,aB h2,aB h3,aB h4,aB h5,aB h6,aB h7,aB h8,aB h9,aB h10,aB h11,aB h12,aB h13,aB h14,aB h15,aB h16,aB h17,aB h18,aB h19]
end
end Go.Proofs.YtopbkdebihcmcaaGreatDoor
