import Derived.Test.YtopbkdebihcmcaaGreatDoorYAF
import Derived.Test.YtopbkdebihcmcaaGreatDoorYAS
import Derived.Test.YtopbkdebihcmcaaGreatDoorYBJ
import Derived.Test.YtopbkdebihcmcaaGreatDoorYBK
set_option linter.unusedSimpArgs false
set_option linter.unusedVariables false
namespace Go.Proofs.YtopbkdebihcmcaaGreatDoor
open Go.RowKit
set_option maxRecDepth 100000
set_option maxHeartbeats 16000000
theorem Xj{α:Type}(A B C:List α)(n i:Nat)(hA:A.length=n)(h:i<B.length):(A++B++C)[n+i]? =B[i]? :=by
 rw[bu,cu (by omega),dE (by omega)]
 congr 1
 omega
theorem set_mid{α:Type}(A B C:List α)(n i:Nat)(v:α)(hA:A.length=n)(h:i<B.length):(A++B++C).set (n+i) v=A++B.set i v++C:=by
 rw[bu,iw _ _ (by omega),List.set_append_left _ _ (by omega),bu]
 congr 3
 omega
def nU(D C:Nat)(V:nT):List Value:= [Value.pointer (some ⟨D,0,none⟩),.pointer (some ⟨C,0,none⟩),.string V.secret]++oq V.now++V.texts.map Value.string++V.marks.map Value.string++ [Value.bool V.dead]
structure o7(V:nT):Prop where
 sides:V.now.sides.length=32
 texts:V.texts.length=32
 marks:V.marks.length=32
section
variable {D C:Nat}{V:nT}
theorem qp{x:rC}(h:x.sides.length=32):(oq x).length=35:=rG x h
theorem CW(h:o7 V):(nU D C V).length=103:=by simp only[nU,ay,aI,qp h.sides,h.texts,h.marks,aK,bI]
theorem zdD(h:o7 V)(i:Nat)(hi:i<35):(nU D C V)[3+i]? =(oq V.now)[i]? :=by rw[nU,bu,bu,Xj _ _ _ 3 i rfl (by rw[qp h.sides];exact hi)]
theorem RN(h:o7 V)(i:Nat)(hi:i<32):(nU D C V)[38+i]? =some (.string (V.texts.getD i ⟨#[]⟩)):=by rw[nU,bu,Xj _ _ _ 38 i (by simp only[ay,qp h.sides,aK,bI]) (by rw[aI,h.texts];exact hi),bC,aC (by rw[h.texts];exact hi)];simp[ax,h.texts,hi]
theorem RQ(h:o7 V)(i:Nat)(hi:i<32):(nU D C V)[70+i]? =some (.string (V.marks.getD i ⟨#[]⟩)):=by rw[nU,Xj _ _ _ 70 i (by simp only[ay,aI,qp h.sides,h.texts,aK,bI]) (by rw[aI,h.marks];exact hi),bC,aC (by rw[h.marks];exact hi)];simp[ax,h.marks,hi]
theorem zbh(h:o7 V):(nU D C V)[102]? =some (.bool V.dead):=by rw[nU,cu (by simp only[ay,aI,qp h.sides,h.texts,h.marks,aK,bI];omega)];simp only[ay,aI,qp h.sides,h.texts,h.marks,aK,bI];rfl
def vX(V:nT)(i:Nat)(s:af):nT:= { V with texts:=V.texts.set i s }
def wY(V:nT)(i:Nat)(s:af):nT:= { V with marks:=V.marks.set i s }
def y5(V:nT)(x:rC):nT:= { V with now:=x }
def Aw(V:nT)(l:List af):nT:= { V with marks:=l }
theorem o7.text(h:o7 V)(i:Nat)(s:af):o7 (vX V i s):=⟨h.sides,by simp[vX,h.texts],h.marks⟩
theorem o7.mark(h:o7 V)(i:Nat)(s:af):o7 (wY V i s):=⟨h.sides,h.texts,by simp[wY,h.marks]⟩
theorem o7.now(h:o7 V){x:rC}(hx:x.sides.length=32):o7 (y5 V x):=⟨hx,h.texts,h.marks⟩
theorem o7.allMarks(h:o7 V){l:List af}(hl:l.length=32):o7 (Aw V l):=⟨h.sides,h.texts,hl⟩
theorem o7.die(h:o7 V):o7 (QD V):=⟨h.sides,h.texts,h.marks⟩
theorem Uy(h:o7 V)(i:Nat)(hi:i<32)(s:af):(nU D C V).set (38+i) (.string s)=nU D C (vX V i s):=by rw[nU,bu,set_mid _ _ _ 38 i _ (by simp only[ay,qp h.sides,aK,bI]) (by rw[aI,h.texts];exact hi),<-kL,<-bu];rfl
theorem Uz(h:o7 V)(i:Nat)(hi:i<32)(s:af):(nU D C V).set (70+i) (.string s)=nU D C (wY V i s):=by rw[nU,set_mid _ _ _ 70 i _ (by simp only[ay,aI,qp h.sides,h.texts,aK,bI]) (by rw[aI,h.marks];exact hi),<-kL];rfl
theorem UA(h:o7 V):(nU D C V).set 102 (.bool true)=nU D C (QD V):=by rw[nU,iw _ _ (by simp only[ay,aI,qp h.sides,h.texts,h.marks,aK,bI];omega)];simp only[ay,aI,qp h.sides,h.texts,h.marks,aK,bI];rfl
theorem Xr(h:o7 V){x:rC}(hx:x.sides.length=32):Ac (nU D C V).toArray 3 (oq x).toArray=(nU D C (y5 V x)).toArray:=by
 rw[Ac,bT,qp hx]
 congr 1
 show List.take 3 (nU D C V)++oq x++List.drop 38 (nU D C V)=_;have e:nU D C V=([Value.pointer (some ⟨D,0,none⟩),.pointer (some ⟨C,0,none⟩),.string V.secret]++oq V.now)++(V.texts.map Value.string++V.marks.map Value.string++ [Value.bool V.dead]):=by simp only[nU,bu]
 have hd:List.drop 38 (nU D C V)=V.texts.map Value.string++V.marks.map Value.string++ [Value.bool V.dead]:=by rw[e];exact iF (by simp only[ay,qp h.sides,aK,bI])
 have ht:List.take 3 (nU D C V)= [Value.pointer (some ⟨D,0,none⟩),.pointer (some ⟨C,0,none⟩),.string V.secret]:=rfl;rw[hd,ht];simp only[nU,y5,bu]
theorem TL(h:o7 V){l:List af}(hl:l.length=32):Ac (nU D C V).toArray 70 (l.map Value.string).toArray=(nU D C (Aw V l)).toArray:=by
 rw[Ac,bT,aI,hl]
 congr 1
 show List.take 70 (nU D C V)++l.map Value.string++List.drop 102 (nU D C V)=_;have e:nU D C V=([Value.pointer (some ⟨D,0,none⟩),.pointer (some ⟨C,0,none⟩),.string V.secret]++oq V.now++V.texts.map Value.string++V.marks.map Value.string)++ [Value.bool V.dead]:=by simp only[nU,bu]
 have e2:nU D C V=([Value.pointer (some ⟨D,0,none⟩),.pointer (some ⟨C,0,none⟩),.string V.secret]++oq V.now++V.texts.map Value.string)++(V.marks.map Value.string++ [Value.bool V.dead]):=by simp only[nU,bu]
 have hd:List.drop 102 (nU D C V)= [Value.bool V.dead]:=by rw[e];exact iF (by simp only[ay,aI,qp h.sides,h.texts,h.marks,aK,bI])
 have ht:List.take 70 (nU D C V)= [Value.pointer (some ⟨D,0,none⟩),.pointer (some ⟨C,0,none⟩),.string V.secret]++oq V.now++V.texts.map Value.string:=by rw[e2];exact fM (by simp only[ay,aI,qp h.sides,h.texts,aK,bI])
 rw[hd,ht];simp only[nU,Aw,bu]
theorem zcJ(l:List af):(l.map Value.string).toArray.all (·.oneCell')=true:=by rw[Array.all_eq_true_iff_forall_mem];intro v hv;obtain⟨s,_,rfl⟩:=bf.1 (by simpa using hv);rfl
end
structure og(w:World)(B D C:Nat)(V:nT):Prop where
 row:w.heap[B]? =some (.cells (nU D C V).toArray 137 (0,0))
 lens:o7 V
section
variable {w w':World}{B D C:Nat}{V:nT}
theorem og.lt(h:og w B D C V):B<w.heap.size:=lt_of_heap h.row
theorem og.keep(h:og w B D C V){S:Nat->Prop}(hk:Keep S w w')(hn:¬S B):og w' B D C V:=⟨hk.heap h.row hn,h.lens⟩
theorem og.cell(h:og w B D C V)(i:Nat){v:Value}(hv:(nU D C V)[i]? =some v):w.cell? ⟨B,i,none⟩=some v:=by rw[aO _ _ i _ _ (0,0) h.row];simpa using hv
theorem og.dev(h:og w B D C V):w.cell? ⟨B,0,none⟩=some (.pointer (some ⟨D,0,none⟩)):=h.cell 0 rfl
theorem og.cnt(h:og w B D C V):w.cell? ⟨B,1,none⟩=some (.pointer (some ⟨C,0,none⟩)):=h.cell 1 rfl
theorem og.secret(h:og w B D C V):w.cell? ⟨B,2,none⟩=some (.string V.secret):=h.cell 2 rfl
theorem og.count(h:og w B D C V):w.cell? ⟨B,3,none⟩=some (.int .i64 V.now.count):=h.cell 3 rfl
theorem og.nP(h:og w B D C V):w.cell? ⟨B,4,none⟩=some (.int .i64 V.now.nP):=h.cell 4 rfl
theorem og.text(h:og w B D C V)(i:Nat)(hi:i<32):w.cell? ⟨B,38+i,none⟩=some (.string (V.texts.getD i ⟨#[]⟩)):=h.cell _ (RN h.lens i hi)
theorem og.mark(h:og w B D C V)(i:Nat)(hi:i<32):w.cell? ⟨B,70+i,none⟩=some (.string (V.marks.getD i ⟨#[]⟩)):=h.cell _ (RQ h.lens i hi)
theorem og.dead(h:og w B D C V):w.cell? ⟨B,102,none⟩=some (.bool V.dead):=h.cell _ (zbh h.lens)
theorem og.free(h:og w B D C V)(i:Nat):w.frozen? ⟨B,i,none⟩=false:=dZ h.row i
theorem og.vX(h:og w B D C V)(i:Nat)(hi:i<32)(s:af):og (w.setCell ⟨B,38+i,none⟩ (.string s)) B D C (vX V i s):=by refine⟨?_,h.lens.text i s⟩;rw[oM h.row,fA,Uy h.lens i hi]
theorem og.wY(h:og w B D C V)(i:Nat)(hi:i<32)(s:af):og (w.setCell ⟨B,70+i,none⟩ (.string s)) B D C (wY V i s):=by refine⟨?_,h.lens.mark i s⟩;rw[oM h.row,fA,Uz h.lens i hi]
theorem og.ziL(h:og w B D C V):og (w.setCell ⟨B,102,none⟩ (.bool true)) B D C (QD V):=by refine⟨?_,h.lens.die⟩;rw[oM h.row,fA,UA h.lens]
theorem og.y5(h:og w B D C V){x:rC}(hx:x.sides.length=32):og (w.setRow B (Ac (nU D C V).toArray 3 (oq x).toArray)) B D C (y5 V x):=by refine⟨?_,h.lens.now hx⟩;rw[oO h.row,Xr h.lens hx]
theorem og.Aw(h:og w B D C V){l:List af}(hl:l.length=32):og (w.setRow B (Ac (nU D C V).toArray 70 (l.map Value.string).toArray)) B D C (Aw V l):=by refine⟨?_,h.lens.allMarks hl⟩;rw[oO h.row,TL h.lens hl]
end
theorem zcZ(secret:af)(nP:Int)(hs:secret.size<=1000)(w:World)(V:oG w):
  ae 131 #[.string secret,.int .i64 nP] w λe w'=>e= .returned (.string (Ba secret nP))∧Keep nM w w':=by
 obtain⟨A,hA⟩:∃A,A=txt (qB (uf nP)):=⟨_,rfl⟩
 have bA:bs A=qB (uf nP):=by rw[hA,qw (sJ _)]
 have hl:(pV 107 ([secret,A].map bs)).length<=100000:=by simp only[bF,dB,bA,pV,dO,jT,ay,aK,bI,yx,bs_len];omega
 obtain⟨M,hM⟩:∃M,M=txt (mark 107 [bs secret,qB (uf nP)]):=⟨_,rfl⟩
 have bM:bs M=mark 107 [bs secret,qB (uf nP)]:=by rw[hM,qw (uB _ _)]
 have hr:txt (mark 107 ([secret,A].map bs))=M:=by rw[hM];simp only[bF,dB,bA]
 have hk:txt (sha (bs M))=Ba secret nP:=by rw[bM];rfl
 have hMs:M.size<=100000:=by rw[hM,oU,AB];omega
 have HA:=ag hA;have Hr:=ag hr;have Hk:=ag hk;have Hl:=ag hl;clear hA hM bA bM hr hl hk;go_enter Tryz.func131,Tryz.ntmps131;go_wp2_with fail;refine(num_int nP _).mono ?_;rw[<-HA.out];rintro e w1 ⟨rfl,K1⟩;go_wp2_with fail;refine(xC 107 (by decide) _ [secret,A] _ (V.keep (K1.alloc _) (λx=>x)) (Strs.lit (w:=w1) [secret,A]) Hl.out (by simp)).mono ?_;rw[Hr.out];rintro e w3 ⟨rfl,K3⟩;have K3':=(K1.alloc (.cells #[.string secret,.string A] 9)).nK K3;go_wp2_with fail;refine(sum_any M hMs _ (V.keep K3' (λx=>x))).mono ?_;rw[Hk.out];rintro e w4 ⟨rfl,K4⟩;go_wp2_with fail;go_ret;exact⟨rfl,K3'.nK K4⟩
theorem G8(i:Nat)(side:Bool)(hi:i<32)(w:World):
  ae 132 #[.int .i64 i,.bool side] w λe w'=>e= .returned (.int .i64 ((tX i side:Nat):Int))∧w'=w:=by
 have e1:((tX i side:Nat):Int)=if side then 3+2*(i:Int)else 2+2*(i:Int):=by cases side<;>simp[tX]<;>omega
 rw[e1];clear e1;cases side with
 | true=>
  go_enter Tryz.func132,Tryz.ntmps132;go_wp2_with fail;go_ret;exact⟨rfl,rfl⟩
 | false=>
  go_enter Tryz.func132,Tryz.ntmps132;go_wp2_with fail;go_ret;exact⟨rfl,rfl⟩
theorem Xt{w:World}{B D C:Nat}{V:nT}(h:og w B D C V)(i:Nat)(hi:i<32):
  ae 58 #[.pointer (some ⟨B,0,none⟩),.int .i64 i] w λe w'=>e= .returned (.tuple #[.string (V.texts.getD i ⟨#[]⟩),.nilIface])∧w'=w:=by
 have c:=h.text i hi;have hlt:=h.lt;have e0:decide ((i:Int)<0)=false:=by simp
 have e1:decide ((32:Int)<=i)=false:=by simp;omega
 have e2:(i:Int)<32:=by omega
 obtain⟨T,hT⟩:∃T,T=V.texts.getD i ⟨#[]⟩:=⟨_,rfl⟩
 rw[<-hT]at c⊢;clear hT h;go_enter Tryz.func58,Tryz.ntmps58;go_wp2_with fail
 go_ret2
 exact⟨rfl,rfl⟩
theorem TN{w:World}{B D C:Nat}{V:nT}(h:og w B D C V):
  ae 115 #[.pointer (some ⟨B,0,none⟩)] w λe w'=>e= .returned (.int .i64 V.now.count)∧w'=w:=by
 have c:=h.count;have hlt:=h.lt;obtain⟨T,hT⟩:∃T,T=V.now.count:=⟨_,rfl⟩
 rw[<-hT]at c⊢;clear hT h;go_enter Tryz.func115,Tryz.ntmps115;go_wp2_with fail;go_ret;exact⟨rfl,rfl⟩
abbrev qi(w:World)(D S:Nat)(wv:Value)(d:pG):Prop:=qm w D S wv d.sure d.wait d.oD
def xP(secret:af)(B:List af)(count:Int):Bool:=decide (vG (rH secret) (B.getD (count % 2).toNat ⟨#[]⟩)=0∧(tC (rH secret) (B.getD (count % 2).toNat ⟨#[]⟩)).count=count)
def wH(secret:af)(B:List af)(count:Int):rC:=tC (rH secret) (B.getD (count % 2).toNat ⟨#[]⟩)
theorem zdM(secret:af)(B:List af)(count:Int):yI secret B count=if xP secret B count=true then some (wH secret B count)else none:=by
 unfold yI xP wH;split
 ·rename_i h;rw[aP (bJ h)]
 ·rename_i h;rw[aB (by rw[bV h];decide)]
theorem Hu(secret:af)(B:List af)(count:Int):(wH secret B count).sides.length=32:=LH _ _
theorem G7{w:World}{B D C S:Nat}{V:nT}{wv:Value}{d:pG}(h:og w B D C V)(hd:qi w D S wv d)(hb:∀i,i<66->(d.now.getD i ⟨#[]⟩).size<=1000)(hs:V.secret.size<=1000)(c:Nat)(R:oG w):
  ae 90 #[.pointer (some ⟨B,0,none⟩),.int .i64 c] w λe w'=>e= .returned (.tuple #[ry (wH V.secret d.now c),.bool (xP V.secret d.now c)])∧Keep nM w w':=by
 obtain⟨q,hq⟩:∃q,q=c % 2:=⟨_,rfl⟩
 have hq2:q<66:=by omega
 have hqe:((c:Int) % 2).toNat=q:=by omega
 obtain⟨s,hsd⟩:∃s,s=d.now.getD q ⟨#[]⟩:=⟨_,rfl⟩
 have hss:s.size<=1000:=by rw[hsd];exact hb q hq2
 have hrd:=λ(W:World) (K:Keep nM w W)=>zcL (hd.keep K (λ_ _ x=>x)) q hq2;have zmh:∀(W:World),Keep nM w W->ae 129 #[.pointer (some ⟨D,0,none⟩),.int .i64 q] W λe w'=>e= .returned (.tuple #[.string s,.nilIface])∧Keep nM W w':=by intro W K;rw[hsd];exact hrd W K
 obtain⟨M,hM⟩:∃M,M=txt (mark 115 [bs V.secret]):=⟨_,rfl⟩
 have bM:bs M=mark 115 [bs V.secret]:=by rw[hM,qw (uB _ _)]
 have hk:txt (sha (bs M))=rH V.secret:=by rw[bM];rfl
 have hMs:M.size<=100000:=by rw[hM,oU,AB];omega
 have hml:(pV 115 ([V.secret].map bs)).length<=100000:=by simp only[bF,dB,pV,dO,jT,ay,aK,bI,yx,bs_len];omega
 have hmk:txt (mark 115 ([V.secret].map bs))=M:=by rw[hM];rfl
 have hSV:wH V.secret d.now c=tC (rH V.secret) s:=by rw[wH,hqe,hsd]
 have hSO:xP V.secret d.now c=decide (vG (rH V.secret) s=0∧(tC (rH V.secret) s).count=c):=by rw[xP,hqe,hsd]
 rw[hSV,hSO];obtain⟨key,hkey⟩:∃k,k=rH V.secret:=⟨_,rfl⟩
 have hks:key.size=32:=by rw[hkey];exact Si _
 rw[<-hkey]at hk⊢;obtain⟨PV,hPV⟩:∃x,x=tC key s:=⟨_,rfl⟩
 obtain⟨PE,hPE⟩:∃x,x=vG key s:=⟨_,rfl⟩
 have hpl:PV.sides.length=32:=by rw[hPV];exact LH _ _
 have hpa:=λ(W:World) (K:Keep nM w W)=>Xz key s hss W (R.keep K (λx=>x));rw[<-hPV,<-hPE]at hpa⊢;have c0:=h.dev;have c2:=h.secret;have hlt:=h.lt;have hin:=yN;have hbz:=zY;have hzl:=Cf;obtain⟨cz,hcz⟩:∃cz,cz=(oq qX).toArray:=⟨_,rfl⟩
 obtain⟨cr,hcr⟩:∃cr,cr=(oq PV).toArray:=⟨_,rfl⟩
 have hcl:cr.size=35:=by rw[hcr,bT,rG PV hpl]
 have hone:cr.all (·.oneCell')=true:=by rw[hcr];exact qY _
 have hcc:cr[0]? =some (.int .i64 PV.count):=by rw[hcr];rfl
 have hsv:ry PV= .agg cr:=by rw[hcr];rfl
 have hsz:ry qX= .agg cz:=by rw[hcz];rfl
 rw[hsz]at hin;rw[<-hcz]at hzl;rw[hsv]at hpa⊢;have h35:(Tryz.prog.info? 134).map (·.size)=some cr.size:=by rw[hcl];exact qF
 obtain⟨sec,zF⟩:∃x,x=V.secret:=⟨_,rfl⟩
 rw[<-zF]at c2 hml hs hmk;obtain⟨pc,hpc⟩:∃x,x=PV.count:=⟨_,rfl⟩
 rw[<-hpc]at hcc⊢;have zh5:(c:Int) % 2=(q:Int):=by omega
 have Qw:=ag hin;have JG:=ag h35;have Hrd:=ag zmh;have Hk:=ag hk;have Hml:=ag hml;have HM:=ag hmk;have Hpa:=ag hpa;have HR:=ag R;clear hin h35 zmh hk hml hpa hPV hPE hkey bM hrd hM hSV hSO hsd hqe hb hd h hcr hcz hbz hsv hsz hpl hmk zF hpc hq;go_enter Tryz.func90,Tryz.ntmps90;go_wp2_with (first|(refine oP rfl 134 rfl Qw.out ?_;refine o8 (λw9=>w9.heap[w.heap.size]? =some (.cells cz 134 (0,0))∧Keep nM w w9) ⟨aG w _,(ah nM w).alloc _⟩ ?_;rintro w9 ⟨hX9,K9⟩;have d0:=(K9.cell (p:=⟨B,0,none⟩) hlt (λx=>x)).trans c0;have d2:=(K9.cell (p:=⟨B,2,none⟩) hlt (λx=>x)).trans c2));refine(Hrd.out _ K9).mono ?_;rintro e w1 ⟨rfl,K1⟩;have hX1:=K1.heap hX9 (λx=>x);have K91:=K9.nK K1;have d3:=(K91.cell (p:=⟨B,2,none⟩) hlt (λx=>x)).trans c2;clear K1 K9 hX9 d0 d2 Hrd zh5;go_wp2_with fail;have K92:=K91.alloc (.cells #[.string sec] 9);refine(xC 115 (by decide) _ [sec] _ (HR.out.keep K92 (λx=>x)) (Strs.lit (w:=w1) [sec]) Hml.out (by simp)).mono ?_;rw[HM.out];rintro e w2 ⟨rfl,K2⟩;have K93:=K92.nK K2;go_wp2_with fail;refine(sum_any M hMs _ (HR.out.keep K93 (λx=>x))).mono ?_;rw[Hk.out];rintro e w3 ⟨rfl,K3⟩;have K94:=K93.nK K3;go_wp2_with fail;refine(Hpa.out _ K94).mono ?_;rintro e w4 ⟨rfl,K4⟩;have K95:=K94.nK K4;have hX4:w4.heap[w.heap.size]? =some (.cells cz 134 (0,0)):=K4.heap (K3.heap (K2.heap (((ah nM w1).alloc _).heap hX1 (λx=>x)) (λx=>x)) (λx=>x)) (λx=>x);clear K91 K92 K93 K94 K2 K3 K4 Hk HM Hml Hpa hX1 d3;have hne:w.heap.size≠w4.heap.size:=by have:=lt_of_heap hX4;omega
 have Hne:=ag hne;clear hne;by_cases hE:PE=0
 ·have he:errVal PE= .nilIface:=by rw[errVal,aP hE]
  rw[he];clear he;go_wp2_with (first|(refine oP rfl 134 rfl Qw.out ?_;refine o8 (λw5=>w5.heap[w4.heap.size]? =some (.cells cz 134 (0,0))∧w5.heap[w.heap.size]? =some (.cells cz 134 (0,0))∧Keep nM w w5) ⟨aG w4 _,((ah nM w4).alloc _).heap hX4 (λx=>x),K95.alloc _⟩ ?_;rintro w5 ⟨Ye,hX5,K5⟩)|(refine oH rfl 134 (.tmp 8) (.tmp 32) rfl w4.heap.size 134 cz cr rfl rfl Ye JG.out 35 hzl hcl hone ?_;refine o8 (λw6=>w6.heap[w4.heap.size]? =some (.cells cr 134 (0,0))∧w6.heap[w.heap.size]? =some (.cells cz 134 (0,0))∧Keep nM w w6) ⟨oO (c':=cr) Ye,(jo _ _ _ _ Hne.out).trans hX5,K5.setRow (g:=w4.heap.size) (.inr (K95.size)) cr⟩ ?_;clear Ye hX5 K5;rintro w6 ⟨Uf,hX6,K6⟩));have y0:∀x:rE (λw9=>w9.heap[w4.heap.size]? =some (.cells cr 134 (0,0))),x.w.cell? ⟨w4.heap.size,0,none⟩=some (.int .i64 pc):=λx=>by rw[aO _ _ _ _ _ (0,0) x.h];exact hcc
  refine xJ (λw9=>w9.heap[w4.heap.size]? =some (.cells cr 134 (0,0))) [0,1,2,3,4,5,6,7,8] [9,10] (by kernel_rfl) (by kernel_rfl) (λc a d v w h=>by cases d<;>exact h) ?_;simp only[nR,aj,ak,au];refine uC (by rfl) 134 (.tmp 8) rfl w4.heap.size 0 rfl 134 cr (0,0) cr _ (λx=>x.h) (λj v hv=>by rw[dM];exact hv) Tryz.underlying134 rfl JG.out ?_
  repeat(refine nJ (λK hK=> ?_);go_simp;first|(refine⟨_,λ_=>rfl,hK _ ?_⟩;clear hK K)|(refine hK _ ?_;clear hK K))
  refine nH ?_;clear y0;simp only[Em,nR,aj,ak,au];refine⟨Uf,?_⟩;go_wp2_with (refine oH rfl 134 (.tmp 4) (.tmp 34) rfl w.heap.size 134 cz cr rfl rfl (show w6.drew.heap[w.heap.size]? =_ from hX6) JG.out 35 hzl hcl hone ?_;refine o8 (λw7=>w7.heap[w.heap.size]? =some (.cells cr 134 (0,0))∧w7.heap[w4.heap.size]? =some (.cells cr 134 (0,0))∧Keep nM w w7) ⟨oO (c':=cr) (show w6.drew.heap[w.heap.size]? =_ from hX6),(jo _ _ _ _ (Ne.symm Hne.out)).trans Uf,K6.drew.setRow (g:=w.heap.size) (.inr (aF _)) cr⟩ ?_;clear Uf hX6 K6;rintro w7 ⟨hX7,hY7,K7⟩);refine⟨hY7,?_⟩;go_wp2_with fail;refine dW (v:= .tuple #[.agg cr,.bool (pc==(c:Int))]) (qZ rfl _ w7 w.heap.size 134 cr (0,0) _ (.bool (pc==(c:Int))) rfl rfl hX7 Tryz.underlying134 rfl JG.out) rfl ⟨?_,K7⟩;have hb:(pc==(c:Int))=decide (PE=0∧pc=(c:Int)):=by
   by_cases h:pc=(c:Int)
   ·rw[bJ ⟨hE,h⟩,h];exact fV _
   ·rw[bV (λh2=>h h2.2)];exact dS.2 h
  rw[hb]
 ·have he:errVal PE= .iface 51 (.int .i64 PE):=zcf PE hE;rw[he];clear he;go_wp2_with (first|(refine oP rfl 134 rfl Qw.out ?_;refine o8 (λw5=>w5.heap[w4.heap.size]? =some (.cells cz 134 (0,0))∧w5.heap[w.heap.size]? =some (.cells cz 134 (0,0))∧Keep nM w w5) ⟨aG w4 _,((ah nM w4).alloc _).heap hX4 (λx=>x),K95.alloc _⟩ ?_;rintro w5 ⟨Ye,hX5,K5⟩)|(refine oH rfl 134 (.tmp 8) (.tmp 32) rfl w4.heap.size 134 cz cr rfl rfl Ye JG.out 35 hzl hcl hone ?_;refine o8 (λw6=>w6.heap[w4.heap.size]? =some (.cells cr 134 (0,0))∧w6.heap[w.heap.size]? =some (.cells cz 134 (0,0))∧Keep nM w w6) ⟨oO (c':=cr) Ye,(jo _ _ _ _ Hne.out).trans hX5,K5.setRow (g:=w4.heap.size) (.inr (K95.size)) cr⟩ ?_;clear Ye hX5 K5;rintro w6 ⟨Uf,hX6,K6⟩));have y0:∀x:rE (λw9=>w9.heap[w4.heap.size]? =some (.cells cr 134 (0,0))),x.w.cell? ⟨w4.heap.size,0,none⟩=some (.int .i64 pc):=λx=>by rw[aO _ _ _ _ _ (0,0) x.h];exact hcc
  refine xJ (λw9=>w9.heap[w4.heap.size]? =some (.cells cr 134 (0,0))) [0,1,2,3,4,5,6,7,8] [9,10] (by kernel_rfl) (by kernel_rfl) (λc a d v w h=>by cases d<;>exact h) ?_;simp only[nR,aj,ak,au];refine uC (by rfl) 134 (.tmp 8) rfl w4.heap.size 0 rfl 134 cr (0,0) cr _ (λx=>x.h) (λj v hv=>by rw[dM];exact hv) Tryz.underlying134 rfl JG.out ?_
  repeat(refine nJ (λK hK=> ?_);go_simp;first|(refine⟨_,λ_=>rfl,hK _ ?_⟩;clear hK K)|(refine hK _ ?_;clear hK K))
  refine nH ?_;clear y0;simp only[Em,nR,aj,ak,au];refine⟨Uf,?_⟩;go_wp2_with (refine oH rfl 134 (.tmp 4) (.tmp 34) rfl w.heap.size 134 cz cr rfl rfl (show w6.drew.heap[w.heap.size]? =_ from hX6) JG.out 35 hzl hcl hone ?_;refine o8 (λw7=>w7.heap[w.heap.size]? =some (.cells cr 134 (0,0))∧w7.heap[w4.heap.size]? =some (.cells cr 134 (0,0))∧Keep nM w w7) ⟨oO (c':=cr) (show w6.drew.heap[w.heap.size]? =_ from hX6),(jo _ _ _ _ (Ne.symm Hne.out)).trans Uf,K6.drew.setRow (g:=w.heap.size) (.inr (aF _)) cr⟩ ?_;clear Uf hX6 K6;rintro w7 ⟨hX7,hY7,K7⟩);refine⟨hY7,?_⟩;go_wp2_with fail;refine dW (v:= .tuple #[.agg cr,.bool false]) (qZ rfl _ w7 w.heap.size 134 cr (0,0) _ (.bool false) rfl rfl hX7 Tryz.underlying134 rfl JG.out) rfl ⟨?_,K7⟩;rw[bV (λh2=>hE h2.1)]
theorem Kt{α:Type}(A D:List α)(k:Nat)(t:α)(hA:A.length=k)(hk:k<D.length):(A++D.drop k).set k t=A++ [t]++D.drop (k+1):=by rw[iw _ _ (by omega),hA,lU,gY hk,List.set_cons_zero,bu];rfl
def yJ(V:nT)(l:List (af×af)):nT:= { V with texts:=l.map (·.1)++V.texts.drop l.length,marks:=l.map (·.2)++V.marks.drop l.length }
theorem zaj(V:nT):yJ V []=V:=rfl
theorem zak{V:nT}(h:o7 V){l:List (af×af)}(hl:l.length<32)(p q:af×af):
  wY (vX (wY (vX (yJ V l) l.length q.1) l.length q.2) l.length p.1) l.length p.2=yJ V (l++ [p]):=by
 simp only[wY,vX,yJ,List.set_set,ay,gu,di,bF,dB];rw[Kt _ _ _ _ (by simp) (by rw[h.texts];exact hl),Kt _ _ _ _ (by simp) (by rw[h.marks];exact hl)]
theorem LX{V:nT}(h:o7 V){l:List (af×af)}(hl:l.length<32)(p:af×af):
  wY (vX (yJ V l) l.length p.1) l.length p.2=yJ V (l++ [p]):=by
 simp only[wY,vX,yJ,ay,gu,di,bF,dB];rw[Kt _ _ _ _ (by simp) (by rw[h.texts];exact hl),Kt _ _ _ _ (by simp) (by rw[h.marks];exact hl)]
theorem zb4{secret:af}{B:List af}{x:rC}{k:Nat}(h:zT (Ba secret x.nP) B x.sides k=none)(hk:k<32):Ap secret B x=none:=by have h1:=LQ h 32 hk;unfold Ap;rw[h1]
theorem zb3{secret:af}{B:List af}{x:rC}{l:List (af×af)}(h:uQ (Ba secret x.nP) B x.sides 32=some l):Ap secret B x=if rV (l.map (·.2))=x.root then some (l.map (·.1),l.map (·.2))else none:=by unfold Ap;rw[h]
theorem UR{key:af}{B:List af}{sides:List Bool} :∀(n:Nat) (l:List (af×af)),uQ key B sides n=some l->∀m∈l.map (·.2),m.size=16:=by intro n l h m hm;obtain⟨p,hp,rfl⟩:=bf.1 hm;obtain⟨i,hi⟩:=iZ hp;have hil:i<l.length:=(aN.1 hi).1;have hl:=Dj n l h;have h2:=GU n l h i (by omega);rw[hi]at h2;exact O0 h2
theorem SY{V:nT}(h:o7 V){l:List (af×af)}(hl:l.length=32):yJ V l= { V with texts:=l.map (·.1),marks:=l.map (·.2) } :=by simp only[yJ,hl];rw[lV (by rw[h.texts];exact aF _),lV (by rw[h.marks];exact aF _),dJ,dJ]
theorem YX(s:af):(s.extract 0 8=txt (qB 0))↔(bs s).take 8=qB 0:=by
 constructor
 ·intro h;have:=dK bs h
  rwa [pY,cO,qw (sJ 0)]at this
 ·intro h;apply xy;rw[pY,cO,qw (sJ 0)];exact h
theorem JY{w:World}{B D C S:Nat}{V:nT}{wv:Value}{d:pG}(h:og w B D C V)(hd:qi w D S wv d):∀b,qg D S wv b->b≠B:=by
 rintro b hb rfl;have hty:∀ {c c':Array Value} {t t':TypeId} {f f':Nat×Nat},w.heap[b]? =some (.cells c t f)->w.heap[b]? =some (.cells c' t' f')->t=t':=λh h'=>by rw[h]at h';have:=aH h';simp only[lu]at this;exact this.2.1
 rcases hb with rfl|rfl|hb
 ·obtain⟨c,h2,_⟩:=hd.head;exact absurd (hty h.row h2) (by decide)
 ·obtain⟨c,h2,_⟩:=hd.row;exact absurd (hty h.row h2) (by decide)
 ·rcases hd.waits.2 with⟨hv,_⟩|⟨g,cap,cur,fz,hv,_,hg,_⟩
  ·rw[hv]at hb;cases hb
  ·rw[hv]at hb;obtain rfl:g=b:=aH hb;exact absurd (hty h.row hg) (by decide)
theorem zd0{w:World}{B D C:Nat}{V:nT}(h:og w B D C V)(R:oG w):0≠B:=by intro e;have h1:=R 0 (by omega);have h2:=h.dev;rw[<-e]at h2;rw[h2]at h1;cases h1
def LoadSaid(w':World)(B D C:Nat)(V:nT)(r:Option (List af×List af))(x:rC)(e:Ending):Prop:=match r with
 | some p=>e= .returned (.bool true)∧og w' B D C ⟨V.secret,x,p.1,p.2,V.dead⟩
 | none=>e= .returned (.bool false)∧∃t m,og w' B D C { V with texts:=t,marks:=m }
def Q8(B X:Nat)(sec:af)(ep:Int)(w:World):Prop:=w.cell? ⟨B,2,none⟩=some (.string sec)∧w.cell? ⟨X,1,none⟩=some (.int .i64 ep)
def Q7(B X D k:Nat)(b:Bool)(w:World):Prop:=w.cell? ⟨B,0,none⟩=some (.pointer (some ⟨D,0,none⟩))∧w.cell? ⟨X,2+k,none⟩=some (.bool b)
theorem IY{w:World}{B D C S:Nat}{V:nT}{wv:Value}{d:pG}(h:og w B D C V)(hd:qi w D S wv d)(hb:∀i,i<66->(d.now.getD i ⟨#[]⟩).size=256)(hs:V.secret.size<=1000)(x:rC)(hx:x.sides.length=32)(R:oG w):
  ae 91 #[.pointer (some ⟨B,0,none⟩),ry x] w λe w'=>LoadSaid w' B D C V (Ap V.secret d.now x) x e∧Keep (nY B) w w':=by
 obtain⟨cx,hcx⟩:∃cx,cx=(oq x).toArray:=⟨_,rfl⟩
 have hsv:ry x= .agg cx:=by rw[hcx];rfl
 rw[hsv];have hcl:cx.size=35:=by rw[hcx,bT,rG x hx]
 have hc1:cx[1]? =some (.int .i64 x.nP):=by rw[hcx];rfl
 have hc34:cx[34]? =some (.string x.root):=by rw[hcx,oq,aj,cu (by simp[hx]),ay,aI,hx];rfl
 have hcs:∀k,k<32->cx[2+k]? =some (.bool (x.sides.getD k false)):=λk hk=>by rw[hcx];exact Dz x k (by omega)
 have hne:=JY h hd;have hRN:=zd0 h R;have hkey:=λ(W:World) (K:Keep nM w W)=>zcZ V.secret x.nP hs W (R.keep K (λx=>x));obtain⟨key,hk⟩:∃k,k=Ba V.secret x.nP:=⟨_,rfl⟩
 have hks:key.size=32:=by rw[hk];exact VX _ _
 rw[<-hk]at hkey;have c2:=h.secret;have hlt:=h.lt;obtain⟨sec,zF⟩:∃x,x=V.secret:=⟨_,rfl⟩
 rw[<-zF]at c2 hkey;obtain⟨ep,hep⟩:∃e,e=x.nP:=⟨_,rfl⟩
 rw[<-hep]at hkey hc1;have zfy:=ag hkey;have Hb:=ag hb;have Hcs:=ag hcs;have Hk:=ag hk;have Hd:=ag hd;have HV:=ag h;have HR:=ag R;have Hne:=ag hne;have HRN:=ag hRN;have Hcx:=ag hcx;clear hkey hb hcs hk hd h R hne hRN hcx hsv zF hep hs;go_enter Tryz.func91,Tryz.ntmps91;go_wp2_with fail;obtain⟨X,hX⟩:∃X,X=w.heap.size:=⟨_,rfl⟩
 have hX0:=aG w (.cells cx 134);have KX:Keep nM w (w.alloc (.cells cx 134)):=(ah _ _).alloc _;obtain⟨w1,hw1⟩:∃w1,w1=w.alloc (.cells cx 134):=⟨_,rfl⟩
 rw[<-hw1]at hX0 KX⊢;rw[<-hX]at hX0⊢;have HX:=ag hX;clear hw1 hX;have L1:Q8 B X sec ep w1:=⟨(KX.cell (p:=⟨B,2,none⟩) hlt (λx=>x)).trans c2,by rw[aO _ _ _ _ _ (0,0) hX0];exact hc1⟩
 have l0:∀x:rE (Q8 B X sec ep),x.w.cell? ⟨B,2,none⟩=some (.string sec):=λx=>x.h.1;have l1:∀x:rE (Q8 B X sec ep),x.w.cell? ⟨X,1,none⟩=some (.int .i64 ep):=λx=>x.h.2;refine nO (Q8 B X sec ep) [(true,0),(true,1),(true,2),(true,3),(true,4),(true,5),(false,6),(false,7)] (by kernel_rfl) (by kernel_rfl) (λc a d v w h=>by cases d<;>exact h) ?_;simp only[oQ,nR,aj,ak,au]
 repeat(refine nJ (λK hK=> ?_);go_simp;first|(refine⟨_,λ_=>rfl,hK _ ?_⟩;clear hK K;refine nH ?_)|(refine hK _ ?_;clear hK K;refine nH ?_))
 clear l0 l1;refine⟨L1,?_⟩;go_wp2_with fail;refine(zfy.out _ KX.drew).mono ?_;rintro e w2 ⟨rfl,K2⟩;have L2:Q8 B X sec ep w2:=⟨(K2.cell (p:=⟨B,2,none⟩) (by have:=KX.size;show B<w1.heap.size;omega) (λx=>x)).trans L1.1,(K2.cell (p:=⟨X,1,none⟩) (lt_of_heap hX0) (λx=>x)).trans L1.2⟩
 have hX2:=K2.heap (show w1.drew.heap[X]? =_ from hX0) (λx=>x);have FD:=KX.drew.nK K2;go_wp2_with fail;refine⟨L2,?_⟩;clear L1 L2 K2 hX0 KX zfy c2 hc1;go_wp2_with fail;obtain⟨f,hf⟩:∃f:Nat->Option (af×af),f=λk=>zT key d.now x.sides k:=⟨_,rfl⟩
 have Hf:=ag hf;clear hf
 go_loopw [20] (λiv wr=>∃(k:Nat) (l:List (af×af)),iv= .int .i64 k∧k<=32∧Hid (uQ key d.now x.sides k=some l∧l.length=k)∧Hid (og wr B D C (yJ V l))∧Keep (nY B) w2 wr) (λiv _=>32-(intOf iv).toNat)
 case atStart=>exact⟨0,[],rfl,by omega,ag ⟨rfl,rfl⟩,ag (by rw[zaj];exact HV.out.keep FD (λx=>x)),ah _ _⟩
 case round=>
  obtain⟨k,l,rfl,hk,hl,hV,K⟩:=hrel;obtain⟨wo,rfl⟩:∃wo,wo=wr:=⟨_,rfl⟩
  have KK:Keep (nY B) w wo:=(FD.vN).then K;have hBX:B≠X:=by rw[HX.out];omega
  have hd2:qi wo D S wv d:=(Hd.out.keep KK (λb hb hB=>Hne.out b hb hB))
  have hlen:k<=32:=hk;by_cases hlt32:k<32
  ·have j1:(k:Int)<32:=by omega
   have j0:(0:Int)<=k:=by omega
   obtain⟨sd,hsd⟩:∃b,b=x.sides.getD k false:=⟨_,rfl⟩
   obtain⟨s,hss⟩:∃s,s=d.now.getD (tX k sd) ⟨#[]⟩:=⟨_,rfl⟩
   have hsz:s.size=256:=by rw[hss];exact Hb.out _ (DZ hlt32 sd)
   have hpl:=λ(W:World)=>G8 k sd hlt32 W;have hrd:∀(W:World),Keep nM wo W->ae 129 #[.pointer (some ⟨D,0,none⟩),.int .i64 ((tX k sd:Nat):Int)] W λe w'=>e= .returned (.tuple #[.string s,.nilIface])∧Keep nM W w':=by intro W K;rw[hss];exact zcL (hd2.keep K (λ_ _ x=>x)) _ (DZ hlt32 sd)
   have hR:=HR.out.keep KK HRN.out;have hm0:=λ(W:World) (K:Keep (nY B) wo W)=>BK k 0 ⟨#[]⟩ (by decide) W (hR.keep K HRN.out);have hX3:wo.heap[X]? =some (.cells cx 134 (0,0)):=K.heap hX2 (λe=>hBX (Eq.symm e));have L5:Q7 B X D k sd wo:=⟨hV.out.dev,by
    have:wo.cell? ⟨X,2+k,none⟩=cx[2+k]? :=aO _ _ _ _ _ (0,0) hX3
    rw[hsd,<-Hcs.out k hlt32];exact this⟩
   have Hpl:=ag hpl;have Hrd:=ag hrd;have Hm0:=ag hm0;have Hsd:=ag hsd;have Hss:=ag hss;have U5:=ag hX3;have HBX:=ag hBX;have HKK:=ag KK;have HRo:=ag hR;have Hd2:=ag hd2;have hBlt:B<wo.heap.size:=hV.out.lt;have hXlt:X<wo.heap.size:=lt_of_heap hX3;clear hpl hrd hm0 hsd hss hX3 hBX KK hR hd2;have l0:∀x:rE (Q7 B X D k sd),x.w.cell? ⟨B,0,none⟩=some (.pointer (some ⟨D,0,none⟩)):=λx=>x.h.1;have l1:∀x:rE (Q7 B X D k sd),x.w.cell? ⟨X,2+k,none⟩=some (.bool sd):=λx=>x.h.2;go_wp2_with fail;refine nO (Q7 B X D k sd) [(true,0),(true,1),(true,2),(true,3),(true,4),(true,5),(true,6),(true,7),(true,8),(false,9),(false,10),(true,11),(true,12),(true,13),(true,14),(false,15)] (by kernel_rfl) (by kernel_rfl) (λc a d v w h=>by cases d<;>exact h) ?_;simp only[oQ,nR,aj,ak,au]
   repeat(refine nJ (λK hK=> ?_);go_simp;first|(refine⟨_,λ_=>rfl,hK _ ?_⟩;clear hK K;refine nH ?_)|(refine hK _ ?_;clear hK K;refine nH ?_))
   clear l0 l1;refine⟨L5,?_⟩;go_wp2_with fail;refine(Hpl.out _).mono ?_;rintro e w3 ⟨rfl,hw3⟩;subst hw3;go_wp2_with fail;refine⟨L5,?_⟩;go_wp2_with fail;refine(Hrd.out _ (ah _ _).drew).mono ?_;rintro e w4 ⟨rfl,K4⟩;have K4':Keep nM wo w4:=((ah nM wo).drew).nK K4;have L6:Q7 B X D k sd w4:=⟨(K4'.cell (p:=⟨B,0,none⟩) hBlt (λx=>x)).trans L5.1,(K4'.cell (p:=⟨X,2+k,none⟩) hXlt (λx=>x)).trans L5.2⟩
   clear L5 K4 Hpl Hrd;go_wp2_with fail
   repeat(refine nJ (λK hK=> ?_);go_simp;first|(refine⟨_,λ_=>rfl,hK _ ?_⟩;clear hK K;refine nH ?_)|(refine hK _ ?_;clear hK K;refine nH ?_))
   refine⟨L6,?_⟩;clear L6;go_wp2_with fail;have hV4:og w4 B D C (yJ V l):=hV.out.keep K4' (λx=>x);obtain⟨m0,hm0⟩:∃m,m=txt (QV k 0 (bs ⟨#[]⟩)):=⟨_,rfl⟩
   have hmk:=Hm0.out;rw[<-hm0]at hmk;have Hmk:=ag hmk;have HM0:=ag hm0;clear hmk hm0 Hm0;refine nO (λ_=>True) [(true,0),(true,1),(true,2),(true,3),(true,4),(true,6),(true,7),(true,10),(true,11),(false,5),(true,8),(false,9),(true,12),(false,13)] (by kernel_rfl) (by kernel_rfl) (λc a d v w h=>by cases d<;>exact h) ?_;simp only[oQ,nR,aj,ak,au]
   repeat(refine nJ (λK hK=> ?_);go_simp;first|(refine⟨_,λ_=>rfl,hK _ ?_⟩;clear hK K;refine nH ?_)|(refine hK _ ?_;clear hK K;refine nH ?_))
   refine⟨trivial,?_⟩;go_wp2_with fail;refine(Hmk.out _ (K4'.vN.drew)).mono ?_;rintro e w5 ⟨rfl,K5⟩;have hV5:og w5 B D C (yJ V l):=hV4.keep ((ah nM w4).drew.nK K5) (λx=>x);have K45:Keep nM w4 w5:=(ah nM w4).drew.nK K5;have ct:=hV5.text k hlt32;have ft:=hV5.free (38+k);clear K5 hV4;go_wp2_with fail
   repeat(refine nJ (λK hK=> ?_);go_simp;first|(refine⟨_,λ_=>rfl,hK _ ?_⟩;clear hK K;refine nH ?_)|(refine hK _ ?_;clear hK K;refine nH ?_))
   refine⟨trivial,?_⟩;go_wp2_with fail;have hV6:=hV5.vX k hlt32 ⟨#[]⟩;have K6:Keep (nY B) w4 (w5.setCell ⟨B,38+k,none⟩ (.string ⟨#[]⟩)):=(K45.vN (S:=nY B)).set1 (38+k) _;obtain⟨w6,hw6⟩:∃w6,w6=w5.setCell ⟨B,38+k,none⟩ (.string ⟨#[]⟩):=⟨_,rfl⟩
   rw[<-hw6]at hV6 K6⊢;have cm:=hV6.mark k hlt32;have fm:=hV6.free (70+k);clear hw6 ct ft hV5 K45
   repeat(refine nJ (λK hK=> ?_);go_simp;first|(refine⟨_,λ_=>rfl,hK _ ?_⟩;clear hK K;refine nH ?_)|(refine hK _ ?_;clear hK K;refine nH ?_))
   refine⟨trivial,?_⟩;go_wp2_with fail;have hV7:=hV6.wY k hlt32 m0;have K7:Keep (nY B) w4 (w6.setCell ⟨B,70+k,none⟩ (.string m0)):=K6.set1 (70+k) _;obtain⟨w7,hw7⟩:∃w7,w7=w6.setCell ⟨B,70+k,none⟩ (.string m0):=⟨_,rfl⟩
   rw[<-hw7]at hV7 K7⊢;clear hw7 cm fm hV6 K6 Hmk;have K47:Keep (nY B) wo w7:=K4'.vN.then K7;obtain⟨Z,hZ⟩:∃Z,Z=txt (qB (uf 0)):=⟨_,rfl⟩
   have hnum:=λW=>num_int 0 W;rw[<-hZ]at hnum;have h8:(8:Int)<=s.size:=by omega
   obtain⟨Bq,hBq⟩:∃b,b=zH (s.extract 0 8) Z:=⟨_,rfl⟩
   have jq:=hBq.symm;unfold zH at jq;have HBq:=ag hBq;have HZ:=ag hZ;have tq:=ag hnum;clear hBq hZ hnum;refine nO (λ_=>True) [(true,0),(true,1),(false,2),(false,3)] (by kernel_rfl) (by kernel_rfl) (λc a d v w h=>by cases d<;>exact h) ?_;simp only[oQ,nR,aj,ak,au]
   repeat(refine nJ (λK hK=> ?_);go_simp;first|(refine⟨_,λ_=>rfl,hK _ ?_⟩;clear hK K;refine nH ?_)|(refine hK _ ?_;clear hK K;refine nH ?_))
   refine⟨trivial,?_⟩;go_wp2_with fail;refine(tq.out _).mono ?_;rintro e w8 ⟨rfl,K8⟩;have K48:Keep (nY B) wo w8:=K47.drew.nK K8;have hV8:og w8 B D C (wY (vX (yJ V l) k ⟨#[]⟩) k m0):=hV7.keep ((ah nM w7).drew.nK K8) (λx=>x);clear hV7 K47 K8 K7 K4';have hP:zT key d.now x.sides k=yc key k s:=by rw[Hss.out,Hsd.out];rfl
   have HP:=ag hP;clear hP;cases Bq with
   | true=>
    have hpg:yc key k s=some (⟨#[]⟩,m0):=by
     have h1:s.extract 0 8=Z:=by
      by_cases h:s.extract 0 8=Z
      ·exact h
      ·have:=DX h;rw[<-HBq.out]at this;cases this
     rw[HZ.out]at h1;rw[yc,aP ((YX s).1 h1),HM0.out];rfl
    have Hpg:=ag hpg;clear hpg;go_wp2_with fail;refine⟨trivial,?_⟩;go_wp2_with fail;refine⟨⟨k+1,l++ [(⟨#[]⟩,m0)],by go_num,by omega,ag ⟨?_,by rw[ay,hl.out.2];rfl⟩,ag ?_,K.then K48⟩,by simp[intOf];omega⟩
    ·rw[uQ,hl.out.1,HP.out,Hpg.out]
    ·have h:=LX HV.out.lens (l:=l) (by rw[hl.out.2];exact hlt32) (⟨#[]⟩,m0);rw[hl.out.2]at h;rw[<-h];exact hV8
   | false=>
    have hn8:¬(bs s).take 8=qB 0:=by
     intro h;have h1:=(YX s).2 h;have h2:zH (s.extract 0 8) Z=true:=by rw[HZ.out,show uf 0=0 from rfl,<-h1];exact AQ _
     rw[<-HBq.out]at h2;cases h2
    have Hn8:=ag hn8;clear hn8;go_wp2_with fail;refine⟨trivial,?_⟩;by_cases hop:U6 (bs key) k (bs s)
    ·have zdk:=λ(W:World) (K:Keep (nY B) wo W)=>ziT key k s hks (by omega) (by omega) hop W (HRo.out.keep K HRN.out);obtain⟨vr,hvr⟩:∃v,v=zi (bs s):=⟨_,rfl⟩
     obtain⟨tx,htx⟩:∃t,t=txt (xB (bs key) (bs s)):=⟨_,rfl⟩
     rw[<-hvr,<-htx]at zdk;have htl:tx.size<=1000:=by rw[htx,oU,xB,bG];omega
     have hpg:yc key k s=some (tx,uy k vr tx):=by rw[yc,aB Hn8.out,aP hop,htx,hvr]
     have hmk:=λ(W:World) (K:Keep (nY B) wo W)=>BK k vr tx htl W (HRo.out.keep K HRN.out);obtain⟨m1,hm1⟩:∃m,m=uy k vr tx:=⟨_,rfl⟩
     have zmo:∀(W:World),Keep (nY B) wo W->ae 93 #[.int .i64 k,.int .i64 vr,.string tx] W λe w'=>e= .returned (.string m1)∧Keep nM W w':=by intro W K;rw[hm1];exact hmk W K
     rw[<-hm1]at hpg;have Hpg:=ag hpg;have Hop:=ag zdk;have Hmk:=ag zmo;clear hpg zdk hmk zmo hm1 hvr htx hop;go_wp2_with fail;refine(Hop.out _ K48).mono ?_;rintro e w9 ⟨rfl,K9⟩;have K49:=K48.nK K9;have hV9:=hV8.keep K9 (λx=>x);clear K48 K9 hV8 Hop;go_wp2_with fail;refine nO (λ_=>True) [(true,0),(true,1),(true,2),(true,3),(true,4),(true,5),(true,6),(true,7),(true,9),(true,10),(true,13),(true,14),(false,8),(true,11),(false,12),(true,15),(false,16)] (by kernel_rfl) (by kernel_rfl) (λc a d v w h=>by cases d<;>exact h) ?_;simp only[oQ,nR,aj,ak,au]
     repeat(refine nJ (λK hK=> ?_);go_simp;first|(refine⟨_,λ_=>rfl,hK _ ?_⟩;clear hK K;refine nH ?_)|(refine hK _ ?_;clear hK K;refine nH ?_))
     refine⟨trivial,?_⟩;go_wp2_with fail;refine(Hmk.out _ K49.drew).mono ?_;rintro e w10 ⟨rfl,K10⟩;have Yo:=hV9.keep ((ah nM w9).drew.nK K10) (λx=>x);have K50:=K49.drew.nK K10;have ct:=Yo.text k hlt32;have ft:=Yo.free (38+k);clear K10 hV9 K49 Hmk;go_wp2_with fail
     repeat(refine nJ (λK hK=> ?_);go_simp;first|(refine⟨_,λ_=>rfl,hK _ ?_⟩;clear hK K;refine nH ?_)|(refine hK _ ?_;clear hK K;refine nH ?_))
     refine⟨trivial,?_⟩;go_wp2_with fail;have QC:=Yo.vX k hlt32 tx;have K11:Keep (nY B) wo (w10.setCell ⟨B,38+k,none⟩ (.string tx)):=K50.set1 (38+k) _;obtain⟨Ud,zl9⟩:∃Ud,Ud=w10.setCell ⟨B,38+k,none⟩ (.string tx):=⟨_,rfl⟩
     rw[<-zl9]at QC K11⊢;have cm:=QC.mark k hlt32;have fm:=QC.free (70+k);clear zl9 ct ft Yo K50
     repeat(refine nJ (λK hK=> ?_);go_simp;first|(refine⟨_,λ_=>rfl,hK _ ?_⟩;clear hK K;refine nH ?_)|(refine hK _ ?_;clear hK K;refine nH ?_))
     refine⟨trivial,?_⟩;go_wp2_with fail;have zpe:=QC.wY k hlt32 m1;have zpp:Keep (nY B) wo (Ud.setCell ⟨B,70+k,none⟩ (.string m1)):=K11.set1 (70+k) _;refine⟨⟨k+1,l++ [(tx,m1)],by go_num,by omega,ag ⟨?_,by rw[ay,hl.out.2];rfl⟩,ag ?_,K.then zpp⟩,by simp[intOf];omega⟩
     ·rw[uQ,hl.out.1,HP.out,Hpg.out]
     ·have h:=zak HV.out.lens (l:=l) (by rw[hl.out.2];exact hlt32) (tx,m1) (⟨#[]⟩,m0);rw[hl.out.2]at h;rw[<-h];exact zpe
    ·have zdk:=λ(W:World) (K:Keep (nY B) wo W)=>zgY key k s hks (by omega) (by omega) hop W (HRo.out.keep K HRN.out);have hpg:yc key k s=none:=by rw[yc,aB Hn8.out,aB hop]
     have hno:Ap V.secret d.now x=none:=zb4 (by rw[<-Hk.out,HP.out,hpg]) hlt32;have Hno:=ag hno;have Hop:=ag zdk;clear hpg zdk hop hno;go_wp2_with fail;refine(Hop.out _ K48).mono ?_;rintro e w9 ⟨rfl,K9⟩;go_wp2_with fail;go_ret;refine⟨?_,HKK.out.then (K48.nK K9)⟩;rw[Hno.out];exact⟨rfl,_,_,hV8.keep K9 (λx=>x)⟩
  ·obtain rfl:k=32:=by omega
   have j1:¬((32:Nat):Int)<32:=by omega
   have hls:l.length=32:=hl.out.2;have hVA:=SY HV.out.lens hls;have hVo:=hV.out;rw[hVA]at hVo;obtain⟨ts,hts⟩:∃t,t=l.map (·.1):=⟨_,rfl⟩
   obtain⟨ms,hms⟩:∃t,t=l.map (·.2):=⟨_,rfl⟩
   have zh7:ms.length=32:=by rw[hms,aI,hls]
   have zjK:∀m∈ms,m.size=16:=by rw[hms];exact UR 32 l hl.out.1
   have hload:Ap V.secret d.now x=if rV ms=x.root then some (ts,ms)else none:=by rw[zb3 (by rw[<-Hk.out];exact hl.out.1),hts,hms]
   rw[<-hts,<-hms]at hVo;have T:Strs wo (.slice (some ⟨B,70,none⟩) 32 32) ms:= .inr ⟨B,70,32,by rw[zh7],hVo.lt,λi hi=>hVo.mark i (by omega)⟩;have hroot:=Lj (some ⟨B,70,none⟩) 32 32 ms wo (HR.out.keep KK HRN.out) T (aF _) (by omega);have hE:QI ms=0:=by rw[QI,aP (AV.2 ⟨zh7,zjK⟩)]
   rw[hE]at hroot;obtain⟨rt,hrt⟩:∃r,r=rV ms:=⟨_,rfl⟩
   rw[<-hrt]at hroot hload;have QX:ae 134 #[.slice (some ⟨B,70,none⟩) 32 32] wo λe w'=>e= .returned (.tuple #[.string rt,.nilIface])∧Keep nM wo w':=hroot;have hX3:wo.heap[X]? =some (.cells cx 134 (0,0)):=K.heap hX2 (λe=>hBX (Eq.symm e));have zcC:=ag QX;have zjY:=ag hload;have HVo:=ag hVo;have U5:=ag hX3;have HKK:=ag KK;have Hms:=ag zh7;clear hroot QX hload hrt hE T zjK hts hms hVA hls hV hX3 KK hd2 zh7 hVo;go_wp2_with fail;refine zcC.out.mono ?_;rintro e w3 ⟨rfl,K3⟩;have hX4:=K3.heap U5.out (λx=>x);have hV4:=HVo.out.keep K3 (λx=>x);have c34:w3.cell? ⟨X,34,none⟩=some (.string x.root):=by rw[aO _ _ _ _ _ (0,0) hX4];exact hc34
   by_cases heq:rt=x.root
   ·have jq:=AQ rt;unfold zH at jq;rw[<-heq]at c34;have Heq:=ag heq;have h35:(Tryz.prog.info? 134).map (·.size)=some cx.size:=by rw[hcl];exact qF
    have hone:cx.all (·.oneCell')=true:=by rw[Hcx.out];exact qY _
    have hBl:3+cx.size<=(nU D C { V with texts:=ts,marks:=ms }).toArray.size:=by rw[hcl,bT,CW hV4.lens];omega
    have JG:=ag h35;have zdu:=ag hone;have HBl:=ag hBl;clear heq h35 hone hBl;go_wp2_with (first|(refine jD rfl 134 (.tmp 3) rfl X rfl 134 cx (0,0) _ hX4 Tryz.underlying134 rfl JG.out ?_)|(refine zB rfl 134 (.tmp 100) (.tmp 98) rfl B 3 137 (nU D C { V with texts:=ts,marks:=ms }).toArray cx rfl rfl hV4.row JG.out HBl.out zdu.out ?_));go_ret;have hV5:=hV4.y5 (x:=x) hx;refine⟨?_,(HKK.out.nK K3).setRow (g:=B) (.inl rfl) _⟩;rw[zjY.out,aP Heq.out];refine⟨rfl,?_⟩;rw[<-Hcx.out]at hV5;exact hV5
   ·have jq:=DX heq;unfold zH at jq;have Hno:=ag heq;clear heq;go_wp2_with fail;go_ret;refine⟨?_,HKK.out.nK K3⟩;rw[zjY.out,aB Hno.out];exact⟨rfl,_,_,hV4⟩
def Gf(secret:af):nT:=⟨secret,⟨0,1,List.replicate 32 false,⟨#[]⟩⟩,List.replicate 32 ⟨#[]⟩,List.replicate 32 ⟨#[]⟩,false⟩
theorem ZO(secret:af):o7 (Gf secret):=⟨bP,bP,bP⟩
def QO(secret:af)(t m:List af):nT:= { Gf secret with texts:=t,marks:=m }
theorem Jm(secret:af)(B:List af)(c:Int):vW secret B c=if xP secret B c=true then(Ap secret B (wH secret B c)).map λp=>⟨secret,wH secret B c,p.1,p.2,false⟩else none:=by
 unfold vW;rw[zdM];by_cases h:xP secret B c=true
 ·rw[aP h,aP h]
 ·rw[aB h,aB h]
def tZ(k:Nat):List (af×af):=(List.range k).map λ(i:Nat)=>((⟨#[]⟩:af),uy (i:Int) 0 ⟨#[]⟩)
theorem Qb(k:Nat):tZ (k+1)=tZ k++ [(⟨#[]⟩,uy k 0 ⟨#[]⟩)]:=by simp[tZ,mF]
theorem CX(k:Nat):(tZ k).length=k:=by simp[tZ]
theorem zew(secret:af)(t m:List af)(h:o7 (QO secret t m)):yJ (QO secret t m) (tZ 32)=uU secret:=by
 rw[SY h (CX 32)];have e1:(tZ 32).map (·.1)=List.replicate 32 ⟨#[]⟩:=by rw[tZ,fU];apply jy (by simp);intro i h1 h2;rw[List.getElem_map,List.getElem_replicate];rfl
 have e2:(tZ 32).map (·.2)=(List.range 32).map λ(i:Nat)=>uy (i:Int) 0 ⟨#[]⟩:=by rw[tZ,fU];rfl
 rw[e1,e2];rfl
theorem zaE:Tryz.prog.built 134 [(1,.int .i64 1)]=some (oq ⟨0,1,List.replicate 32 false,⟨#[]⟩⟩).toArray:=by kernel_rfl
theorem zaD(D C:Nat)(secret:af):Tryz.prog.built 137 [(0,.pointer (some ⟨D,0,none⟩)),(1,.pointer (some ⟨C,0,none⟩)),(2,.string secret),(3,.agg (oq ⟨0,1,List.replicate 32 false,⟨#[]⟩⟩).toArray)]=some (nU D C (Gf secret)).toArray:=by kernel_rfl
def zhY(w w':World)(D C:Nat)(n:Nat)(r:Option (nT×Int))(e:Ending):Prop:=match r with
 | some p=>∃B,e= .returned (.tuple #[.pointer (some ⟨B,0,none⟩),.nilIface])∧w.heap.size<=B∧og w' B D C p.1∧oL w' C p.2
 | none=>e= .returned (.tuple #[.pointer none,errVal 15])∧oL w' C n
def zjs(w wx:World)(B D C:Nat)(secret:af)(blocks:List af)(n:Nat)(bv:Value):Prop:=
 ∃(b:Bool) (V':nT),bv= .bool b∧og wx B D C V'∧Keep nM w wx∧(b=true->vW secret blocks ((n+1:Nat):Int)=some V')∧(b=false->vW secret blocks ((n+1:Nat):Int)=none∧∃t m,V'=QO secret t m)
theorem IX{w:World}{D C S:Nat}{wv:Value}{d:pG}(hd:qi w D S wv d)(hb:∀i,i<66->(d.now.getD i ⟨#[]⟩).size=256)(n:Nat)(hn:n<1000000000)(hc:oL w C n)(secret:af)(hs:secret.size=16)(R:oG w):
  ae 57 #[.pointer (some ⟨D,0,none⟩),.pointer (some ⟨C,0,none⟩),.string secret] w λe w'=>zhY w w' D C n (yS secret d.now n) e∧Keep (nY C) w w':=by
 have hs2:(secret.size:Int)=16:=by omega
 have hDlt:D<w.heap.size:=by obtain⟨c,h2,_⟩:=hd.head;exact lt_of_heap h2
 have hClt:C<w.heap.size:=lt_of_heap hc;obtain⟨cs,hcs⟩:∃cs,cs=(oq ⟨0,1,List.replicate 32 false,⟨#[]⟩⟩).toArray:=⟨_,rfl⟩
 obtain⟨cv,hcv⟩:∃cv,cv=(nU D C (Gf secret)).toArray:=⟨_,rfl⟩
 have hbs:=zaE;have hbv:=zaD D C secret;rw[<-hcs]at hbs hbv;rw[<-hcv]at hbv;have Hbs:=ag hbs;have Hbv:=ag hbv;have Hcv:=ag hcv;have Hd:=ag hd;have Hb:=ag hb;have Hc:=ag hc;have HR:=ag R;have Hs:=ag hs;clear hbs hbv hcs hcv hd hb hc R hs;go_enter Tryz.func57,Tryz.ntmps57;go_wp2_with (first|(refine pU rfl 134 #[(1,.const (.int .i64 1))] rfl cs (by simp only[gW,bF,dB,gZ];exact Hbs.out) ?_)|(refine pU rfl 137 #[(0,.tmp 27),(1,.tmp 28),(2,.tmp 29),(3,.tmp 30)] rfl cv (by simp only[gW,bF,dB,gZ];refine Eq.trans (dK (λl=>Tryz.prog.built 137 l) ?_) Hbv.out;rfl) ?_));obtain⟨B,hB⟩:∃B,B=w.heap.size:=⟨_,rfl⟩
 have hV1:og (w.alloc (.cells cv 137)) B D C (Gf secret):=⟨by rw[hB,<-Hcv.out];exact aG w _,ZO _⟩
 have K1:Keep nM w (w.alloc (.cells cv 137)):=(ah _ _).alloc _;obtain⟨w1,hw1⟩:∃w1,w1=w.alloc (.cells cv 137):=⟨_,rfl⟩
 rw[<-hw1]at hV1 K1⊢;rw[<-hB];have HB:=ag hB;clear hw1 hB;refine(get_any (Hc.out.keep K1 (λx=>x))).mono ?_;rintro e w2 ⟨rfl,hw⟩;subst hw;have hn1:IntKind.i64.wrap ((n:Int)+1)=((n+1:Nat):Int):=by rw[aW _ (by omega)];omega
 have hn2:(n:Int)+1=((n+1:Nat):Int):=by omega
 have WG:=G7 hV1 (Hd.out.keep K1 (λ_ _ x=>x)) (λi hi=>by have:=Hb.out i hi;omega) (by show secret.size<=1000;have:=Hs.out;omega) (n+1) (HR.out.keep K1 (λx=>x));obtain⟨ok,hok⟩:∃b,b=xP (Gf secret).secret d.now ((n+1:Nat):Int):=⟨_,rfl⟩
 obtain⟨x1,hx1⟩:∃b,b=wH (Gf secret).secret d.now ((n+1:Nat):Int):=⟨_,rfl⟩
 have hxs:x1.sides.length=32:=by rw[hx1];exact Hu _ _ _
 rw[<-hok,<-hx1,<-hn2]at WG;obtain⟨c1,hc1⟩:∃c,c=(oq x1).toArray:=⟨_,rfl⟩
 have hsv:ry x1= .agg c1:=by rw[hc1];rfl
 have hcl:c1.size=35:=by rw[hc1,bT,rG x1 hxs]
 have hone:c1.all (·.oneCell')=true:=by rw[hc1];exact qY _
 rw[hsv]at WG;have hin:=yN;have hzl:=Cf;obtain⟨cz,hcz⟩:∃cz,cz=(oq qX).toArray:=⟨_,rfl⟩
 have hsz:ry qX= .agg cz:=by rw[hcz];rfl
 rw[hsz]at hin;rw[<-hcz]at hzl;have h35:(Tryz.prog.info? 134).map (·.size)=some c1.size:=by rw[hcl];exact qF
 have Qw:=ag hin;have JG:=ag h35;have Hsv:=ag hsv;have zdu:=ag hone;have Hzl:=ag hzl;have znf:=ag WG;have Hok:=ag hok;have Hx1:=ag hx1;clear hn1 hn2 WG hok hx1 hc1 hsv hin hcz hsz h35 hone hzl;go_wp2_with fail;refine znf.out.mono ?_;rintro e w3 ⟨rfl,K3⟩;go_upto_region 6 with(first|(refine oP rfl 134 rfl Qw.out ?_;refine o8 (λw5=>w5.heap[w3.heap.size]? =some (.cells cz 134 (0,0))∧Keep nM w3 w5) ⟨aG w3 _,(ah nM w3).alloc _⟩ ?_;rintro w5 ⟨Ye,K5⟩)|(refine oH rfl 134 (.tmp 10) (.tmp 40) rfl w3.heap.size 134 cz c1 rfl rfl Ye JG.out 35 Hzl.out hcl zdu.out ?_;refine o8 (λw6=>w6.heap[w3.heap.size]? =some (.cells c1 134 (0,0))∧Keep nM w3 w6) ⟨oO (c':=c1) Ye,K5.setRow (g:=w3.heap.size) (.inr (aF _)) c1⟩ ?_;clear Ye K5;rintro w6 ⟨Uf,K6⟩))
 have K36:=K3.nK K6;have hV6:=hV1.keep K36 (λx=>x);have K06:=K1.nK K36
 go_cut [47] (λbv wx=>zjs w wx B D C secret d.now n bv)
 case first=>
  cases ok with
  | true=>
   have hld:=IY hV6 (Hd.out.keep K06 (λ_ _ x=>x)) Hb.out (by show secret.size<=1000;have:=Hs.out;omega) x1 hxs (HR.out.keep K06 (λx=>x));rw[Hsv.out]at hld;have Hld:=ag hld;clear hld;go_wp2_with (first|(refine xm (by rfl) 134 (.tmp 10) rfl w3.heap.size rfl 134 c1 (0,0) _ Uf Tryz.underlying134 rfl JG.out ?_));refine Hld.out.mono ?_;rintro e w7 ⟨hsd,K7⟩;have hsd2:LoadSaid w7 B D C (Gf secret) (Ap secret d.now x1) x1 e:=hsd;have K07:Keep nM w w7:=K06.trans K7 (λi hi hs=>by have h1:i=B:=hs;have h2:=HB.out;omega);have hva:=Jm secret d.now ((n+1:Nat):Int);rw[aP (show xP secret d.now ((n+1:Nat):Int)=true from Hok.out.symm),show wH secret d.now ((n+1:Nat):Int)=x1 from Hx1.out.symm]at hva;cases hl:Ap secret d.now x1 with
   | some p=>
    rw[hl]at hsd2 hva;obtain⟨rfl,hV7⟩:=hsd2;have Hva:=ag hva;clear hl hsd hva;go_wp2_with fail;go_meet
    case rel=>exact⟨true,_,rfl,hV7,K07,λ_=>Hva.out,λh=>by cases h⟩
   | none=>
    rw[hl]at hsd2 hva;obtain⟨rfl,t,m,hV7⟩:=hsd2;have Hva:=ag hva;clear hl hsd hva;go_wp2_with fail;go_meet
    case rel=>exact⟨false,_,rfl,hV7,K07,(λh=>by cases h),λ_=>⟨Hva.out,t,m,rfl⟩⟩
  | false=>
   go_wp2_with fail;go_meet
   case rel=>
    refine⟨false,_,rfl,hV6,K06,(λh=>by cases h),λ_=>⟨?_,_,_,rfl⟩⟩;rw[Jm,aB];intro h2;rw[show xP secret d.now ((n+1:Nat):Int)=false from Hok.out.symm]at h2;cases h2
 case rest=>
  obtain⟨b,V',rfl,hV,K9,ht,hf⟩:=hcut;clear hV6 K36 K06 Uf K6 K3 znf;cases b with
  | true=>
   have hva:=ht rfl;have hop:yS secret d.now n=some (V',((n:Int)+1)):=by unfold yS;rw[show(n:Int)+1=((n+1:Nat):Int)by omega,hva]
   have Hop:=ag hop;have hra:=VD (Hc.out.keep K9 (λx=>x)) ((n:Int)+1) (by omega);have Hra:=ag hra;clear ht hf hva hop hra;go_wp2_with fail;refine Hra.out.mono ?_;rintro e w5 ⟨rfl,hC5,K5⟩;go_wp2_with fail
   go_ret2
   refine⟨?_,K9.vN.then K5⟩;rw[Hop.out];exact⟨B,rfl,by have:=HB.out;omega,hV.keep K5 (λe=>by have h1:B=C:=e;have h2:=HB.out;omega),hC5⟩
  | false=>
   obtain⟨hva,t,m,rfl⟩:=hf rfl;have Hva:=ag hva;clear ht hf hva;by_cases hn0:n=0
   ·have jn:((n:Int)==0)=true:=by rw[hn0];rfl
    have hop:yS secret d.now n=some (uU secret,(n:Int)):=by unfold yS;rw[show(n:Int)+1=((n+1:Nat):Int)by omega,Hva.out,aP (by omega),hn0];rfl
    have Hop:=ag hop;have hcount:∀W,Keep nM w W->oL W C n:=λW K=>Hc.out.keep K (λx=>x);have zlS:=ag hcount;have HVc:=ag hV;have zjP:=hV.lens;have zj0:=ag zjP;clear hop hcount hV zjP hn0;go_wp2_with fail
    go_loopw [55] (λiv wr=>∃k:Nat,iv= .int .i64 k∧k<=32∧Hid (og wr B D C (yJ (QO secret t m) (tZ k)))∧Keep nM w wr) (λiv _=>32-(intOf iv).toNat)
    case atStart=>exact⟨0,rfl,by omega,ag HVc.out,K9⟩
    case round=>
     obtain⟨k,rfl,hk,hVr,K⟩:=hrel;obtain⟨wo,rfl⟩:∃wo,wo=wr:=⟨_,rfl⟩
     by_cases hlt32:k<32
     ·have j1:(k:Int)<32:=by omega
      obtain⟨m0,hm0⟩:∃m,m=uy k 0 ⟨#[]⟩:=⟨_,rfl⟩
      have hmk:∀W,Keep nM wo W->ae 93 #[.int .i64 k,.int .i64 0,.string ⟨#[]⟩] W λe w'=>e= .returned (.string m0)∧Keep nM W w':=by intro W KW;rw[hm0];exact BK k 0 ⟨#[]⟩ (by decide) W (HR.out.keep (K.nK KW) (λx=>x))
      have Hmk:=ag hmk;have HM0:=ag hm0;clear hmk hm0;go_wp2_with fail;refine nO (λ_=>True) [(true,0),(true,1),(true,2),(true,3),(true,4),(true,6),(true,7),(true,10),(true,11),(false,5),(true,8),(false,9),(true,12),(false,13)] (by kernel_rfl) (by kernel_rfl) (λc a d v w h=>by cases d<;>exact h) ?_;simp only[oQ,nR,aj,ak,au]
      repeat(refine nJ (λK hK=> ?_);go_simp;first|(refine⟨_,λ_=>rfl,hK _ ?_⟩;clear hK K;refine nH ?_)|(refine hK _ ?_;clear hK K;refine nH ?_))
      refine⟨trivial,?_⟩;go_wp2_with fail;refine(Hmk.out _ ((ah nM wo).drew)).mono ?_;rintro e w5 ⟨rfl,K5⟩;have K45:Keep nM wo w5:=(ah nM wo).drew.nK K5;have hV5:=hVr.out.keep K45 (λx=>x);have ct:=hV5.text k hlt32;have ft:=hV5.free (38+k);clear K5;go_wp2_with fail
      repeat(refine nJ (λK hK=> ?_);go_simp;first|(refine⟨_,λ_=>rfl,hK _ ?_⟩;clear hK K;refine nH ?_)|(refine hK _ ?_;clear hK K;refine nH ?_))
      refine⟨trivial,?_⟩;go_wp2_with fail;have hV6:=hV5.vX k hlt32 ⟨#[]⟩;have K6:Keep (nY B) wo (w5.setCell ⟨B,38+k,none⟩ (.string ⟨#[]⟩)):=(K45.vN (S:=nY B)).set1 (38+k) _;obtain⟨w6,hw6⟩:∃w6,w6=w5.setCell ⟨B,38+k,none⟩ (.string ⟨#[]⟩):=⟨_,rfl⟩
      rw[<-hw6]at hV6 K6⊢;have cm:=hV6.mark k hlt32;have fm:=hV6.free (70+k);clear hw6 ct ft hV5 K45
      repeat(refine nJ (λK hK=> ?_);go_simp;first|(refine⟨_,λ_=>rfl,hK _ ?_⟩;clear hK K;refine nH ?_)|(refine hK _ ?_;clear hK K;refine nH ?_))
      refine⟨trivial,?_⟩;go_wp2_with fail;have hV7:=hV6.wY k hlt32 m0;have K7:Keep (nY B) wo (w6.setCell ⟨B,70+k,none⟩ (.string m0)):=K6.set1 (70+k) _;refine⟨⟨k+1,by go_num,by omega,ag ?_,K.trans K7 (λi hi hs=>by have h1:i=B:=hs;have h2:=HB.out;omega)⟩,by simp[intOf];omega⟩;have h:=LX zj0.out (l:=tZ k) (by rw[CX];exact hlt32) (⟨#[]⟩,m0);rw[CX,HM0.out,<-Qb]at h;rw[<-h,<-HM0.out];exact hV7
     ·obtain rfl:k=32:=by omega
      have hVf:=hVr.out;rw[zew secret t m zj0.out]at hVf;have HVf:=ag hVf;clear hVf hVr;go_wp2_with fail
      go_ret2
      refine⟨?_,K.vN⟩;rw[Hop.out];exact⟨B,rfl,by have:=HB.out;omega,HVf.out,zlS.out _ K⟩
   ·have jn:((n:Int)==0)=false:=by simp;omega
    have WG:=G7 hV (Hd.out.keep K9 (λ_ _ x=>x)) (λi hi=>by have:=Hb.out i hi;omega) (by show secret.size<=1000;have:=Hs.out;omega) n (HR.out.keep K9 (λx=>x));obtain⟨ok2,hok2⟩:∃b,b=xP (QO secret t m).secret d.now (n:Int):=⟨_,rfl⟩
    obtain⟨x2,hx2⟩:∃b,b=wH (QO secret t m).secret d.now (n:Int):=⟨_,rfl⟩
    have zl5:x2.sides.length=32:=by rw[hx2];exact Hu _ _ _
    rw[<-hok2,<-hx2]at WG;obtain⟨c2,hc2⟩:∃c,c=(oq x2).toArray:=⟨_,rfl⟩
    have hsv:ry x2= .agg c2:=by rw[hc2];rfl
    have zdn:c2.size=35:=by rw[hc2,bT,rG x2 zl5]
    have hone:c2.all (·.oneCell')=true:=by rw[hc2];exact qY _
    rw[hsv]at WG;have h35:(Tryz.prog.info? 134).map (·.size)=some c2.size:=by rw[zdn];exact qF
    have hno:vW secret d.now n=none->yS secret d.now n=none:=λh=>by unfold yS;rw[show(n:Int)+1=((n+1:Nat):Int)by omega,Hva.out,aB (by omega),h];rfl
    have hyes:∀v,vW secret d.now n=some v->yS secret d.now n=some (v,(n:Int)):=λv h=>by unfold yS;rw[show(n:Int)+1=((n+1:Nat):Int)by omega,Hva.out,aB (by omega),h];rfl
    have Hno:=ag hno;have zpq:=ag hyes;have znA:=ag h35;have zpv:=ag hsv;have zok:=ag hone;have zoc:=ag WG;have znj:=ag hok2;have Hx2:=ag hx2;clear hno hyes WG hok2 hx2 hc2 hsv h35 hone hn0;go_wp2_with fail;refine zoc.out.mono ?_;rintro e w4 ⟨rfl,K4⟩;go_upto_region 16 with(first|(refine oP rfl 134 rfl Qw.out ?_;refine o8 (λw5=>w5.heap[w4.heap.size]? =some (.cells cz 134 (0,0))∧Keep nM w4 w5) ⟨aG w4 _,(ah nM w4).alloc _⟩ ?_;rintro w5 ⟨Ye,K5⟩)|(refine oH rfl 134 (.tmp 13) (.tmp 76) rfl w4.heap.size 134 cz c2 rfl rfl Ye znA.out 35 Hzl.out zdn zok.out ?_;refine o8 (λw6=>w6.heap[w4.heap.size]? =some (.cells c2 134 (0,0))∧Keep nM w4 w6) ⟨oO (c':=c2) Ye,K5.setRow (g:=w4.heap.size) (.inr (aF _)) c2⟩ ?_;clear Ye K5;rintro w6 ⟨Uf,K6⟩))
    have K46:=K4.nK K6;have hV6:=hV.keep K46 (λx=>x);have K06:=K9.nK K46;have hva:=Jm secret d.now (n:Int);cases ok2 with
    | true=>
     rw[aP (show xP secret d.now (n:Int)=true from znj.out.symm),show wH secret d.now (n:Int)=x2 from Hx2.out.symm]at hva;have hld:=IY hV6 (Hd.out.keep K06 (λ_ _ x=>x)) Hb.out (by show secret.size<=1000;have:=Hs.out;omega) x2 zl5 (HR.out.keep K06 (λx=>x));rw[zpv.out]at hld;have Hld:=ag hld;have zps:=ag hva;clear hld hva;go_wp2_with (first|(refine xm (by rfl) 134 (.tmp 13) rfl w4.heap.size rfl 134 c2 (0,0) _ Uf Tryz.underlying134 rfl znA.out ?_));refine Hld.out.mono ?_;rintro e w7 ⟨hsd,K7⟩;have hsd2:LoadSaid w7 B D C (QO secret t m) (Ap secret d.now x2) x2 e:=hsd;have K07:Keep nM w w7:=K06.trans K7 (λi hi hs=>by have h1:i=B:=hs;have h2:=HB.out;omega);have hva:=zps.out;cases hl:Ap secret d.now x2 with
     | some p=>
      rw[hl]at hsd2 hva;obtain⟨rfl,hV7⟩:=hsd2;have hop:=zpq.out _ hva;have Hop:=ag hop;clear hl hsd hva hop;go_wp2_with fail
      go_ret2
      refine⟨?_,K07.vN⟩;rw[Hop.out];exact⟨B,rfl,by have:=HB.out;omega,hV7,Hc.out.keep K07 (λx=>x)⟩
     | none=>
      rw[hl]at hsd2 hva;obtain⟨rfl,t2,m2,hV7⟩:=hsd2;have hop:=Hno.out hva;have Hop:=ag hop;clear hl hsd hva hop;go_wp2_with fail
      go_ret2
      refine⟨?_,K07.vN⟩;rw[Hop.out];exact⟨rfl,Hc.out.keep K07 (λx=>x)⟩
    | false=>
     rw[aB (by intro h2;rw[show xP secret d.now (n:Int)=false from znj.out.symm]at h2;cases h2)]at hva;have hop:=Hno.out hva;have Hop:=ag hop;clear hva hop;go_wp2_with fail
     go_ret2
     refine⟨?_,K06.vN⟩;rw[Hop.out];exact⟨rfl,Hc.out.keep K06 (λx=>x)⟩
theorem Oc{key:af}{pg:Int}{W:List (Nat×af)}{st0 st:xA}{k:Nat}{p:Nat×af}(h:rJ key pg (W.take k) st0=(st,true))(hp:W[k]? =some p)(hf:st.dev.oD≠0):rJ key pg (W.take (k+1)) st0=(uA key pg st p,true):=by have hk:=aN.1 hp;rw[aT hk.1,hk.2,Dy,h,aP rfl,rJ,aB hf];rfl
theorem ZI{key:af}{pg:Int}{W:List (Nat×af)}{st0 st:xA}{k:Nat}{p:Nat×af}(h:rJ key pg (W.take k) st0=(st,true))(hp:W[k]? =some p)(hf:st.dev.oD=0):rJ key pg W st0=(st,false):=by
 have hk:=aN.1 hp;have e:W=W.take k++p::W.drop (k+1):=by rw[<-hk.2,<-gY hk.1,iy]
 rw[e,Dy,h,aP rfl,rJ,aP hf]
theorem OB{key:af}{pg:Int} :∀(W:List (Nat×af)) (st:xA),(rJ key pg W st).1.dev.wait.length<=st.dev.wait.length+W.length
 | [],st=>aF _
 | p::W,st=>by
  rw[rJ];split
  ·simp
  ·have h:=OB (key:=key) (pg:=pg) W (uA key pg st p);have e:(uA key pg st p).dev.wait.length=st.dev.wait.length+1:=by simp[uA,pG.put]
   rw[e]at h;simp only[aK];omega
theorem G9{key:af}{pg:Int} :∀(W:List (Nat×af)) (st:xA),(∀m∈st.marks,m.size=16)->∀m∈(rJ key pg W st).1.marks,m.size=16
 | [],st,h=>h
 | p::W,st,h=>by
  rw[rJ];split
  ·exact h
  ·refine G9 (key:=key) (pg:=pg) W _ λm hm=> ?_;simp only[uA]at hm;rcases iT hm with hm|rfl
   ·exact h m hm
   ·exact xI _ _ _
theorem OC{secret:af}{x0:rC}{marks:List af}{d:pG}{W:List (Nat×af)}{st:xA}(h:rJ (Ba secret x0.nP) x0.count W ⟨x0.sides,marks,d⟩=(st,false)):qR secret x0 marks d W=⟨14,⟨x0.count,x0.nP,st.sides,rV st.marks⟩,st.marks,st.dev⟩:=by unfold qR;simp only[h];rfl
section
variable {secret:af}{x0:rC}{marks:List af}{d:pG}{W:List (Nat×af)}{st:xA}(h:rJ (Ba secret x0.nP) x0.count W ⟨x0.sides,marks,d⟩=(st,true))
include h
theorem YW(h1:st.dev.oD=0):qR secret x0 marks d W=⟨14,⟨x0.count,x0.nP,st.sides,rV st.marks⟩,st.marks,st.dev⟩:=by unfold qR;simp only[h];rw[aB (by decide),aP h1]
theorem zgy(h1:st.dev.oD≠0)(h2:qL (rH secret) ⟨x0.count,x0.nP,st.sides,rV st.marks⟩=false):qR secret x0 marks d W=⟨1,⟨x0.count,x0.nP,st.sides,rV st.marks⟩,st.marks,st.dev.sync⟩:=by unfold qR;simp only[h];rw[aB (by decide),aB h1,aP h2]
theorem YV(h1:st.dev.oD≠0)(h2:qL (rH secret) ⟨x0.count,x0.nP,st.sides,rV st.marks⟩=true)(h3:st.dev.sync.oD=0):qR secret x0 marks d W=⟨14,⟨x0.count,x0.nP,st.sides,rV st.marks⟩,st.marks,st.dev.sync⟩:=by unfold qR;simp only[h];rw[aB (by decide),aB h1,aB (by rw[h2];decide),aP h3]
theorem YU(h1:st.dev.oD≠0)(h2:qL (rH secret) ⟨x0.count,x0.nP,st.sides,rV st.marks⟩=true)(h3:st.dev.sync.oD≠0)(h4:(st.dev.sync.put (x0.count % 2).toNat (zC (rH secret) ⟨x0.count,x0.nP,st.sides,rV st.marks⟩)).oD=0):
  qR secret x0 marks d W=⟨14,⟨x0.count,x0.nP,st.sides,rV st.marks⟩,st.marks,st.dev.sync.put (x0.count % 2).toNat (zC (rH secret) ⟨x0.count,x0.nP,st.sides,rV st.marks⟩)⟩:=by
 unfold qR;simp only[h];rw[aB (by decide),aB h1,aB (by rw[h2];decide),aB h3,aP h4]
theorem YT(h1:st.dev.oD≠0)(h2:qL (rH secret) ⟨x0.count,x0.nP,st.sides,rV st.marks⟩=true)(h3:st.dev.sync.oD≠0)(h4:(st.dev.sync.put (x0.count % 2).toNat (zC (rH secret) ⟨x0.count,x0.nP,st.sides,rV st.marks⟩)).oD≠0):
  qR secret x0 marks d W=⟨0,⟨x0.count,x0.nP,st.sides,rV st.marks⟩,st.marks,(st.dev.sync.put (x0.count % 2).toNat (zC (rH secret) ⟨x0.count,x0.nP,st.sides,rV st.marks⟩)).sync⟩:=by
 unfold qR;simp only[h];rw[aB (by decide),aB h1,aB (by rw[h2];decide),aB h3,aB h4]
end
theorem Jt(w:World)(wv:Value):zL w wv wv:= .inl rfl
theorem Dl{w w1:World}{a b c:Value}(h:zL w a b)(k:zL w1 b c)(hs:w.heap.size<=w1.heap.size):zL w a c:=by
 rcases k with k|k
 ·rcases h with h|h
  ·exact .inl (k.trans h)
  ·exact .inr λx hx=>h x (k▸hx)
 ·exact .inr λx hx=>bH hs (k x hx)
theorem yw{w:World}{D S:Nat}{wv wv':Value}(h:zL w wv wv'):∀i,i<w.heap.size->qg D S wv' i->qg D S wv i:=by
 rintro i hi (hb|hb|hb)
 ·exact .inl hb
 ·exact .inr (.inl hb)
 ·rcases h with h|h
  ·exact .inr (.inr (h▸hb))
  ·have:=h i hb;omega
section
variable {w:World}{D S:Nat}{wv:Value}{d:pG}
theorem Mc(h:qi w D S wv d)(k:Nat)(s:af)(hk:k<66)(hs:s.size<=256)(hf:d.oD≠0)(hw:d.wait.length<1000000):
  ae 198 #[.pointer (some ⟨D,0,none⟩),.int .i64 k,.string s] w λe w'=>e= .returned .nilIface∧(∃wv',qi w' D S wv' (d.put k s)∧zL w wv wv')∧Keep (qg D S wv) w w':=
 (zgn h k s hk hs hf hw).mono λ_ _ ⟨he,⟨wv',hd,hm⟩,hK⟩=>⟨he,⟨wv',hd,hm⟩,hK⟩
theorem Px(h:qi w D S wv d)(k:Nat)(s:af)(hk:k<66)(hs:s.size<=256)(hf:d.oD=0):
  ae 198 #[.pointer (some ⟨D,0,none⟩),.int .i64 k,.string s] w λe w'=>e= .returned (.iface 51 (.int .i64 14))∧qi w' D S wv d∧Keep (qg D S wv) w w':=by
 have h':qm w D S wv d.sure d.wait 0:=by have:=h;rw[qi,hf]at this;exact this
 refine(ZC h' k s hk hs).mono λ_ _ ⟨he,hd,hK⟩=>⟨he,?_,hK.mono λi _ hi=> .inl hi⟩
 rw[qi,hf];exact hd
theorem Py(h:qi w D S wv d)(hf:d.oD≠0):
  ae 199 #[.pointer (some ⟨D,0,none⟩)] w λe w'=>e= .returned .nilIface∧qi w' D S (.slice none 0 0) d.sync∧Keep (qg D S wv) w w':=ziH h hf
theorem TB(h:qi w D S wv d)(hf:d.oD=0):
  ae 199 #[.pointer (some ⟨D,0,none⟩)] w λe w'=>e= .returned (.iface 51 (.int .i64 14))∧qi w' D S wv d∧Keep (qg D S wv) w w':=by
 have h':qm w D S wv d.sure d.wait 0:=by have:=h;rw[qi,hf]at this;exact this
 refine(zbl h').mono λ_ _ ⟨he,hd,hK⟩=>⟨he,?_,hK.mono λi _ hi=> .inl hi⟩
 rw[qi,hf];exact hd
end
def qV(w:World)(X:Nat)(x:rC):Prop:=w.heap[X]? =some (.cells (oq x).toArray 134 (0,0))∧x.sides.length=32
def vw(w:World)(K:Nat)(l:List af):Prop:=w.heap[K]? =some (.cells (l.map Value.string).toArray 135 (0,0))∧l.length=32
section
variable {w w':World}{X K:Nat}{x:rC}{l:List af}
theorem qV.keep(h:qV w X x){S:Nat->Prop}(hk:Keep S w w')(hn:¬S X):qV w' X x:=⟨hk.heap h.1 hn,h.2⟩
theorem vw.keep(h:vw w K l){S:Nat->Prop}(hk:Keep S w w')(hn:¬S K):vw w' K l:=⟨hk.heap h.1 hn,h.2⟩
theorem qV.count(h:qV w X x):w.cell? ⟨X,0,none⟩=some (.int .i64 x.count):=by rw[aO _ _ _ _ _ (0,0) h.1];rfl
theorem qV.side(h:qV w X x)(i:Nat)(hi:i<32):w.cell? ⟨X,2+i,none⟩=some (.bool (x.sides.getD i false)):=by rw[aO _ _ _ _ _ (0,0) h.1];exact Dz x i (by rw[h.2];exact hi)
theorem qV.root(h:qV w X x):w.cell? ⟨X,34,none⟩=some (.string x.root):=by rw[aO _ _ _ _ _ (0,0) h.1,oq,aj,cu (by simp[h.2]),ay,aI,h.2];rfl
theorem qV.free(h:qV w X x)(i:Nat):w.frozen? ⟨X,i,none⟩=false:=dZ h.1 i
theorem qV.ziJ(h:qV w X x)(i:Nat)(hi:i<32)(b:Bool):qV (w.setCell ⟨X,2+i,none⟩ (.bool b)) X { x with sides:=x.sides.set i b } :=by refine⟨?_,by simp[h.2]⟩;rw[oM h.1];obtain⟨c,e,sd,r⟩:=x;rw[Lr c e sd r i b (by have:=h.2;simp only at this;omega)]
theorem qV.ziK(h:qV w X x)(s:af):qV (w.setCell ⟨X,34,none⟩ (.string s)) X { x with root:=s } :=by refine⟨?_,h.2⟩;rw[oM h.1,fA,oq,iw _ _ (by simp[h.2]),ay,aI,h.2];rfl
theorem vw.cell(h:vw w K l)(i:Nat)(hi:i<32):w.cell? ⟨K,i,none⟩=some (.string (l.getD i ⟨#[]⟩)):=by rw[aO _ _ _ _ _ (0,0) h.1,aj,bC,aC (by rw[h.2];exact hi)];simp[ax,h.2,hi]
theorem vw.free(h:vw w K l)(i:Nat):w.frozen? ⟨K,i,none⟩=false:=dZ h.1 i
theorem vw.set(h:vw w K l)(i:Nat)(s:af):vw (w.setCell ⟨K,i,none⟩ (.string s)) K (l.set i s):=by refine⟨?_,by simp[h.2]⟩;rw[oM h.1,fA,kL]
theorem vw.strs(h:vw w K l):Strs w (.slice (some ⟨K,0,none⟩) 32 32) l:= .inr ⟨K,0,32,by rw[h.2],lt_of_heap h.1,λi hi=>by rw[dM];exact h.cell i (by rw[<-h.2];exact hi)⟩
end
def wG(D S:Nat)(wv:Value)(X K:Nat):Nat->Prop:=λb=>qg D S wv b∨b=X∨b=K
structure Qr(w:World)(B D C S:Nat)(V:nT)(wv:Value)(I VB EB X MB:Nat)(mo:Option Nat)(K:Nat)(o:Obj)(W:List (Nat×af))(x:rC):Prop where
 yX:og w B D C V
 ids:∃p c,w.cell? ⟨I,0,none⟩=some (.slice p W.length c)∧Nums w (.slice p W.length c) (W.map λp=>(p.1:Int))∧(∀b,(Value.slice p W.length c).ownBlock=some b->¬wG D S wv X K b)
 v:w.cell? ⟨VB,0,none⟩=some (.pointer (some ⟨B,0,none⟩))
 nP:w.cell? ⟨EB,0,none⟩=some (.int .i64 x.nP)
 map:w.cell? ⟨MB,0,none⟩=some (.map mo)
 obj:HasMap mo o w
 look:∀w':World,HasMap mo o w'->∀p∈W,(Instr.lookup 169 (.map mo) (.int .i64 (p.1:Int)) false).run Tryz.prog w'= .ok (.string p.2) w'
 apart:∀b,b=B∨b=I∨b=VB∨b=EB∨b=MB∨mo=some b->¬wG D S wv X K b
 zif:∀b,qg D S wv b->b≠X∧b≠K
 xk:X≠K
 small:∀p∈W,p.1<32∧p.2.size<=200
def Qs(B VB X:Nat)(sec:af)(cx:Array Value)(w:World):Prop:=w.cell? ⟨VB,0,none⟩=some (.pointer (some ⟨B,0,none⟩))∧w.cell? ⟨B,2,none⟩=some (.string sec)∧w.heap[X]? =some (.cells cx 134 (0,0))
def JZ(B D VB X:Nat)(pg:Int)(w:World):Prop:=w.cell? ⟨VB,0,none⟩=some (.pointer (some ⟨B,0,none⟩))∧w.cell? ⟨B,0,none⟩=some (.pointer (some ⟨D,0,none⟩))∧w.cell? ⟨X,0,none⟩=some (.int .i64 pg)
def Nq(B D VB X id:Nat)(b:Bool)(w:World):Prop:=w.cell? ⟨VB,0,none⟩=some (.pointer (some ⟨B,0,none⟩))∧w.cell? ⟨B,0,none⟩=some (.pointer (some ⟨D,0,none⟩))∧w.cell? ⟨X,2+id,none⟩=some (.bool b)
def zfj(w w':World)(D S:Nat)(wv:Value)(X K:Nat)(t:Va)(e:Ending):Prop:=
 e= .returned (errVal t.err)∧(∃wv',qi w' D S wv' t.dev∧zL w wv wv')∧(t.err=0->qV w' X t.x∧vw w' K t.marks)
def Bz(B D VB EB X MB:Nat)(mo:Option Nat)(sec:af)(ep pg:Int)(o:Obj)(w:World):Prop:=
 w.cell? ⟨VB,0,none⟩=some (.pointer (some ⟨B,0,none⟩))∧w.cell? ⟨B,0,none⟩=some (.pointer (some ⟨D,0,none⟩))∧w.cell? ⟨B,2,none⟩=some (.string sec)∧w.cell? ⟨EB,0,none⟩=some (.int .i64 ep)∧w.cell? ⟨X,0,none⟩=some (.int .i64 pg)∧w.cell? ⟨MB,0,none⟩=some (.map mo)∧HasMap mo o w
theorem Qr.cls{w w':World}{B D C S:Nat}{V:nT}{wv:Value}{I VB EB X MB:Nat}{mo:Option Nat}{K:Nat}{o:Obj}{W:List (Nat×af)}{x y:rC}(h:Qr w B D C S V wv I VB EB X MB mo K o W x)(hk:Keep (wG D S wv X K) w w')(hx:qV w' X y):Bz B D VB EB X MB mo V.secret x.nP y.count o w':=by have cl:∀(b i:Nat) (v:Value),(b=B∨b=I∨b=VB∨b=EB∨b=MB∨mo=some b)->w.cell? ⟨b,i,none⟩=some v->w'.cell? ⟨b,i,none⟩=some v:=λb i v hb hv=>(hk.cell (p:=⟨b,i,none⟩) (dX hv) (h.apart b hb)).trans hv;exact⟨cl _ _ _ (by simp) h.v,cl _ _ _ (by simp) h.yX.dev,cl _ _ _ (by simp) h.yX.secret,cl _ _ _ (by simp) h.nP,hx.count,cl _ _ _ (by simp) h.map,h.obj.keep hk (λb hb=>h.apart b (by simp[hb]))⟩
theorem zdK{w:World}{B D C S:Nat}{V:nT}{wv:Value}{I VB EB X MB:Nat}{mo:Option Nat}{K:Nat}{o:Obj}{W:List (Nat×af)}{x:rC}{ms:List af}{d:pG}(h:Qr w B D C S V wv I VB EB X MB mo K o W x)(hd:qi w D S wv d)(hx:qV w X x)(hm:vw w K ms)(hms:∀m∈ms,m.size=16)
  (hw:d.wait.length+W.length<900000) (hs:V.secret.size<=1000) (hv1:1<=x.count) (hv2:x.count<=1099511627776) (hWl:W.length<=1000) (R:oG w) (hR:¬wG D S wv X K 0):
  ae 196 #[.pointer (some ⟨I,0,none⟩),.pointer (some ⟨VB,0,none⟩),.pointer (some ⟨EB,0,none⟩),.pointer (some ⟨X,0,none⟩),.pointer (some ⟨MB,0,none⟩),.pointer (some ⟨K,0,none⟩)] w λe w'=>zfj w w' D S wv X K (qR V.secret x ms d W) e∧Keep (wG D S wv X K) w w':=by
 obtain⟨pi,ci,hci,zkL,zkM⟩:=h.ids;obtain⟨n,hn⟩:∃n,n=W.length:=⟨_,rfl⟩
 rw[<-hn]at hci zkL zkM hw hWl;obtain⟨pg,Ur⟩:∃v,v=x.count:=⟨_,rfl⟩
 obtain⟨ep,hep⟩:∃v,v=x.nP:=⟨_,rfl⟩
 obtain⟨sec,zF⟩:∃v,v=V.secret:=⟨_,rfl⟩
 obtain⟨key,hkey⟩:∃k,k=Ba sec ep:=⟨_,rfl⟩
 have hks:key.size=32:=by rw[hkey];exact VX _ _
 have hka:∀W',Keep (wG D S wv X K) w W'->ae 131 #[.string sec,.int .i64 ep] W' λe w'=>e= .returned (.string key)∧Keep nM W' w':=by intro W' KW;rw[hkey];exact zcZ sec ep (by rw[zF];exact hs) W' (R.keep KW hR)
 have Hka:=ag hka;have Hn:=ag hn;have PZ:=ag Ur;have Hep:=ag hep;have QF:=ag zF;have zfy:=ag hkey;have HE:=ag h;have Hd:=ag hd;have Hx:=ag hx;have Hm:=ag hm;have Hms:=ag hms;have HRw:=ag R;have HRn:=ag hR;have zpO:=ag zkL;have zpP:=ag zkM;have Hs:=ag hs;have znP:1<=pg:=by rw[Ur];exact hv1
 have znO:pg<=1099511627776:=by rw[Ur];exact hv2
 clear hka hn Ur hep zF hkey h hd hx hm hms R hR zkL zkM hs hv1 hv2;go_enter Tryz.func196,Tryz.ntmps196;go_wp2_with fail
 go_loopw [19] (λiv wr=>∃(k:Nat) (st:xA) (wvr:Value),iv= .int .i64 k∧k<=n∧Hid (rJ key pg (W.take k) ⟨x.sides,ms,d⟩=(st,true))∧Hid (qi wr D S wvr st.dev)∧Hid (zL w wv wvr)∧Hid (qV wr X ⟨x.count,x.nP,st.sides,x.root⟩)∧Hid (vw wr K st.marks)∧Keep (wG D S wv X K) w wr) (λiv _=>n-(intOf iv).toNat)
 case atStart=>exact⟨0,⟨x.sides,ms,d⟩,wv,rfl,by omega,ag rfl,ag Hd.out,ag (Jt _ _),ag Hx.out,ag Hm.out,ah _ _⟩
 case round=>
  obtain⟨k,st,wvr,rfl,hk,hst,hdr,hmv,hxr,hmr,KR⟩:=hrel;obtain⟨wo,rfl⟩:∃wo,wo=wr:=⟨_,rfl⟩
  by_cases hlt:k<n
  ·have j1:(k:Int)<n:=by omega
   obtain⟨p,hp⟩:∃p,W[k]? =some p:=⟨_,aC (by have:=Hn.out;omega)⟩
   obtain⟨id,s⟩:=p;have hsm:=HE.out.small _ (bg hp);have hN:=zpO.out;have hci2:wo.cell? ⟨I,0,none⟩=some (.slice pi n ci):=(KR.cell (p:=⟨I,0,none⟩) (dX hci) (HE.out.apart I (by simp))).trans hci;have hNr:=hN.keep KR zpP.out;obtain⟨bi,oi,hpi,-,hbi,zfv⟩:=hNr.at (by rw[aI];have:=Hn.out;omega);have zo4:wo.cell? ⟨bi,oi+k,none⟩=some (.int .i64 (id:Int)):=by rw[zfv k (by rw[aI];have:=Hn.out;omega),ax,bC,hp];rfl
   subst hpi;have Hp:=ag hp;have Hsm:=ag hsm;have JQ:id<32:=hsm.1;have jid:(id:Int)<32:=by omega
   clear zfv hp hsm hN hNr;have hcl:=HE.out.cls KR hxr.out;rw[<-QF.out,<-Hep.out]at hcl;rw[show(rC.mk x.count x.nP st.sides x.root).count=pg from PZ.out.symm]at hcl;have L1:Bz B D VB EB X MB mo sec ep pg o wo:=hcl;have hlk:=HE.out.look;have q1:∀y:rE (Bz B D VB EB X MB mo sec ep pg o),y.w.cell? ⟨VB,0,none⟩=some (.pointer (some ⟨B,0,none⟩)):=λy=>y.h.1;have q2:∀y:rE (Bz B D VB EB X MB mo sec ep pg o),y.w.cell? ⟨B,2,none⟩=some (.string sec):=λy=>y.h.2.2.1;have q3:∀y:rE (Bz B D VB EB X MB mo sec ep pg o),y.w.cell? ⟨EB,0,none⟩=some (.int .i64 ep):=λy=>y.h.2.2.2.1;have q4:∀y:rE (Bz B D VB EB X MB mo sec ep pg o),y.w.cell? ⟨X,0,none⟩=some (.int .i64 pg):=λy=>y.h.2.2.2.2.1;have q5:∀y:rE (Bz B D VB EB X MB mo sec ep pg o),y.w.cell? ⟨MB,0,none⟩=some (.map mo):=λy=>y.h.2.2.2.2.2.1;have q6:∀y:rE (Bz B D VB EB X MB mo sec ep pg o),(Instr.lookup 169 (.map mo) (.int .i64 (id:Int)) false).run Tryz.prog y.w= .ok (.string s) y.w:=λy=>hlk y.w y.h.2.2.2.2.2.2 (id,s) (bg Hp.out);have hcell:∀(W':World),Keep nM wo W'->Bz B D VB EB X MB mo sec ep pg o W':=λW' KW=>by have h2:=HE.out.cls (KR.nK KW) (hxr.out.keep KW (λx=>x));rw[<-QF.out,<-Hep.out]at h2;rw[show(rC.mk x.count x.nP st.sides x.root).count=pg from PZ.out.symm]at h2;exact h2
   have zcE:=ag hcell;obtain⟨T4,hT4⟩:∃t,t=Fp key id pg s:=⟨_,rfl⟩
   have zjD:∀W',Keep nM wo W'->ae 197 #[.string key,.int .i64 (id:Int),.int .i64 pg,.string s] W' λe w'=>e= .returned (.tuple #[.string T4,.nilIface])∧Keep nM W' w':=by intro W' KW;rw[hT4];exact ziN key id pg s hks (by omega) (by omega) znP znO Hsm.out.2 W' (HRw.out.keep (KR.nK KW) HRn.out)
   have hT4s:T4.size=237:=by rw[hT4];exact EP _ _ _ _ Hsm.out.2
   have zjX:=ag zjD;have HT4:=ag hT4;clear hcl hlk hcell zjD hT4;go_wp2_with fail;refine nO (Bz B D VB EB X MB mo sec ep pg o) [(true,0),(true,1),(true,2),(true,3),(true,4),(true,6),(true,7),(true,8),(true,9),(true,10),(true,11),(false,5),(false,12),(true,13),(true,14),(true,15),(true,16),(false,17)] (by kernel_rfl) (by kernel_rfl) (λc a d v w h=>by cases d<;>exact h) ?_;simp only[oQ,nR,aj,ak,au]
   repeat(refine nJ (λK hK=> ?_);go_simp;first|(refine⟨_,λ_=>rfl,hK _ ?_⟩;clear hK K;refine nH ?_)|(refine hK _ ?_;clear hK K;refine nH ?_))
   clear q1 q2 q3 q4 q5 q6;refine⟨L1,?_⟩;go_wp2_with fail;refine(Hka.out _ KR.drew).mono ?_;rintro e w2 ⟨rfl,K2⟩;have K02:Keep nM wo w2:=(ah nM wo).drew.nK K2;go_wp2_with fail;refine⟨zcE.out _ K02,?_⟩;go_wp2_with fail;refine(zjX.out _ K02).mono ?_;rintro e w3 ⟨rfl,K3⟩;have K03:=K02.nK K3;clear K2 K3 K02 L1;go_wp2_with fail
   repeat(refine nJ (λK hK=> ?_);go_simp;first|(refine⟨_,λ_=>rfl,hK _ ?_⟩;clear hK K;refine nH ?_)|(refine hK _ ?_;clear hK K;refine nH ?_))
   refine⟨zcE.out _ K03,?_⟩;go_wp2_with fail;obtain⟨sd,hsd⟩:∃b,b=st.sides.getD id false:=⟨_,rfl⟩
   have hXl:X<w.heap.size:=lt_of_heap Hx.out.1;have hKl:K<w.heap.size:=lt_of_heap Hm.out.1;have Yy:∀b,qg D S wvr b->b≠X∧b≠K:=λb hb=>by
    by_cases hlt:b<w.heap.size
    ·exact HE.out.zif b (yw hmv.out b hlt hb)
    ·exact⟨λe=>by omega,λe=>by omega⟩
   have DV:=ag Yy;clear Yy;have hd3:=hdr.out.keep K03 (λ_ _ x=>x);have hx3:=hxr.out.keep K03 (λx=>x);have hm3:=hmr.out.keep K03 (λx=>x);have KR3:=KR.nK K03;have L3:=zcE.out _ K03;have s3:w3.cell? ⟨X,2+id,none⟩=some (.bool sd):=by rw[hsd];exact hx3.side id JQ
   have q1:∀y:rE (Bz B D VB EB X MB mo sec ep pg o),y.w.cell? ⟨X,0,none⟩=some (.int .i64 pg):=λy=>y.h.2.2.2.2.1;have q2:∀y:rE (Bz B D VB EB X MB mo sec ep pg o),y.w.cell? ⟨MB,0,none⟩=some (.map mo):=λy=>y.h.2.2.2.2.2.1;have q3:∀y:rE (Bz B D VB EB X MB mo sec ep pg o),(Instr.lookup 169 (.map mo) (.int .i64 (id:Int)) false).run Tryz.prog y.w= .ok (.string s) y.w:=λy=>HE.out.look y.w y.h.2.2.2.2.2.2 (id,s) (bg Hp.out);have q4:∀y:rE (λW':World=>W'.cell? ⟨X,2+id,none⟩=some (.bool sd)),y.w.cell? ⟨X,2+id,none⟩=some (.bool sd):=λy=>y.h;obtain⟨m1,hm1⟩:∃m,m=uy id pg s:=⟨_,rfl⟩
   have hmk:∀W',Keep nM w3 W'->ae 93 #[.int .i64 (id:Int),.int .i64 pg,.string s] W' λe w'=>e= .returned (.string m1)∧Keep nM W' w':=by intro W' KW;rw[hm1];exact BK id pg s (by have:=Hsm.out.2;omega) W' (HRw.out.keep (KR3.nK KW) HRn.out)
   have Hmk:=ag hmk;have Hm1:=ag hm1;have Hsd:=ag hsd;clear hmk hm1 hsd zjX zcE K03;refine CV 16 (Bz B D VB EB X MB mo sec ep pg o) (λW':World=>W'.cell? ⟨X,2+id,none⟩=some (.bool sd)) [(2,0),(2,1),(2,2),(2,3),(2,4),(1,5),(2,6),(2,7),(2,8),(2,9),(2,10),(2,11),(2,12),(2,14),(2,15),(0,13),(0,16),(2,17),(0,18)] (by kernel_rfl) (by kernel_rfl) (λc a d v w h=>by cases d<;>exact h) ?_;simp only[zQ,nR,aj,ak,au]
   repeat(refine nJ (λK hK=> ?_);go_simp;first|(refine⟨_,λ_=>rfl,hK _ ?_⟩;clear hK K;refine nH ?_)|(refine hK _ ?_;clear hK K;refine nH ?_))
   clear q1 q2 q3 q4;refine⟨L3,λ_=>s3,?_⟩;go_wp2_with fail;refine(Hmk.out _ (ah _ _).drew).mono ?_;rintro e w4 ⟨rfl,K4⟩;have K34:Keep nM w3 w4:=(ah nM w3).drew.nK K4;have hd4:=hd3.keep K34 (λ_ _ x=>x);have hx4:=hx3.keep K34 (λx=>x);have hm4:=hm3.keep K34 (λx=>x);have KR4:=KR3.nK K34;have s4:w4.cell? ⟨X,2+id,none⟩=some (.bool sd):=(K34.cell (p:=⟨X,2+id,none⟩) (lt_of_heap hx3.1) (λx=>x)).trans s3;have f4:=hx4.free (2+id);have L4:Bz B D VB EB X MB mo sec ep pg o w4:=by have h2:=HE.out.cls KR4 hx4;rw[<-QF.out,<-Hep.out]at h2;rw[show(rC.mk x.count x.nP st.sides x.root).count=pg from PZ.out.symm]at h2;exact h2
   clear K4 K34 L3 s3 hx3 hm3 KR3;go_wp2_with fail;refine⟨L4,λ_=>s4,?_⟩;simp only[nR,aj,ak,au];go_wp2_with fail;have hx5:=hx4.ziJ id JQ (!sd);have K5:Keep (nY X) w4 (w4.setCell ⟨X,2+id,none⟩ (.bool (!sd))):=(ah (nY X) w4).set1 (2+id) _;have hd5:=hd4.keep K5 (λb hb e=>(DV.out b hb).1 e);have Ui:=hm4.keep K5 (λe=>HE.out.xk (Eq.symm e));have KR5:Keep (wG D S wv X K) w (w4.setCell ⟨X,2+id,none⟩ (.bool (!sd))):=KR4.trans K5 (λi _ hs=> .inr (.inl hs));obtain⟨w5,hw5⟩:∃w5,w5=w4.setCell ⟨X,2+id,none⟩ (.bool (!sd)):=⟨_,rfl⟩
   rw[<-hw5]at hd5 hx5 Ui KR5 K5⊢;have L5:Bz B D VB EB X MB mo sec ep pg o w5:=by have h2:=HE.out.cls KR5 hx5;rw[<-QF.out,<-Hep.out]at h2;rw[show(rC.mk x.count x.nP (st.sides.set id (!sd)) x.root).count=pg from PZ.out.symm]at h2;exact h2
   have cm:=Ui.cell id JQ;have fm:=Ui.free id;clear hw5 L4 s4 f4 hx4 hm4 KR4 K5;simp only[zQ,nR,aj,ak,au]
   repeat(refine nJ (λK hK=> ?_);go_simp;first|(refine⟨_,λ_=>rfl,hK _ ?_⟩;clear hK K;refine nH ?_)|(refine hK _ ?_;clear hK K;refine nH ?_))
   refine⟨L5,λh=>(by cases h),?_⟩;go_wp2_with fail;have hm6:=Ui.set id m1;have K6:Keep (nY K) w5 (w5.setCell ⟨K,id,none⟩ (.string m1)):=(ah (nY K) w5).set1 id _;have hd6:=hd5.keep K6 (λb hb e=>(DV.out b hb).2 e);have hx6:=hx5.keep K6 (λe=>HE.out.xk e);have KR6:Keep (wG D S wv X K) w (w5.setCell ⟨K,id,none⟩ (.string m1)):=KR5.trans K6 (λi _ hs=> .inr (.inr hs));obtain⟨w6,hw6⟩:∃w6,w6=w5.setCell ⟨K,id,none⟩ (.string m1):=⟨_,rfl⟩
   rw[<-hw6]at hd6 hx6 hm6 KR6⊢;clear hw6 cm fm L5 hx5 Ui KR5 K6 hd5 hd4 hd3;have hc8:∀W' x',Keep (wG D S wv X K) w W'->qV W' X x'->x'.sides.getD id false=(!sd)->Nq B D VB X id (!sd) W':=λW' x' KW hx' hs'=>by have h2:=HE.out.cls KW hx';exact⟨h2.1,h2.2.1,by rw[<-hs'];exact hx'.side id JQ⟩
   have zkA:(st.sides.set id (!sd)).getD id false=(!sd):=by
    have:id<st.sides.length:=by have:=hxr.out.2;simp only at this;omega
    rw[ax,jW this];rfl
   have L6:Nq B D VB X id (!sd) w6:=hc8 w6 _ KR6 hx6 zkA;have Hc8:=ag hc8;have zni:=ag zkA;have q1:∀y:rE (Nq B D VB X id (!sd)),y.w.cell? ⟨VB,0,none⟩=some (.pointer (some ⟨B,0,none⟩)):=λy=>y.h.1;have q2:∀y:rE (Nq B D VB X id (!sd)),y.w.cell? ⟨B,0,none⟩=some (.pointer (some ⟨D,0,none⟩)):=λy=>y.h.2.1;have q3:∀y:rE (Nq B D VB X id (!sd)),y.w.cell? ⟨X,2+id,none⟩=some (.bool (!sd)):=λy=>y.h.2.2;have hpl:=λ(W':World)=>G8 id (!sd) JQ W';obtain⟨q,hq⟩:∃q,q=tX id (!sd):=⟨_,rfl⟩
   have zfp:q<66:=by rw[hq];exact DZ JQ _
   rw[<-hq]at hpl;have Hpl:=ag hpl;have Hq:=ag hq;have hwl:st.dev.wait.length<1000000:=by have h1:=OB (key:=key) (pg:=pg) (W.take k) ⟨x.sides,ms,d⟩;rw[hst.out,bG]at h1;simp only at h1;omega
   have HXl:=ag hXl;have HKl:=ag hKl;clear hc8 zkA hpl hq hXl hKl;refine nO (Nq B D VB X id (!sd)) [(true,0),(true,1),(true,2),(true,3),(true,4),(true,5),(true,6),(true,7),(true,8),(true,10),(false,9),(false,11),(false,12)] (by kernel_rfl) (by kernel_rfl) (λc a d v w h=>by cases d<;>exact h) ?_;simp only[oQ,nR,aj,ak,au]
   repeat(refine nJ (λK hK=> ?_);go_simp;first|(refine⟨_,λ_=>rfl,hK _ ?_⟩;clear hK K;refine nH ?_)|(refine hK _ ?_;clear hK K;refine nH ?_))
   clear q1 q2 q3;refine⟨L6,?_⟩;go_wp2_with fail;refine(Hpl.out _).mono ?_;rintro e w7 ⟨rfl,hw7⟩;subst hw7;go_wp2_with fail;refine⟨L6,?_⟩;by_cases hfu:st.dev.oD=0
   ·have hwr:=Px (hd6.keep (ah nM w6).drew (λ_ _ x=>x)) q T4 zfp (by omega) hfu;have Yg:=ag hwr;clear hwr;go_wp2_with fail;refine Yg.out.mono ?_;rintro e w8 ⟨rfl,hd8,K8⟩;have KR8:Keep (wG D S wv X K) w w8:=KR6.drew.trans K8 (λi hi hs=> .inl (yw hmv.out i hi hs));have hx8:=hx6.keep ((ah (qg D S wvr) w6).drew.then K8) (λe=>(DV.out X e).1 rfl);have hm8:=hm6.keep ((ah (qg D S wvr) w6).drew.then K8) (λe=>(DV.out K e).2 rfl);have L8:=Hc8.out w8 _ KR8 hx8 zni.out;clear Yg L6;go_wp2_with fail;refine⟨L8,?_⟩;go_wp2_with fail;go_ret;refine⟨?_,KR8⟩;have hstop:rJ (Ba V.secret x.nP) x.count W ⟨x.sides,ms,d⟩=(st,false):=by
     have h:=ZI hst.out Hp.out hfu;rw[zfy.out,QF.out,Hep.out,PZ.out]at h;exact h
    rw[OC hstop];exact⟨rfl,⟨wvr,hd8,hmv.out⟩,λh=>by cases h⟩
   ·have hwr:=Mc (hd6.keep (ah nM w6).drew (λ_ _ x=>x)) q T4 zfp (by omega) hfu hwl;have Yg:=ag hwr;clear hwr;go_wp2_with fail;refine Yg.out.mono ?_;rintro e w8 ⟨rfl,⟨wv8,hd8,hM8⟩,K8⟩;have KR8:Keep (wG D S wv X K) w w8:=KR6.drew.trans K8 (λi hi hs=> .inl (yw hmv.out i hi hs));have hx8:=hx6.keep ((ah (qg D S wvr) w6).drew.then K8) (λe=>(DV.out X e).1 rfl);have hm8:=hm6.keep ((ah (qg D S wvr) w6).drew.then K8) (λe=>(DV.out K e).2 rfl);have L8:=Hc8.out w8 _ KR8 hx8 zni.out;clear Yg L6;go_wp2_with fail;refine⟨L8,?_⟩;go_wp2_with fail;have hstep:=Oc hst.out Hp.out hfu;refine⟨⟨k+1,_,wv8,by go_num,by omega,ag hstep,ag ?_,ag (Dl hmv.out hM8 (KR6.size)),ag ?_,ag ?_,KR8⟩,by simp[intOf];omega⟩
    ·have e:(uA key pg st (id,s)).dev=st.dev.put q T4:=by rw[uA,Hq.out,HT4.out,<-Hsd.out]
     rw[e];exact hd8
    ·have e:(uA key pg st (id,s)).sides=st.sides.set id (!sd):=by rw[uA,<-Hsd.out]
     rw[e];exact hx8
    ·have e:(uA key pg st (id,s)).marks=st.marks.set id m1:=by rw[uA,Hm1.out]
     rw[e];exact hm8
  ·obtain rfl:k=n:=by omega
   have j1:¬((k:Int)<(k:Int)):=by omega
   have hT:rJ (Ba V.secret x.nP) x.count W ⟨x.sides,ms,d⟩=(st,true):=by have h:=hst.out;rw[aV (by have:=Hn.out;omega),zfy.out,QF.out,Hep.out,PZ.out]at h;exact h
   have zjL:∀m∈st.marks,m.size=16:=by have h:=G9 (key:=Ba V.secret x.nP) (pg:=x.count) W ⟨x.sides,ms,d⟩ Hms.out;rw[hT]at h;exact h
   have HT:=ag hT;have zon:=ag zjL;have hXl:X<w.heap.size:=lt_of_heap Hx.out.1;have hKl:K<w.heap.size:=lt_of_heap Hm.out.1;have Yy:∀b,qg D S wvr b->b≠X∧b≠K:=λb hb=>by
    by_cases hlt:b<w.heap.size
    ·exact HE.out.zif b (yw hmv.out b hlt hb)
    ·exact⟨λe=>by omega,λe=>by omega⟩
   have DV:=ag Yy;have hcl:=HE.out.cls KR hxr.out;have a1:=hcl.1;have a2:=hcl.2.1;have HXl:=ag hXl;have HKl:=ag hKl;clear hT zjL Yy hcl hXl hKl hlt;by_cases hf1:st.dev.oD=0
   ·have hsy:=TB hdr.out hf1;have Hsy:=ag hsy;clear hsy;go_wp2_with fail;refine Hsy.out.mono ?_;rintro e w2 ⟨rfl,hd2,K2⟩;have KR2:Keep (wG D S wv X K) w w2:=KR.trans K2 (λi hi hs=> .inl (yw hmv.out i hi hs));go_wp2_with fail;go_ret;refine⟨?_,KR2⟩;rw[YW HT.out hf1];exact⟨rfl,⟨wvr,hd2,hmv.out⟩,λh=>by cases h⟩
   ·have hsy:=Py hdr.out hf1;have Hsy:=ag hsy;clear hsy;go_wp2_with fail;refine Hsy.out.mono ?_;rintro e w2 ⟨rfl,hd2,K2⟩;have KR2:Keep (wG D S wv X K) w w2:=KR.trans K2 (λi hi hs=> .inl (yw hmv.out i hi hs));have hx2:=hxr.out.keep K2 (λe=>(DV.out X e).1 rfl);have hm2:=hmr.out.keep K2 (λe=>(DV.out K e).2 rfl);have hM2:zL w wv (.slice none 0 0):= .inr (λb hb=>by cases hb);have hroot:=Lj (some ⟨K,0,none⟩) 32 32 st.marks w2 (HRw.out.keep KR2 HRn.out) hm2.strs (aF _) (by have:=hm2.2;omega);have hE:QI st.marks=0:=by rw[QI,aP (AV.2 ⟨hm2.2,zon.out⟩)]
    rw[hE]at hroot;obtain⟨rt,hrt⟩:∃r,r=rV st.marks:=⟨_,rfl⟩
    rw[<-hrt]at hroot;have QX:ae 134 #[.slice (some ⟨K,0,none⟩) 32 32] w2 λe w'=>e= .returned (.tuple #[.string rt,.nilIface])∧Keep nM w2 w':=hroot;have zcC:=ag QX;have Hrt:=ag hrt;have Hd2:=ag hd2;have Hf1:=ag hf1;clear hroot QX hE hrt hd2 hf1 Hsy K2 hdr hst;go_wp2_with fail;refine zcC.out.mono ?_;rintro e w3 ⟨rfl,K3⟩;have hx3:=hx2.keep K3 (λx=>x);have hm3:=hm2.keep K3 (λx=>x);have hd3:=Hd2.out.keep K3 (λ_ _ x=>x);have KR3:=KR2.nK K3;have cr:=hx3.root;have fr:=hx3.free 34;simp only at cr;clear hx2 hm2 KR2 K3 Hd2 zcC;go_wp2_with fail;have hx4:=hx3.ziK rt;have K4:Keep (nY X) w3 (w3.setCell ⟨X,34,none⟩ (.string rt)):=(ah (nY X) w3).set1 34 _;have hm4:=hm3.keep K4 (λe=>HE.out.xk (Eq.symm e));have hd4:=hd3.keep K4 (λb hb e=>by
     rcases hb with hb|hb|hb
     ·exact(DV.out b (.inl hb)).1 e
     ·exact(DV.out b (.inr (.inl hb))).1 e
     ·cases hb)
    have KR4:Keep (wG D S wv X K) w (w3.setCell ⟨X,34,none⟩ (.string rt)):=KR3.trans K4 (λi _ hs=> .inr (.inl hs));obtain⟨w4,hw4⟩:∃w4,w4=w3.setCell ⟨X,34,none⟩ (.string rt):=⟨_,rfl⟩
    rw[<-hw4]at hx4 hm4 hd4 KR4⊢;clear hw4 cr fr hx3 hm3 hd3 KR3 K4;obtain⟨x1,hx1⟩:∃y:rC,y=⟨x.count,x.nP,st.sides,rt⟩:=⟨_,rfl⟩
    have zfl:qV w4 X x1:=by rw[hx1];exact hx4
    have zl6:x1.count=pg:=by rw[hx1];exact PZ.out.symm
    have zkv:x1.sides.length=32:=zfl.2;obtain⟨cx,hcx⟩:∃c,c=(oq x1).toArray:=⟨_,rfl⟩
    have hXr:w4.heap[X]? =some (.cells cx 134 (0,0)):=by rw[hcx];exact zfl.1
    have zdn:cx.size=35:=by rw[hcx,bT,rG x1 zkv]
    have h35:(Tryz.prog.info? 134).map (·.size)=some cx.size:=by rw[zdn];exact qF
    have hsv:ry x1= .agg cx:=by rw[hcx];rfl
    have h19:∀W',Keep nM w4 W'->Qs B VB X sec cx W':=λW' KW=>by have h2:=HE.out.cls (KR4.nK KW) (zfl.keep KW (λx=>x));exact⟨h2.1,by rw[QF.out];exact h2.2.2.1,KW.heap hXr (λx=>x)⟩
    have L19:=h19 w4 (ah _ _);obtain⟨M,hM⟩:∃M,M=txt (mark 115 [bs sec]):=⟨_,rfl⟩
    have bM:bs M=mark 115 [bs sec]:=by rw[hM,qw (uB _ _)]
    obtain⟨sk,hsk⟩:∃k,k=rH sec:=⟨_,rfl⟩
    have hmk:=λ(W':World) (KW:Keep nM w4 W')=>xC 115 (by decide) (.slice (some ⟨W'.heap.size,0,none⟩) 1 1) [sec] (W'.alloc (.cells #[.string sec] 9)) (HRw.out.keep (KR4.nK (KW.alloc _)) HRn.out) (Strs.lit (w:=W') [sec]) (by simp only[bF,dB,pV,dO,jT,ay,aK,bI,yx,bs_len];have:=Hs.out;rw[<-QF.out]at this;omega) (by simp);have zmn:txt (mark 115 ([sec].map bs))=M:=by rw[hM];rfl
    rw[zmn]at hmk;have hsum:=λ(W':World) (KW:Keep nM w4 W')=>sum_any M (by rw[hM,oU,AB];omega) W' (HRw.out.keep (KR4.nK KW) HRn.out);have zjB:txt (sha (bs M))=sk:=by rw[bM,hsk];rfl
    rw[zjB]at hsum;have hwr:=λ(W':World) (KW:Keep nM w4 W')=>Lm sk x1 zkv W' (HRw.out.keep (KR4.nK KW) HRn.out);rw[hsv]at hwr;have Hmk:=ag hmk;have zng:=ag hsum;have Yg:=ag hwr;have H19:=ag h19;have JG:=ag h35;have Hx1:=ag hx1;have Hsk:=ag hsk;have Hx4:=ag zfl;have Hd4:=ag hd4;have Hm4:=ag hm4;have zpr:=ag zl6;have q1:∀y:rE (Qs B VB X sec cx),y.w.cell? ⟨VB,0,none⟩=some (.pointer (some ⟨B,0,none⟩)):=λy=>y.h.1;have q2:∀y:rE (Qs B VB X sec cx),y.w.cell? ⟨B,2,none⟩=some (.string sec):=λy=>y.h.2.1;clear hmk hsum hwr h19 h35 hx1 hsk zfl hx4 hd4 hm4 zmn zjB bM hM hsv hcx zkv hXr zl6;refine nO (Qs B VB X sec cx) [(true,0),(true,1),(true,2),(true,3),(true,7),(false,4),(false,5),(false,6),(false,8),(true,9),(true,10),(true,11),(true,12),(false,13)] (by kernel_rfl) (by kernel_rfl) (λc a d v w h=>by cases d<;>exact h) ?_;simp only[oQ,nR,aj,ak,au]
    iterate 4 (refine nJ (λK hK=> ?_);go_simp;first|(refine⟨_,λ_=>rfl,hK _ ?_⟩;clear hK K;refine nH ?_)|(refine hK _ ?_;clear hK K;refine nH ?_))
    refine uC (by rfl) 134 (.tmp 3) rfl X 0 rfl 134 cx (0,0) cx _ (λy=>y.h.2.2) (λj v hv=>by rw[dM];exact hv) Tryz.underlying134 rfl JG.out ?_;refine nH ?_;clear q1 q2;refine⟨L19,?_⟩;go_wp2_with fail;refine⟨H19.out _ ((ah nM w4).alloc _).drew,?_⟩;go_wp2_with fail;refine(Hmk.out w4.drew (ah nM w4).drew).mono ?_;rintro e w5 ⟨rfl,K5⟩;have K45:Keep nM w4 w5:=((ah nM w4).drew.alloc _).nK K5;go_wp2_with fail;refine⟨H19.out _ K45,?_⟩;go_wp2_with fail;refine(zng.out _ K45).mono ?_;rintro e w6 ⟨rfl,K6⟩;have K46:=K45.nK K6;go_wp2_with fail;refine⟨H19.out _ K46,?_⟩;go_wp2_with fail;refine(Yg.out _ K46).mono ?_;rintro e w7 ⟨rfl,K7⟩;have K47:=K46.nK K7;clear K5 K45 K6 K46 K7 Hmk zng Yg L19;go_wp2_with fail
    repeat(refine nJ (λK hK=> ?_);go_simp;first|(refine⟨_,λ_=>rfl,hK _ ?_⟩;clear hK K;refine nH ?_)|(refine hK _ ?_;clear hK K;refine nH ?_))
    refine⟨H19.out _ K47,?_⟩;have hx7:=Hx4.out.keep K47 (λx=>x);have hm7:=Hm4.out.keep K47 (λx=>x);have hd7:=Hd4.out.keep K47 (λ_ _ x=>x);have KR7:=KR4.nK K47;have hxe:(⟨x.count,x.nP,st.sides,rV st.marks⟩:rC)=x1:=by rw[Hx1.out,Hrt.out]
    have zh3:rH V.secret=sk:=by rw[Hsk.out,QF.out]
    clear K47 KR4 H19;by_cases hmay:qL sk x1=true
    ·have he:errVal (Wv sk x1)= .nilIface:=by rw[Wv,aP hmay];rfl
     rw[he];obtain⟨SW,hSW⟩:∃t,t=zC sk x1:=⟨_,rfl⟩
     have zmN:SW.size<=256:=by rw[hSW,Io hx7.2 hmay];omega
     rw[<-hSW];have HSW:=ag hSW;have zpI:=ag hmay;have Hxe:=ag hxe;have znh:=ag zh3;clear he hSW hmay hxe zh3;go_wp2_with fail;obtain⟨q2,hq2⟩:∃q,q=(pg % 2).toNat:=⟨_,rfl⟩
     have zfp:q2<66:=by rw[hq2];omega
     have zh5:pg % 2=(q2:Int):=by rw[hq2];omega
     have znU:Int.tmod pg 2=(q2:Int):=by rw[Int.tmod_eq_emod_of_nonneg (by omega)];exact zh5
     have Hq2:=ag hq2;clear hq2;have h22:∀W',Keep (wG D S wv X K) w W'->qV W' X x1->JZ B D VB X pg W':=λW' KW hx'=>by have h2:=HE.out.cls KW hx';exact⟨h2.1,h2.2.1,by rw[<-zpr.out];exact h2.2.2.2.2.1⟩
     have L22:=h22 w7 KR7 hx7;have H22:=ag h22;have p1:∀y:rE (JZ B D VB X pg),y.w.cell? ⟨VB,0,none⟩=some (.pointer (some ⟨B,0,none⟩)):=λy=>y.h.1;have p2:∀y:rE (JZ B D VB X pg),y.w.cell? ⟨B,0,none⟩=some (.pointer (some ⟨D,0,none⟩)):=λy=>y.h.2.1;have p3:∀y:rE (JZ B D VB X pg),y.w.cell? ⟨X,0,none⟩=some (.int .i64 pg):=λy=>y.h.2.2;clear h22;have hdn:∀b,qg D S (.slice none 0 0) b->b≠X∧b≠K:=λb hb=>by
      rcases hb with hb|hb|hb
      ·exact DV.out b (.inl hb)
      ·exact DV.out b (.inr (.inl hb))
      ·cases hb
     have zjR:∀i,i<w.heap.size->qg D S (.slice none 0 0) i->qg D S wv i:=yw hM2;have Hdn:=ag hdn;have zj2:=ag zjR;clear hdn zjR;refine nO (JZ B D VB X pg) [(true,0),(true,1),(true,2),(true,3),(true,4),(true,5),(true,6),(true,7),(false,8),(false,9)] (by kernel_rfl) (by kernel_rfl) (λc a d v w h=>by cases d<;>exact h) ?_;simp only[oQ,nR,aj,ak,au]
     repeat(refine nJ (λK hK=> ?_);go_simp;first|(refine⟨_,λ_=>rfl,hK _ ?_⟩;clear hK K;refine nH ?_)|(refine hK _ ?_;clear hK K;refine nH ?_))
     clear p1 p2 p3 zh5 znU;refine⟨L22,?_⟩;have hxe2:zC (rH V.secret) ⟨x.count,x.nP,st.sides,rV st.marks⟩=SW:=by rw[Hxe.out,znh.out,HSW.out]
     have hcq:(x.count % 2).toNat=q2:=by rw[Hq2.out,PZ.out]
     have zil:=ag hxe2;have Hcq:=ag hcq;clear hxe2 hcq;have zjN:qL (rH V.secret) ⟨x.count,x.nP,st.sides,rV st.marks⟩=true:=by rw[Hxe.out,znh.out];exact zpI.out
     have zfU:=ag zjN;clear zjN;by_cases hf2:st.dev.sync.oD=0
     ·have hwr:=Px (hd7.keep (ah nM w7).drew (λ_ _ x=>x)) q2 SW zfp zmN hf2;have Yg:=ag hwr;have htl:=YV HT.out Hf1.out zfU.out hf2;have Htl:=ag htl;clear hwr htl hf2;go_wp2_with fail;refine Yg.out.mono ?_;rintro e w8 ⟨rfl,hd8,K8⟩;have KR8:Keep (wG D S wv X K) w w8:=KR7.drew.trans K8 (λi hi hs=> .inl (zj2.out i hi hs));have hx8:=hx7.keep ((ah _ w7).drew.then K8) (λe=>(Hdn.out X e).1 rfl);go_wp2_with fail;refine⟨H22.out w8 KR8 hx8,?_⟩;go_wp2_with fail;go_ret;refine⟨?_,KR8⟩;rw[Htl.out];exact⟨rfl,⟨_,hd8,hM2⟩,λh=>by cases h⟩
     ·have hwl:st.dev.sync.wait.length<1000000:=by show([]:List (Nat×af)).length<_;simp
      have hwr:=Mc (hd7.keep (ah nM w7).drew (λ_ _ x=>x)) q2 SW zfp zmN hf2 hwl;have Yg:=ag hwr;have Hf2:=ag hf2;clear hwr hf2 hwl;go_wp2_with fail;refine Yg.out.mono ?_;rintro e w8 ⟨rfl,⟨wv8,hd8,hM8⟩,K8⟩;have KR8:Keep (wG D S wv X K) w w8:=KR7.drew.trans K8 (λi hi hs=> .inl (zj2.out i hi hs));have hx8:=hx7.keep ((ah _ w7).drew.then K8) (λe=>(Hdn.out X e).1 rfl);have hm8:=hm7.keep ((ah _ w7).drew.then K8) (λe=>(Hdn.out K e).2 rfl);have zid:=Dl hM2 hM8 KR7.size;have L8:=H22.out w8 KR8 hx8;go_wp2_with fail;refine⟨L8,?_⟩;have b1:=L8.1;have b2:=L8.2.1;by_cases hf3:(st.dev.sync.put q2 SW).oD=0
      ·have hsy:=TB hd8 hf3;have htl:=YU HT.out Hf1.out zfU.out Hf2.out (by rw[zil.out,Hcq.out];exact hf3);rw[zil.out,Hcq.out]at htl;have Hsy:=ag hsy;have Htl:=ag htl;clear hsy htl hf3;go_wp2_with fail;refine Hsy.out.mono ?_;rintro e w9 ⟨rfl,hd9,K9⟩;have KR9:Keep (wG D S wv X K) w w9:=KR8.trans K9 (λi hi hs=> .inl (yw zid i hi hs));go_wp2_with fail;go_ret;refine⟨?_,KR9⟩;rw[Htl.out];exact⟨rfl,⟨_,hd9,zid⟩,λh=>by cases h⟩
      ·have hsy:=Py hd8 hf3;have htl:=YT HT.out Hf1.out zfU.out Hf2.out (by rw[zil.out,Hcq.out];exact hf3);rw[zil.out,Hcq.out]at htl;have Hsy:=ag hsy;have Htl:=ag htl;clear hsy htl hf3;go_wp2_with fail;refine Hsy.out.mono ?_;rintro e w9 ⟨rfl,hd9,K9⟩;have KR9:Keep (wG D S wv X K) w w9:=KR8.trans K9 (λi hi hs=> .inl (yw zid i hi hs));have zkQ:∀b,qg D S wv8 b->b≠X∧b≠K:=λb hb=>by
        by_cases hlt:b<w.heap.size
        ·exact HE.out.zif b (yw zid b hlt hb)
        ·exact⟨λe=>by have:=HXl.out;omega,λe=>by have:=HKl.out;omega⟩
       have hx9:=hx8.keep K9 (λe=>(zkQ X e).1 rfl);have hm9:=hm8.keep K9 (λe=>(zkQ K e).2 rfl);have Hx9:=ag hx9;have Hm9:=ag hm9;clear hx9 hm9 zkQ;go_wp2_with fail;go_ret;refine⟨?_,KR9⟩;rw[Htl.out];refine⟨rfl,⟨_,hd9,.inr (λb hb=>by cases hb)⟩,λ_=>⟨?_,Hm9.out⟩⟩;rw[Hxe.out];exact Hx9.out
    ·have hmf:qL sk x1=false:=by simpa using hmay
     have he:errVal (Wv sk x1)= .iface 51 (.int .i64 1):=by rw[Wv,aB hmay];rfl
     rw[he];have htl:=zgy HT.out Hf1.out (by rw[hxe,zh3];exact hmf);have Htl:=ag htl;clear he hmf hmay htl hxe zh3;go_wp2_with fail;go_ret;refine⟨?_,KR7⟩;rw[Htl.out];exact⟨rfl,⟨_,hd7,hM2⟩,λh=>by cases h⟩
end Go.Proofs.YtopbkdebihcmcaaGreatDoor
