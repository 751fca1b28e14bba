import Derived.Test.YtnmhgehpddipdaaGreatDoorYAD
import Derived.Test.YtnmhgehpddipdaaGreatDoorYAK
import Derived.Test.YtnmhgehpddipdaaGreatDoorYAL
import Derived.Test.YtnmhgehpddipdaaGreatDoorYAZ
import Derived.Test.YtnmhgehpddipdaaGreatDoorYBA
import Derived.Test.YtnmhgehpddipdaaGreatDoorProg
import Derived.Lib.Hide
import Derived.Deep.RegionLaw
import Derived.IntWalk
set_option linter.unusedSimpArgs false
set_option linter.unusedVariables false
namespace Go.Proofs.YtnmhgehpddipdaaGreatDoor
open Go.RowKit Go.Cof
theorem repeatL_zero(n:Nat):Lib.repeatL [0] n=List.replicate n 0:=by
 induction n with
 | zero=>rfl
 | succ n ih=>rw[Lib.repeatL,ih,List.replicate_succ];rfl
theorem repeat_any(c:Int)(n:Nat)(hc:c=n)(hn:n<=1000000)(w:World):
  Calls Tryz.prog 217 #[.string ⟨#[0]⟩,.int .i64 c] w λe w'=>e= .returned (.string (txt (List.replicate n 0)))∧Keep NoB w w':=by
 subst hc
 refine(Tryz.strings_Repeat ⟨#[0]⟩ n w (by omega) (by show 1*n<=_;omega)).mono λe w' ⟨he,hb⟩=>⟨?_,Keep.ofBelow hb⟩
 rw[he]
 have e1:(⟨#[0]⟩:ByteArray).data.toList= [0]:=rfl
 have e2:(⟨(List.replicate n (0:UInt8)).toArray⟩:ByteArray)=txt (List.replicate n 0):=by rw[txt,List.map_replicate];rfl
 rw[e1,repeatL_zero,e2]
end Go.Proofs.YtnmhgehpddipdaaGreatDoor
namespace Go.Cof
open Go.RowKit
def bodyP(text:List Nat):List Nat:= [text.length]++text++List.replicate (200-text.length) 0
def sealedP(key:List Nat)(id ver:Int)(text:List Nat):List Nat:=be64 (u64n ver)++nonceP key id ver text++xor key (nonceP key id ver text) (bodyP text)
def sealP(key:List Nat)(id ver:Int)(text:List Nat):List Nat:=sealedP key id ver text++tagP key id (sealedP key id ver text)
theorem nonceP_len(key:List Nat)(id ver:Int)(text:List Nat):(nonceP key id ver text).length=12:=by rw[nonceP,List.length_take,mark_len];rfl
theorem nonceP_bytes(key:List Nat)(id ver:Int)(text:List Nat):Bytes (nonceP key id ver text):=bytes_take (mark_bytes _ _) _
theorem tagP_bytes(key:List Nat)(id:Int)(s:List Nat):Bytes (tagP key id s):=mark_bytes _ _
theorem tagP_len(key:List Nat)(id:Int)(s:List Nat):(tagP key id s).length=16:=mark_len _ _
theorem bytes_rep(n:Nat):Bytes (List.replicate n 0):=λx hx=>by rw[(List.mem_replicate.1 hx).2];omega
theorem bodyP_len(text:List Nat)(h:text.length<=200):(bodyP text).length=201:=by
 rw[bodyP,List.length_append,List.length_append,List.length_replicate];simp;omega
end Go.Cof
namespace Go.Proofs.YtnmhgehpddipdaaGreatDoor
open Go.RowKit Go.Cof
theorem xor_bytes(key nonce s:List Nat)(hs:Bytes s):Bytes (xor key nonce s):=by
 intro x hx
 rw[<-xorTo_ge key nonce s s.length (Nat.le_refl _)]at hx
 obtain⟨i,hi,rfl⟩:=List.getElem_of_mem hx
 have:=xorTo_lt key nonce s hs s.length i
 rwa [List.getD_eq_getElem?_getD,List.getElem?_eq_getElem hi]at this
theorem seal_parts(key:ByteArray)(id ver:Int)(text:ByteArray)(hk:key.size=32)(ht:text.size<=200):
  ∃BB N X V C G:ByteArray,BB=txt [text.size]++text++txt (List.replicate (200-text.size) 0)∧BB.size=201∧N=txt (nonceP (bs key) id ver (bs text))∧N.size=12∧X=txt (xor (bs key) (bs N) (bs BB))∧X.size=201∧
   V=txt (be64 (u64n ver))∧V.size=8∧C=V++N++X∧C.size=221∧G=txt (tagP (bs key) id (bs C))∧G.size=16∧C++G=txt (sealP (bs key) id ver (bs text)):=by
 have tb:Bytes [text.size]:=λx hx=>by rw[List.mem_singleton.1 hx];omega
 have hB:bs (txt [text.size]++text++txt (List.replicate (200-text.size) 0))=bodyP (bs text):=by
  rw[bs_append,bs_append,bs_txt tb,bs_txt (bytes_rep _),bodyP,bs_len]
 have hBl:=bodyP_len (bs text) (by rw[bs_len];exact ht)
 have hN:=bs_txt (nonceP_bytes (bs key) id ver (bs text))
 have hBb:Bytes (bodyP (bs text)):=by rw[<-hB];exact bs_bytes _
 refine⟨_,_,_,_,_,_,rfl,?_,rfl,?_,rfl,?_,rfl,?_,rfl,?_,rfl,?_,?_⟩
 ·rw[<-bs_len,hB,hBl]
 ·rw[txt_size,nonceP_len]
 ·rw[txt_size,xor_len,hB,hBl]
 ·rw[txt_size,be64_len]
 ·rw[ByteArray.size_append,ByteArray.size_append,txt_size,txt_size,txt_size,be64_len,nonceP_len,xor_len,hB,hBl]
 ·rw[txt_size,tagP_len]
 ·apply bs_inj
  have hC:bs (txt (be64 (u64n ver))++txt (nonceP (bs key) id ver (bs text))++txt (xor (bs key) (bs (txt (nonceP (bs key) id ver (bs text)))) (bs (txt [text.size]++text++txt (List.replicate (200-text.size) 0)))))=sealedP (bs key) id ver (bs text):=by
   rw[bs_append,bs_append,bs_txt (be64_bytes _),hN,hB,bs_txt (xor_bytes _ _ _ hBb),sealedP]
  have hb:Bytes (sealP (bs key) id ver (bs text)):=bytes_append (by rw[<-hC];exact bs_bytes _) (tagP_bytes _ _ _)
  rw[bs_append,hC,bs_txt (tagP_bytes _ _ _),bs_txt hb,sealP]
set_option maxRecDepth 100000 in
set_option maxHeartbeats 4000000 in
theorem seal_ok(key:ByteArray)(id ver:Int)(text:ByteArray)(hk:key.size=32)(hi0:0<=id)(hi1:id<32)(hv0:1<=ver)(hv1:ver<=1099511627776)(ht:text.size<=200)(w:World)(Vr:RoundsVar w):
  Calls Tryz.prog 158 #[.string key,.int .i64 id,.int .i64 ver,.string text] w λe w'=>e= .returned (.tuple #[.string (txt (sealP (bs key) id ver (bs text))),.nilIface])∧Keep NoB w w':=by
 obtain⟨BB,N,X,V,C,G,eB,sB,eN,sN,eX,sX,eV,sV,eC,sC,eG,sG,eR⟩:=seal_parts key id ver text hk ht
 have b1:((key.size:Int) !=32)=false:=by rw[hk];rfl
 have j1:(text.size:Int)<=200:=by omega
 have hn:∀w,RoundsVar w->Calls Tryz.prog 218 #[.string key,.int .i64 id,.int .i64 ver,.string text] w λe w'=>e= .returned (.string N)∧Keep NoB w w':=by
  rw[eN];exact nonce_any key id ver text (by omega) (by omega)
 have hx:∀w,Calls Tryz.prog 200 #[.string key,.string N,.string BB] w λe w'=>e= .returned (.tuple #[.string X,.nilIface])∧Keep NoB w w':=by
  rw[eX];exact xor_any key N BB hk sN (by omega)
 have hm:∀w,Calls Tryz.prog 112 #[.int .i64 ver] w λe w'=>e= .returned (.string V)∧Keep NoB w w':=by
  rw[eV];exact num_int ver
 have hg:∀w,RoundsVar w->Calls Tryz.prog 199 #[.string key,.int .i64 id,.string C] w λe w'=>e= .returned (.string G)∧Keep NoB w w':=by
  rw[eG];exact tag_any key id C (by omega) (by omega)
 have hcat3:¬(9223372036854775807<V.size+N.size):=by omega
 have hcat4:¬(9223372036854775807<V.size+N.size+X.size):=by omega
 have hcat5:¬(9223372036854775807<C.size+G.size):=by omega
 rw[<-eR]
 have EB:=Lib.hid eB
 have EC:=Lib.hid eC
 clear eB sB eN sN eX sX eV sV eC sC eG sG eR hk
 have hrow:∀w:World,BRow (w.alloc (.cells #[.int .u8 (text.size:Int)] 5)).drew w.heap.size 5 [text.size]:=λw=>⟨_,_,heap_alloc_new w _,rfl,λi _=>by simp⟩
 have hsB:=λ(w:World) (b:Nat) (hb:BRow w b 5 [text.size])=>run_string_row (P:=Tryz.prog) (cap:=1) hb Tryz.underlying65 Tryz.underlying5 Tryz.underlying9
 have hsD:∀w:World,(convert 65 9 (.slice (some ⟨w.heap.size,0,none⟩) 1 1)).run Tryz.prog (w.alloc (.cells #[.int .u8 (text.size:Int)] 5)).drew= .ok (.string (txt [text.size])) (w.alloc (.cells #[.int .u8 (text.size:Int)] 5)).drew:=λw=>hsB _ _ (hrow w)
 have hsE:∀w:World,(convert 65 9 (.slice (some ⟨w.heap.size,0,none⟩) 1 1)).run Tryz.prog (w.alloc (.cells #[.int .u8 (text.size:Int)] 5))= .ok (.string (txt [text.size])) (w.alloc (.cells #[.int .u8 (text.size:Int)] 5)):=λw=>hsB _ _ ⟨_,_,heap_alloc_new w _,rfl,λi _=>by simp⟩
 have hsU:∀a w2:World,Keep NoB a w2->(∀b,BRow a b 5 [text.size]->(convert 65 9 (.slice (some ⟨b,0,none⟩) 1 1)).run Tryz.prog w2= .ok (.string (txt [text.size])) w2)∧(∀b,BRow a b 5 [text.size]->(convert 65 9 (.slice (some ⟨b,0,none⟩) 1 1)).run Tryz.prog w2.drew= .ok (.string (txt [text.size])) w2.drew):=λa w2 K=>by
  refine⟨λb hb=> ?_,λb hb=> ?_⟩<;>obtain⟨cur,fr,h,r⟩:=hb
  ·exact hsB _ _ ⟨cur,fr,K.heap h (λx=>x),r⟩
  ·exact hsB _ _ ⟨cur,fr,K.heap h (λx=>x),r⟩
 have e1:IntKind.u8.wrap (text.size:Int)=(text.size:Int):=by rw[IntKind.wrap_u8];omega
 have e2:IntKind.i64.wrap (200-(text.size:Int))=200-(text.size:Int):=IntWalk.i64_in _ (by omega)
 have hcat1:¬(9223372036854775807<(txt [text.size]).size+text.size):=by rw[txt_size];simp;omega
 have hcat2:¬(9223372036854775807<(txt [text.size]).size+text.size+(txt (List.replicate (200-text.size) 0)).size):=by rw[txt_size,txt_size];simp;omega
 go_enter Tryz.func158,Tryz.ntmps158
 go_wp2_with fail
 go_region_law (go_simp;go_at_call 217;refine(repeat_any _ (200-text.size) (by omega) (by omega) _).mono ?_;rintro e w2 ⟨rfl,K2⟩;have hsk:=(hsU _ _ K2).1;have hsk2:=(hsU _ _ K2).2)
 all_goals rw[<-EB.out]
 all_goals go_wp2_with fail
 all_goals (refine(hn _ (Vr.keep (S:=NoB) (by first|exact((((Keep.refl NoB w).alloc _).drew).thenN K2)|exact(((Keep.refl NoB w).drew.thenN K2).alloc _)) (λx=>x))).mono ?_;rintro e w3 ⟨rfl,K3⟩)
 all_goals have K4:Keep NoB w w3:=by first|exact(((Keep.refl NoB w).alloc _).drew.thenN K2).thenN K3|exact((((Keep.refl NoB w).drew).thenN K2).alloc _).thenN K3
 all_goals go_wp2_with fail
 all_goals (refine(hx _).mono ?_;rintro e w4 ⟨rfl,K5⟩)
 all_goals have K6:=K4.thenN K5
 all_goals clear K4 K5 hx hn hrow hsB hsD hsE hsU hcat1 hcat2 e1 e2
 all_goals go_wp2_with fail
 all_goals (refine(hm _).mono ?_;rintro e w5 ⟨rfl,K7⟩)
 all_goals have K8:=K6.thenN K7
 all_goals clear hm
 all_goals go_wp2_with fail
 all_goals rw[<-EC.out]
 all_goals (refine(hg _ (Vr.keep K8 (λx=>x))).mono ?_;rintro e w6 ⟨rfl,K9⟩)
 all_goals go_wp2_with fail
 all_goals go_ret2
 all_goals exact⟨rfl,K8.thenN K9⟩
end Go.Proofs.YtnmhgehpddipdaaGreatDoor
namespace Go.Cof
open Go.RowKit
def numN(l:List Nat):Nat:=l.foldl (λn b=>n*256+b) 0
theorem numN_step(l:List Nat)(k:Nat)(hk:k<l.length):numN (l.take (k+1))=numN (l.take k)*256+l.getD k 0:=by
 rw[List.take_succ_eq_append_getElem hk,numN,List.foldl_append,List.getD_eq_getElem?_getD,List.getElem?_eq_getElem hk];rfl
def numI(n:Nat):Int:=wrap64 (n:Int)
theorem or_low(x b:Nat)(hb:b<256):(x*256)|||b=x*256+b:=by
 have:=Nat.shiftLeft_add_eq_or_of_lt (i:=8) (b:=b) (by omega) x
 rw[Nat.shiftLeft_eq]at this
 exact this.symm
theorem i64_or(n b:Nat)(hb:b<256):bits .or .i64 (wrap64 (numI n*256)) (b:Int)=numI (n*256+b):=by
 have h1:(BitVec.ofInt 64 (wrap64 (wrap64 (n:Int)*256))).toNat=(n % 72057594037927936)*256:=by
  rw[BitVec.toNat_ofInt]
  unfold wrap64
  have:((2^64:Nat):Int)=18446744073709551616:=by decide
  rw[this]
  omega
 have h2:(BitVec.ofInt 64 (b:Int)).toNat=b:=by
  rw[BitVec.ofInt_natCast,BitVec.toNat_ofNat];exact Nat.mod_eq_of_lt (by omega)
 show IntKind.i64.wrap ((BitVec.ofInt 64 (wrap64 (wrap64 (n:Int)*256))|||BitVec.ofInt 64 (b:Int)).toNat:Int)=wrap64 ((n*256+b:Nat):Int)
 rw[BitVec.toNat_or,h1,h2,or_low _ _ hb,IntKind.wrap_i64]
 unfold wrap64
 omega
def openT(key s:List Nat):List Nat:=xor key ((s.drop 8).take 12) ((s.drop 20).take 201)
def openText(key s:List Nat):List Nat:=((openT key s).drop 1).take (min ((openT key s).getD 0 0) 200)
def openVer(s:List Nat):Int:=numI (numN (s.take 8))
def openB(key:List Nat)(id:Int)(s:List Nat):Prop:=tagP key id (s.take 221)=(s.drop 221).take 16
end Go.Cof
namespace Go.Proofs.YtnmhgehpddipdaaGreatDoor
open Go.RowKit Go.Cof
abbrev sameB(a b:ByteArray):Bool:= @BEq.beq (List UInt8) (@List.instBEq UInt8 instBEqOfDecidableEq) a.toList b.toList
theorem toList_ne{a b:ByteArray}(h:a≠b):sameB a b=false:=by
 unfold sameB
 rw[beq_eq_false_iff_ne,ByteArray.toList_eq,ByteArray.toList_eq]
 exact λe=>h (bs_inj (by rw[bs,bs,e]))
theorem toList_same(a:ByteArray):sameB a a=true:=by
 unfold sameB
 exact beq_self_eq_true _
set_option maxRecDepth 100000 in
set_option maxHeartbeats 4000000 in
theorem open_bad(key:ByteArray)(id:Int)(s:ByteArray)(hk:key.size=32)(hs:237<=s.size)(hs2:s.size<=1000)(hb:¬openB (bs key) id (bs s))(w:World)(V:RoundsVar w):
  Calls Tryz.prog 142 #[.string key,.int .i64 id,.string s] w λe w'=>e= .returned (.tuple #[.int .i64 0,.string ⟨#[]⟩,.iface 40 (.int .i64 15)])∧Keep NoB w w':=by
 have b1:((key.size:Int) !=32)=false:=by rw[hk];rfl
 have b2:decide ((s.size:Int)<237)=false:=by simp;omega
 have b3:(221:Int)<=s.size:=by omega
 have b4:(237:Int)<=s.size:=by omega
 obtain⟨C,hC⟩:∃C,C=s.extract 0 221:=⟨_,rfl⟩
 obtain⟨M,hM⟩:∃M,M=s.extract 221 237:=⟨_,rfl⟩
 obtain⟨G,hG⟩:∃G,G=txt (tagP (bs key) id (bs C)):=⟨_,rfl⟩
 have hCs:C.size<=1000:=by rw[hC,ByteArray.size_extract];omega
 have ht:=tag_any key id C (by omega) hCs
 rw[<-hG]at ht
 have hne:G≠M:=λe=>hb (by
  have:=congrArg bs e
  rw[hG,bs_txt (tagP_bytes _ _ _),hC,hM,bs_extract,bs_extract,List.drop_zero]at this
  exact this)
 have HC:=Lib.hid hC
 have HM:=Lib.hid hM
 have hq:=λX:Ext w=>ht (w.ext X) (V.keep (ext_keep w X) (λx=>x))
 rw[hC]at hq
 clear hC hM hG hk hb ht
 go_enter Tryz.func142,Tryz.ntmps142
 go_wp2_with fail
 refine wp_region_q_ext (by kernel_rfl) (by kernel_rfl) ?_
 repeat(quiet_step ((go_at_call 199;exact quiet_ext _ (hq _))))
 refine wpQuiet_nil ?_
 intro X
 rw[<-HM.out]
 have hb2:=toList_ne hne
 unfold sameB at hb2
 rw[hb2,Bool.not_false]
 go_wp2_with fail
 go_ret3
 exact⟨rfl,ext_keep w X⟩
theorem s_byte_lt(s:ByteArray)(k:Nat)(h:k<s.size):s[k].toNat<256:=s[k].toNat_lt
set_option maxRecDepth 100000 in
set_option maxHeartbeats 4000000 in
theorem open_ok(key:ByteArray)(id:Int)(s:ByteArray)(hk:key.size=32)(hs:237<=s.size)(hs2:s.size<=1000)(hb:openB (bs key) id (bs s))(w:World)(V:RoundsVar w):
  Calls Tryz.prog 142 #[.string key,.int .i64 id,.string s] w λe w'=>e= .returned (.tuple #[.int .i64 (openVer (bs s)),.string (txt (openText (bs key) (bs s))),.nilIface])∧Keep NoB w w':=by
 have b1:((key.size:Int) !=32)=false:=by rw[hk];rfl
 have b2:decide ((s.size:Int)<237)=false:=by simp;omega
 have b3:(221:Int)<=s.size:=by omega
 have b4:(237:Int)<=s.size:=by omega
 have b5:(20:Int)<=s.size:=by omega
 obtain⟨C,hC⟩:∃C,C=s.extract 0 221:=⟨_,rfl⟩
 obtain⟨M,hM⟩:∃M,M=s.extract 221 237:=⟨_,rfl⟩
 obtain⟨NN,hNN⟩:∃N,N=s.extract 8 20:=⟨_,rfl⟩
 obtain⟨XX,hXX⟩:∃N,N=s.extract 20 221:=⟨_,rfl⟩
 obtain⟨G,hG⟩:∃G,G=txt (tagP (bs key) id (bs C)):=⟨_,rfl⟩
 obtain⟨T,hT⟩:∃T,T=txt (xor (bs key) (bs NN) (bs XX)):=⟨_,rfl⟩
 have hCs:C.size<=1000:=by rw[hC,ByteArray.size_extract];omega
 have hXs:XX.size=201:=by rw[hXX,ByteArray.size_extract];omega
 have hTs:T.size=201:=by rw[hT,txt_size,xor_len,bs_len,hXs]
 have hTe:bs T=openT (bs key) (bs s):=by rw[hT,bs_txt (xor_bytes _ _ _ (bs_bytes _)),hNN,hXX,bs_extract,bs_extract,openT]
 have ht:=tag_any key id C (by omega) hCs
 rw[<-hG]at ht
 have heq:G=M:=bs_inj (by rw[hG,bs_txt (tagP_bytes _ _ _),hC,hM,bs_extract,bs_extract,List.drop_zero];exact hb)
 have hx:=xor_any key NN XX hk (by rw[hNN,ByteArray.size_extract];omega) (by omega)
 rw[<-hT]at hx
 have HC:=Lib.hid hC
 have HM:=Lib.hid hM
 have HN:=Lib.hid hNN
 have HX:=Lib.hid hXX
 have HT:=Lib.hid hTe
 have HTs:=Lib.hid hTs
 have hq:=λX:Ext w=>ht (w.ext X) (V.keep (ext_keep w X) (λx=>x))
 rw[hC]at hq
 rw[hNN,hXX]at hx
 have hM2:=hM
 rw[<-heq]at hM2
 have HM2:=Lib.hid hM2
 clear hC hM hG hk hb ht hNN hXX hT hTe heq hM2 hTs HM hXs
 go_enter Tryz.func142,Tryz.ntmps142
 go_wp2_with fail
 refine wp_region_q_ext (by kernel_rfl) (by kernel_rfl) ?_
 repeat(quiet_step ((go_at_call 199;exact quiet_ext _ (hq _))))
 refine wpQuiet_nil ?_
 intro X
 rw[<-HM2.out]
 clear hq
 have hb2:=toList_same G
 unfold sameB at hb2
 rw[hb2,Bool.not_true]
 clear hb2
 go_wp2_with fail
 refine wp_world (λw2=>Keep NoB w w2) (ext_keep w X) ?_
 clear X
 intro w2 K2
 go_loop [9,31] (λv i=>∃k:Nat,k<=8∧i= .int .i64 k∧v= .int .i64 (numI (numN ((bs s).take k)))) (λ_ i=>8-(intOf i).toNat)
 case atStart=>exact⟨0,by omega,rfl,by rw[List.take_zero];show _=Value.int .i64 (wrap64 ((0:Nat):Int));unfold wrap64;rfl⟩
 case round=>
  obtain⟨k,hk,rfl,rfl⟩:=hrel
  by_cases hlt:k<8
  ·have j1:(k:Int)<8:=by omega
   have hks:k<s.size:=by omega
   have hki:(k:Int)<s.size:=by omega
   have hstep:=numN_step (bs s) k (by rw[bs_len];exact hks)
   rw[bs_getD s k hks]at hstep
   have hor:=i64_or (numN ((bs s).take k)) s[k].toNat s[k].toNat_lt
   rw[<-hstep]at hor
   have Hst:=Lib.hid hstep
   have Hor:=Lib.hid hor
   clear hstep hor
   have hw8:=s_byte_lt s k hks
   go_wp2_with fail
   exact⟨⟨k+1,by omega,by go_num,by rw[Hor.out]⟩,by simp[intOf];omega⟩
  ·obtain rfl:k=8:=by omega
   go_wp2_with fail
   have hq:=λX:Ext w2=>hx (w2.ext X)
   clear hx
   refine wp_region_q_ext (by kernel_rfl) (by kernel_rfl) ?_
   repeat(quiet_step ((go_at_call 200;exact quiet_ext _ (hq _))))
   refine wpQuiet_nil ?_
   intro X
   clear hq
   have t1:(0:Int)<T.size:=by rw[HTs.out];decide
   have t2:0<T.size:=by rw[HTs.out];decide
   obtain⟨b0,hb0⟩:∃b,b=T[0].toNat:=⟨_,rfl⟩
   have hb1:b0<256:=by rw[hb0];exact T[0].toNat_lt
   obtain⟨m,hm⟩:∃m,m=min b0 200:=⟨_,rfl⟩
   have hm1:m<=200:=by omega
   have hm2:min (b0:Int) 200=(m:Int):=by omega
   have hm3:(1:Int)+(m:Int)<=T.size:=by rw[HTs.out];omega
   have hbT:bs T=openT (bs key) (bs s):=HT.out
   have hfin:T.extract 1 (1+m)=txt (openText (bs key) (bs s)):=by
    apply bs_inj
    rw[bs_extract,hbT,openText,bs_txt (bytes_take (bytes_drop (by rw[<-hbT];exact bs_bytes T) _) _),<-hbT,bs_getD T 0 t2,<-hb0,<-hm]
    congr 1
    omega
   have Hfin:=Lib.hid hfin
   have hb0':T[0].toNat=b0:=hb0.symm
   have e0:IntKind.i64.wrap (b0:Int)=(b0:Int):=IntWalk.i64_in _ (by omega)
   have e4:(0:Int)<=1+(m:Int):=by omega
   have e1:IntKind.i64.wrap (1+(m:Int))=1+(m:Int):=IntWalk.i64_in _ (by omega)
   have e2:(1+(m:Int)).toNat=1+m:=by omega
   have e3:(1:Int)<=1+(m:Int):=by omega
   clear hfin hbT hm hb0
   go_wp2_with fail
   refine wp_region_q_ext (by kernel_rfl) (by kernel_rfl) ?_
   repeat(quiet_step (fail))
   refine wpQuiet_nil ?_
   intro Y
   go_wp2_with fail
   go_ret3
   refine⟨?_,(K2.thenN (ext_keep w2 X)).thenN (ext_keep _ Y)⟩
   rw[<-Hfin.out]
   rfl
end Go.Proofs.YtnmhgehpddipdaaGreatDoor
