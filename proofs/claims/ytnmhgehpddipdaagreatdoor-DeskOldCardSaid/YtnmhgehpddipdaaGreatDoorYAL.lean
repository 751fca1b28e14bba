import Derived.Test.YtnmhgehpddipdaaGreatDoorYAD
import Derived.Test.YtnmhgehpddipdaaGreatDoorYAK
import Derived.Deep.MidRow
set_option linter.unusedSimpArgs false
set_option linter.unusedVariables false
namespace Go.Cof
open Go.RowKit
theorem be64_len(n:Nat):(be64 n).length=8:=be64To_len n 8
def nonceP(key:List Nat)(id ver:Int)(text:List Nat):List Nat:=(Cof.mark 110 [key,be64 (u64n id),be64 (u64n ver),text]).take 12
def tagP(key:List Nat)(id:Int)(s:List Nat):List Nat:=Cof.mark 103 [key,be64 (u64n id),s]
def pmarkP(id ver:Int)(text:List Nat):List Nat:=Cof.mark 112 [be64 (u64n id),be64 (u64n ver),text]
theorem mark_len(k:Nat)(l:List (List Nat)):(Cof.mark k l).length=16:=by rw[Cof.mark,List.length_take,sha_len];rfl
theorem mark_bytes(k:Nat)(l:List (List Nat)):Bytes (Cof.mark k l):=bytes_take (sha_bytes _) _
end Go.Cof
namespace Go.Proofs.YtnmhgehpddipdaaGreatDoor
open Go.RowKit Go.Cof
theorem be64_bytes(n:Nat):Bytes (be64 n):=be64To_bytes n 8
set_option maxRecDepth 100000 in
theorem pageMark_any(id ver:Int)(text:ByteArray)(ht:text.size<=1000)(w:World)(V:RoundsVar w):
  Calls Tryz.prog 74 #[.int .i64 id,.int .i64 ver,.string text] w λe w'=>e= .returned (.string (txt (pmarkP id ver (bs text))))∧Keep NoB w w':=by
 obtain⟨A,hA⟩:∃A,A=txt (be64 (u64n id)):=⟨_,rfl⟩
 obtain⟨B,hB⟩:∃A,A=txt (be64 (u64n ver)):=⟨_,rfl⟩
 have bA:bs A=be64 (u64n id):=by rw[hA,bs_txt (be64_bytes _)]
 have bB:bs B=be64 (u64n ver):=by rw[hB,bs_txt (be64_bytes _)]
 have hl:(markText 112 ([A,B,text].map bs)).length<=100000:=by
  simp only[List.map_cons,List.map_nil,bA,bB,markText,List.foldl_cons,List.foldl_nil,List.length_append,List.length_cons,List.length_nil,be64_len,bs_len];omega
 have hr:Cof.mark 112 ([A,B,text].map bs)=pmarkP id ver (bs text):=by simp only[List.map_cons,List.map_nil,bA,bB];rfl
 have HA:=Lib.hid hA
 have HB:=Lib.hid hB
 have Hr:=Lib.hid hr
 have Hl:=Lib.hid hl
 clear hA hB bA bB hr hl
 go_enter Tryz.func74,Tryz.ntmps74
 go_wp2_with fail
 refine(num_int id _).mono ?_
 rw[<-HA.out]
 rintro e w1 ⟨rfl,K1⟩
 go_wp2_with fail
 refine(num_int ver _).mono ?_
 rw[<-HB.out]
 rintro e w2 ⟨rfl,K2⟩
 have K2':=K1.thenN K2
 go_wp2_with fail
 refine(mark_any 112 (by decide) _ [A,B,text] _ (V.keep (K2'.alloc _) (λx=>x)) (Strs.lit (w:=w2) [A,B,text]) Hl.out (by simp)).mono ?_
 rw[Hr.out]
 rintro e w3 ⟨rfl,K3⟩
 go_wp2_with fail
 go_ret
 exact⟨rfl,(K2'.alloc _).thenN K3⟩
set_option maxRecDepth 100000 in
theorem tag_any(key:ByteArray)(id:Int)(s:ByteArray)(hk:key.size<=1000)(hs:s.size<=1000)(w:World)(V:RoundsVar w):
  Calls Tryz.prog 199 #[.string key,.int .i64 id,.string s] w λe w'=>e= .returned (.string (txt (tagP (bs key) id (bs s))))∧Keep NoB w w':=by
 obtain⟨A,hA⟩:∃A,A=txt (be64 (u64n id)):=⟨_,rfl⟩
 have bA:bs A=be64 (u64n id):=by rw[hA,bs_txt (be64_bytes _)]
 have hl:(markText 103 ([key,A,s].map bs)).length<=100000:=by
  simp only[List.map_cons,List.map_nil,bA,markText,List.foldl_cons,List.foldl_nil,List.length_append,List.length_cons,List.length_nil,be64_len,bs_len];omega
 have hr:Cof.mark 103 ([key,A,s].map bs)=tagP (bs key) id (bs s):=by simp only[List.map_cons,List.map_nil,bA];rfl
 have HA:=Lib.hid hA
 have Hr:=Lib.hid hr
 have Hl:=Lib.hid hl
 clear hA bA hr hl
 go_enter Tryz.func199,Tryz.ntmps199
 go_wp2_with fail
 refine(num_int id _).mono ?_
 rw[<-HA.out]
 rintro e w1 ⟨rfl,K1⟩
 go_wp2_with fail
 refine(mark_any 103 (by decide) _ [key,A,s] _ (V.keep (K1.alloc _) (λx=>x)) (Strs.lit (w:=w1) [key,A,s]) Hl.out (by simp)).mono ?_
 rw[Hr.out]
 rintro e w3 ⟨rfl,K3⟩
 go_wp2_with fail
 go_ret
 exact⟨rfl,(K1.alloc _).thenN K3⟩
set_option maxRecDepth 100000 in
theorem nonce_any(key:ByteArray)(id ver:Int)(text:ByteArray)(hk:key.size<=1000)(ht:text.size<=1000)(w:World)(V:RoundsVar w):
  Calls Tryz.prog 218 #[.string key,.int .i64 id,.int .i64 ver,.string text] w λe w'=>e= .returned (.string (txt (nonceP (bs key) id ver (bs text))))∧Keep NoB w w':=by
 obtain⟨A,hA⟩:∃A,A=txt (be64 (u64n id)):=⟨_,rfl⟩
 obtain⟨B,hB⟩:∃A,A=txt (be64 (u64n ver)):=⟨_,rfl⟩
 have bA:bs A=be64 (u64n id):=by rw[hA,bs_txt (be64_bytes _)]
 have bB:bs B=be64 (u64n ver):=by rw[hB,bs_txt (be64_bytes _)]
 have hl:(markText 110 ([key,A,B,text].map bs)).length<=100000:=by
  simp only[List.map_cons,List.map_nil,bA,bB,markText,List.foldl_cons,List.foldl_nil,List.length_append,List.length_cons,List.length_nil,be64_len,bs_len];omega
 obtain⟨M,hM⟩:∃M,M=txt (Cof.mark 110 ([key,A,B,text].map bs)):=⟨_,rfl⟩
 have hMs:M.size=16:=by rw[hM,txt_size,mark_len]
 have hMe:M.extract 0 12=txt (nonceP (bs key) id ver (bs text)):=by
  apply bs_inj
  rw[bs_extract,hM,bs_txt (mark_bytes _ _),List.drop_zero,nonceP,bs_txt (bytes_take (mark_bytes _ _) _)]
  simp only[List.map_cons,List.map_nil,bA,bB]
 have hMi:(12:Int)<=M.size:=by omega
 have HA:=Lib.hid hA
 have HB:=Lib.hid hB
 have HM:=Lib.hid hM
 have HMe:=Lib.hid hMe
 have Hl:=Lib.hid hl
 clear hA hB bA bB hM hMs hMe hl
 go_enter Tryz.func218,Tryz.ntmps218
 go_wp2_with fail
 refine(num_int id _).mono ?_
 rw[<-HA.out]
 rintro e w1 ⟨rfl,K1⟩
 go_wp2_with fail
 refine(num_int ver _).mono ?_
 rw[<-HB.out]
 rintro e w2 ⟨rfl,K2⟩
 have K2':=K1.thenN K2
 go_wp2_with fail
 refine(mark_any 110 (by decide) _ [key,A,B,text] _ (V.keep (K2'.alloc _) (λx=>x)) (Strs.lit (w:=w2) [key,A,B,text]) Hl.out (by simp)).mono ?_
 rw[<-HM.out]
 rintro e w3 ⟨rfl,K3⟩
 go_wp2_with fail
 go_ret
 exact⟨congrArg (λt=>Ending.returned (.string t)) HMe.out,(K2'.alloc _).thenN K3⟩
end Go.Proofs.YtnmhgehpddipdaaGreatDoor
