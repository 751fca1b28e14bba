import Derived.Test.YtnmhgehpddipdaaGreatDoorYAH
import Derived.Test.YtnmhgehpddipdaaGreatDoorYAU
import Derived.Shelf.SlIter.Nil
import Derived.Shelf.SortM.Plain
import Derived.Shelf.SortM.SortNone
import Derived.Shelf.SlMaps.Clone
set_option linter.unusedSimpArgs false
set_option linter.unusedVariables false
namespace Go.Proofs.YtnmhgehpddipdaaGreatDoor
open Go.RowKit Go.Cof Go.Maps Go.Sort Go.Shelf
theorem cloneMap_any{w:World}{mb n:Nat}{A:List SEnt}(h:SMapIs w mb n A):
  Calls Tryz.prog 83 #[.map (some mb)] w λe w'=>e= .returned (.map (some w.heap.size))∧SMapIs w' w.heap.size n A∧Keep NoB w w'∧w'.heap.size=w.heap.size+1:=by
 obtain⟨es,clock,hb,F,hs,hD⟩:=h
 refine(AnyW.maps_Clone Tryz.cloneMap mb es clock w hb).mono ?_
 rintro e w' ⟨rfl,rfl⟩
 exact⟨rfl,⟨es,clock,(MapKept.heap_alloc w _).1,F,hs,hD⟩,(Keep.refl _ _).alloc _,by simp⟩
theorem sortStr_in(m:Nat):AnyZ.SortsIn Tryz.prog Tryz.sorted37_ren Fence.wide m:=
 ⟨λblk off cap ss W hH hblk hsz=>callsIn_wide.2 (AnyM.slices_Sort_string Tryz.sort85 blk off cap ss W hH hblk hsz),
   λp cap W=>callsIn_wide.2 (AnyM.slices_Sort_string_none Tryz.sort85 p cap W)⟩
theorem keysItem_any(mb:Option Nat)(W:World):CallsIn Fence.wide 5 Tryz.prog 38 #[.map mb] W λe w'=>e= .returned (.func (.func 86) #[] #[.pointer (some ⟨W.heap.size,0,none⟩)])∧w'=W.alloc (.cells #[.map mb] 81):=
 AnyZ.keys_in Tryz.keys38 Fence.wide 5 trivial rfl mb W
set_option maxHeartbeats 1000000 in
theorem sortedKeys_any{b nn:Nat}{A:List SEnt}{w:World}(hown:SMapIs w b nn A)(hmax:A.length<=1000000):
  CallsIn Fence.wide 5 Tryz.prog 37 #[.func (.func 86) #[] #[.pointer (some ⟨w.heap.size,0,none⟩)]] (w.alloc (.cells #[.map (some b)] 81)) λe w'=>∃(v:Value) (ss:List (List UInt8)),e= .returned v∧ss.Perm (strKeys (Go.Cof.encS A))∧
   w'.ownsRow (w.alloc (.cells #[.map (some b)] 81)).heap.size 9 1 v ss.length ((ss.mergeSort (λx y=>decide (x<=y))).map encStr)∧(v= .slice none 0 0↔ss= [])∧Below (w.alloc (.cells #[.map (some b)] 81)).heap.size (w.alloc (.cells #[.map (some b)] 81)) w':=by
 have hown:w.ownsMap Tryz.prog 9 rawE b nn (Go.Cof.encS A):=hown
 have hbl:=hown.lt
 have hsz:Maps.size (Go.Cof.encS A)=A.length:=List.length_map ..
 have hmax':Maps.size (Go.Cof.encS A)<=maxLen:=by rw[hsz];unfold maxLen;omega
 have hbytes:Maps.size (Go.Cof.encS A)*16<=140737488355328:=by rw[hsz];omega
 have hseq:SeqGives Fence.wide 2 Tryz.prog 86 #[.pointer (some ⟨w.heap.size,0,none⟩)] encStr (λss=>ss.Perm (strKeys (Go.Cof.encS A))) (Maps.size (Go.Cof.encS A)) (w.alloc (.cells #[.map (some b)] 81)):=
  AnyZ.keys_gives (ρ:=Tryz.keys38_ren) { Tryz.keys38 with } Fence.wide _ trivial rfl (by omega) w.heap.size b nn (Go.Cof.encS A) _ (by simp) (by simp) (by
   obtain⟨es,clock,hb,Ft,hs,hD⟩:=hown
   exact⟨es,clock,(Below.heap_alloc _ _ b hbl).trans hb,Ft,hs,hD⟩)
 exact AnyZ.sorted_in Tryz.sorted37 Fence.wide 5 trivial trivial trivial trivial rfl (by omega) (sortStr_in _) (enters_of Tryz.func85 (by kernel_rfl) rfl) 86 #[.pointer (some ⟨w.heap.size,0,none⟩)] trivial (enters_of Tryz.func86 (by kernel_rfl) rfl) _ _ hmax' hbytes _ hseq
end Go.Proofs.YtnmhgehpddipdaaGreatDoor
namespace Go.Cof
open Go.RowKit Go.Maps Go.Sort Go.Shelf Go.Proofs Go.Proofs.YtnmhgehpddipdaaGreatDoor
theorem lt_of_bytes:∀a b:List UInt8,bytesBefore a b=true->a<b
 | [],[],h=>by simp[bytesBefore]at h
 | [],_::_,_=>List.nil_lt_cons _ _
 | _::_,[],h=>by simp[bytesBefore]at h
 | x::a,y::b,h=>by
  simp only[bytesBefore,Bool.or_eq_true,Bool.and_eq_true,decide_eq_true_eq,beq_iff_eq]at h
  rw[List.cons_lt_cons_iff]
  rcases h with h|⟨h1,h2⟩
  ·exact .inl h
  ·exact .inr ⟨h1,lt_of_bytes a b h2⟩
def namesL(A:List SEnt):List (List UInt8):=A.map λp=>p.1.data.toList
theorem strKeys_enc(A:List SEnt):strKeys (Go.Cof.encS A)=namesL A:=by
 show(A.map encV).map (λp=>strOf p.1)=_
 rw[List.map_map]
 rfl
theorem sorted_names{A:List SEnt}(hr:A.Pairwise (λp q=>blB p.1 q.1=true)){ss:List (List UInt8)}(hp:ss.Perm (strKeys (Go.Cof.encS A))):(ss.mergeSort (λx y=>decide (x<=y)))=namesL A:=by
 rw[strKeys_enc]at hp
 have tr:∀a b c:List UInt8,decide (a<=b)=true->decide (b<=c)=true->decide (a<=c)=true:=λa b c h1 h2=>by
  simp only[decide_eq_true_eq]at h1 h2⊢
  exact List.le_trans h1 h2
 have to:∀a b:List UInt8,(decide (a<=b)||decide (b<=a))=true:=λa b=>by
  simp only[Bool.or_eq_true,decide_eq_true_eq]
  exact List.le_total a b
 have hs:(namesL A).Pairwise (λa b=>decide (a<=b)=true):=by
  unfold namesL
  rw[List.pairwise_map]
  refine hr.imp fun {p q} h=> ?_
  simp only[decide_eq_true_eq]
  exact List.le_of_lt (lt_of_bytes _ _ h)
 refine List.Perm.eq_of_pairwise (le:=λa b=>decide (a<=b)=true) (λa b _ _ h1 h2=> ?_) (List.pairwise_mergeSort tr to ss) hs ((List.mergeSort_perm ss _).trans hp)
 simp only[decide_eq_true_eq]at h1 h2
 exact List.le_antisymm h1 h2
theorem names_cells(A:List SEnt):(namesL A).map encStr=(A.map (·.1)).map Value.string:=by
 unfold namesL
 rw[List.map_map,List.map_map]
 refine List.map_congr_left λp _=> ?_
 simp[encStr,Function.comp]
theorem names_len(A:List SEnt):(namesL A).length=(A.map (·.1)).length:=by simp[namesL]
end Go.Cof
