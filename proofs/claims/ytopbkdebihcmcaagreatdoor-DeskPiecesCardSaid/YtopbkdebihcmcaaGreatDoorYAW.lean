import Derived.Test.YtopbkdebihcmcaaGreatDoorYAH
import Derived.Test.YtopbkdebihcmcaaGreatDoorYAU
set_option linter.unusedSimpArgs false
set_option linter.unusedVariables false
namespace Go.Proofs.YtopbkdebihcmcaaGreatDoor
open Go.RowKit
set_option maxRecDepth 100000
set_option maxHeartbeats 16000000
section
open Go.Maps Go.Sort Go.Shelf
theorem X0{w:World}{mb n:Nat}{A:List rD}(h:oJ w mb n A):
  Calls Tryz.prog 150 #[.map (some mb)] w λe w'=>e= .returned (.map (some w.heap.size))∧oJ w' w.heap.size n A∧Keep nM w w'∧w'.heap.size=w.heap.size+1:=by
 obtain⟨es,clock,hb,F,hs,hD⟩:=h;refine(AnyW.maps_Clone Tryz.cloneMap mb es clock w hb).mono ?_;rintro e w' ⟨rfl,rfl⟩;exact⟨rfl,⟨es,clock,(MapKept.heap_alloc w _).1,F,hs,hD⟩,(ah _ _).alloc _,by simp⟩
theorem zbu(m:Nat):AnyZ.SortsIn Tryz.prog Tryz.sorted112_ren Fence.wide m:=
 ⟨λblk off cap ss W hH hblk hsz=>fF.2 (AnyM.slices_Sort_string Tryz.sort152 blk off cap ss W hH hblk hsz),
   λp cap W=>fF.2 (AnyM.slices_Sort_string_none Tryz.sort152 p cap W)⟩
theorem LY(mb:Option Nat)(W:World):CallsIn Fence.wide 5 Tryz.prog 113 #[.map mb] W λe w'=>e= .returned (.func (.func 153) #[] #[.pointer (some ⟨W.heap.size,0,none⟩)])∧w'=W.alloc (.cells #[.map mb] 89):=
 AnyZ.keys_in Tryz.keys113 Fence.wide 5 trivial rfl mb W
theorem Ia{b nn:Nat}{A:List rD}{w:World}(hown:oJ w b nn A)(hmax:A.length<=1000000):
  CallsIn Fence.wide 5 Tryz.prog 112 #[.func (.func 153) #[] #[.pointer (some ⟨w.heap.size,0,none⟩)]] (w.alloc (.cells #[.map (some b)] 89)) λe w'=>∃(v:Value) (ss:List (List UInt8)),e= .returned v∧ss.Perm (strKeys (Go.Proofs.YtopbkdebihcmcaaGreatDoor.encS A))∧
   w'.ownsRow (w.alloc (.cells #[.map (some b)] 89)).heap.size 9 1 v ss.length ((ss.mergeSort (λx y=>decide (x<=y))).map encStr)∧(v= .slice none 0 0↔ss= [])∧Below (w.alloc (.cells #[.map (some b)] 89)).heap.size (w.alloc (.cells #[.map (some b)] 89)) w':=by
 have hown:w.ownsMap Tryz.prog 9 zh0 b nn (Go.Proofs.YtopbkdebihcmcaaGreatDoor.encS A):=hown;have hbl:=hown.lt;have hsz:Maps.size (Go.Proofs.YtopbkdebihcmcaaGreatDoor.encS A)=A.length:=aI ..;have znY:Maps.size (Go.Proofs.YtopbkdebihcmcaaGreatDoor.encS A)<=maxLen:=by rw[hsz];unfold maxLen;omega
 have hbytes:Maps.size (Go.Proofs.YtopbkdebihcmcaaGreatDoor.encS A)*16<=140737488355328:=by rw[hsz];omega
 have hseq:SeqGives Fence.wide 2 Tryz.prog 153 #[.pointer (some ⟨w.heap.size,0,none⟩)] encStr (λss=>ss.Perm (strKeys (Go.Proofs.YtopbkdebihcmcaaGreatDoor.encS A))) (Maps.size (Go.Proofs.YtopbkdebihcmcaaGreatDoor.encS A)) (w.alloc (.cells #[.map (some b)] 89)):=
  AnyZ.keys_gives (ρ:=Tryz.keys113_ren) { Tryz.keys113 with } Fence.wide _ trivial rfl (by omega) w.heap.size b nn (Go.Proofs.YtopbkdebihcmcaaGreatDoor.encS A) _ (by simp) (by simp) (by obtain⟨es,clock,hb,Ft,hs,hD⟩:=hown;exact⟨es,clock,(kK _ _ b hbl).trans hb,Ft,hs,hD⟩)
 exact AnyZ.sorted_in Tryz.sorted112 Fence.wide 5 trivial trivial trivial trivial rfl (by omega) (zbu _) (enters_of Tryz.func152 (by kernel_rfl) rfl) 153 #[.pointer (some ⟨w.heap.size,0,none⟩)] trivial (enters_of Tryz.func153 (by kernel_rfl) rfl) _ _ znY hbytes _ hseq
end
section
open Go.Maps Go.Sort Go.Shelf Go.Proofs
theorem Dn:∀a b:List UInt8,bytesBefore a b=true->a<b
 | [],[],h=>by simp[bytesBefore]at h
 | [],_::_,_=>List.nil_lt_cons _ _
 | _::_,[],h=>by simp[bytesBefore]at h
 | x::a,y::b,h=>by
  simp only[bytesBefore,dP,aZ,aS,jP]at h;rw[List.cons_lt_cons_iff];rcases h with h|⟨h1,h2⟩
  ·exact .inl h
  ·exact .inr ⟨h1,Dn a b h2⟩
def Gh(A:List rD):List (List UInt8):=A.map λp=>p.1.data.toList
theorem GM(A:List rD):strKeys (Go.Proofs.YtopbkdebihcmcaaGreatDoor.encS A)=Gh A:=by show(A.map CY).map (λp=>strOf p.1)=_;rw[fU];rfl
theorem Ls{A:List rD}(hr:A.Pairwise (λp q=>JF p.1 q.1=true)){ss:List (List UInt8)}(hp:ss.Perm (strKeys (Go.Proofs.YtopbkdebihcmcaaGreatDoor.encS A))):(ss.mergeSort (λx y=>decide (x<=y)))=Gh A:=by
 rw[GM]at hp;have tr:∀a b c:List UInt8,decide (a<=b)=true->decide (b<=c)=true->decide (a<=c)=true:=λa b c h1 h2=>by simp only[aS]at h1 h2⊢;exact List.le_trans h1 h2
 have to:∀a b:List UInt8,(decide (a<=b)||decide (b<=a))=true:=λa b=>by simp only[dP,aS];exact List.le_total a b
 have hs:(Gh A).Pairwise (λa b=>decide (a<=b)=true):=by
  unfold Gh;rw[dR];refine hr.imp fun {p q} h=> ?_
  simp only[aS];exact List.le_of_lt (Dn _ _ h)
 refine List.Perm.eq_of_pairwise (le:=λa b=>decide (a<=b)=true) (λa b _ _ h1 h2=> ?_) (lI tr to ss) hs ((gp ss _).trans hp);simp only[aS]at h1 h2;exact List.le_antisymm h1 h2
theorem O7(A:List rD):(Gh A).map encStr=(A.map (·.1)).map Value.string:=by unfold Gh;rw[fU,fU];refine iP λp _=> ?_;simp[encStr,Function.comp]
theorem VP(A:List rD):(Gh A).length=(A.map (·.1)).length:=by simp[Gh]
end
end Go.Proofs.YtopbkdebihcmcaaGreatDoor
