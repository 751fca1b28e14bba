import Derived.Test.YtnmhgehpddipdaaGreatDoorYAD
import Derived.Test.YtnmhgehpddipdaaGreatDoorYBA
import Derived.Sort.OwnSortedInts
set_option linter.unusedSimpArgs false
set_option linter.unusedVariables false
namespace Go.Proofs.YtnmhgehpddipdaaGreatDoor
open Go.RowKit Go.Cof
set_option maxRecDepth 100000 in
theorem insertion_nil(w:World):Calls Tryz.prog 259 #[.slice none 0 0,.int .i64 0,.int .i64 0] w λe w'=>e= .returned (.tuple #[])∧w'=w:=by
 go_enter Tryz.func259,Tryz.ntmps259
 go_wp2_with fail
 refine wp_loop_rounds 1 ?_
 rw[rounds_succ]
 go_wp2_with fail
 go_end0
 exact⟨rfl,rfl⟩
set_option maxRecDepth 100000 in
theorem pdq_nil(w:World)(l:Int):Calls Tryz.prog 216 #[.slice none 0 0,.int .i64 0,.int .i64 0,.int .i64 l] w λe w'=>e= .returned (.tuple #[])∧w'=w:=by
 go_enter Tryz.func216,Tryz.ntmps216
 go_wp2_with fail
 refine wp_loop_rounds 1 ?_
 rw[rounds_succ]
 go_wp2_with fail
 refine(insertion_nil _).mono ?_
 rintro e w1 ⟨rfl,hw⟩
 subst hw
 go_wp2_with fail
 (try simp only[Exit.inBlock,Exit.then])
 refine bodyPost_ret (results_none rfl _ _ _) rfl ?_
 exact⟨rfl,rfl⟩
set_option maxRecDepth 100000 in
set_option maxHeartbeats 4000000 in
theorem sort_nil(w:World):Calls Tryz.prog 156 #[.slice none 0 0] w λe w'=>e= .returned (.tuple #[])∧Keep NoB w w':=by
 go_enter Tryz.func156,Tryz.ntmps156
 go_wp2_with fail
 refine(Tryz.bits_Len 0 w (by decide) (by decide)).mono ?_
 rintro e w1 ⟨rfl,hw⟩
 subst hw
 go_wp2_with fail
 refine(pdq_nil _ _).mono ?_
 rintro e w2 ⟨rfl,hw⟩
 subst hw
 go_wp2_with fail
 go_end0
 exact⟨rfl,Keep.refl _ _⟩
def sortI(L:List Int):List Int:=L.mergeSort λx y=>decide (x<=y)
theorem sort_ids(w:World)(base:Nat)(v:Value)(L:List Int)(h:w.ownsRow base 3 1 v L.length (L.map (Value.int .i64)))(hl:L.length<=1000000)(hnil:L= []->v= .slice none 0 0):
  Calls Tryz.prog 156 #[v] w λe w'=>e= .returned (.tuple #[])∧w'.ownsRow base 3 1 v L.length ((sortI L).map (Value.int .i64))∧Keep (λb=>v.ownBlock=some b) w w':=by
 by_cases h0:L= []
 ·have hv:=hnil h0
  subst h0
  subst hv
  refine(sort_nil w).mono ?_
  rintro e w' ⟨rfl,K⟩
  exact⟨rfl,⟨by simp[sortI],.inl ⟨rfl,rfl⟩⟩,K.ofN⟩
 ·have hpos:0<L.length:=List.length_pos_iff.2 h0
  rcases h.2 with⟨_,hz⟩|⟨g,cap,cur,hv,hg,hb,hn,hcap,hsz,ht⟩
  ·omega
  ·subst hv
   have hH:=holds_of_blockI (ss:=L) hb (by simpa using ht)
   have hms:(sortI L).length=L.length:=List.length_mergeSort _
   refine(Tryz.slices_Sort_int g 0 cap L w hH (lt_of_heap hb) (by omega)).mono ?_
   rintro e w' ⟨rfl,n,os,rfl⟩
   have hown:=ownsRow_sortedI (n:=n) (os:=os) (ts:=sortI L) hms hg hb hn hcap hsz
   have hgr:=grownBy_sortedI (w:=w) (g:=g) (n:=n) (os:=os) (sortI L).toArray
   exact⟨rfl,hown,(Keep.refl _ _).grown hgr (λk hk=> .inl (by rw[<-hk];rfl))⟩
end Go.Proofs.YtnmhgehpddipdaaGreatDoor
