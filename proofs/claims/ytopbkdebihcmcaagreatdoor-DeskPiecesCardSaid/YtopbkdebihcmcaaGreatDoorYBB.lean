import Derived.Test.YtopbkdebihcmcaaGreatDoorYAD
import Derived.Test.YtopbkdebihcmcaaGreatDoorYAZ
import Derived.Sort.OwnSortedInts
set_option linter.unusedSimpArgs false
set_option linter.unusedVariables false
namespace Go.Proofs.YtopbkdebihcmcaaGreatDoor
open Go.RowKit
set_option maxRecDepth 100000
set_option maxHeartbeats 16000000
theorem UT(w:World):Calls Tryz.prog 263 #[.slice none 0 0,.int .i64 0,.int .i64 0] w λe w'=>e= .returned (.tuple #[])∧w'=w:=by go_enter Tryz.func263,Tryz.ntmps263;go_wp2_with fail;refine lN 1 ?_;rw[lZ];go_wp2_with fail;go_end0;exact⟨rfl,rfl⟩
theorem ziQ(w:World)(l:Int):Calls Tryz.prog 236 #[.slice none 0 0,.int .i64 0,.int .i64 0,.int .i64 l] w λe w'=>e= .returned (.tuple #[])∧w'=w:=by go_enter Tryz.func236,Tryz.ntmps236;go_wp2_with fail;refine lN 1 ?_;rw[lZ];go_wp2_with fail;refine(UT _).mono ?_;rintro e w1 ⟨rfl,hw⟩;subst hw;go_wp2_with fail;(try simp only[Exit.inBlock,Exit.then]);refine dW (jm rfl _ _ _) rfl ?_;exact⟨rfl,rfl⟩
theorem zgF(w:World):Calls Tryz.prog 195 #[.slice none 0 0] w λe w'=>e= .returned (.tuple #[])∧Keep nM w w':=by go_enter Tryz.func195,Tryz.ntmps195;go_wp2_with fail;refine(Tryz.bits_Len 0 w (by decide) (by decide)).mono ?_;rintro e w1 ⟨rfl,hw⟩;subst hw;go_wp2_with fail;refine(ziQ _ _).mono ?_;rintro e w2 ⟨rfl,hw⟩;subst hw;go_wp2_with fail;go_end0;exact⟨rfl,ah _ _⟩
def Aj(L:List Int):List Int:=L.mergeSort λx y=>decide (x<=y)
theorem zgG(w:World)(base:Nat)(v:Value)(L:List Int)(h:w.ownsRow base 3 1 v L.length (L.map (Value.int .i64)))(hl:L.length<=1000000)(hnil:L= []->v= .slice none 0 0):
  Calls Tryz.prog 195 #[v] w λe w'=>e= .returned (.tuple #[])∧w'.ownsRow base 3 1 v L.length ((Aj L).map (Value.int .i64))∧Keep (λb=>v.ownBlock=some b) w w':=by
 by_cases h0:L= []
 ·have hv:=hnil h0;subst h0;subst hv;refine(zgF w).mono ?_;rintro e w' ⟨rfl,K⟩;exact⟨rfl,⟨by simp[Aj],.inl ⟨rfl,rfl⟩⟩,K.vN⟩
 ·have hpos:0<L.length:=kV.2 h0;rcases h.2 with⟨_,hz⟩|⟨g,cap,cur,hv,hg,hb,hn,hcap,hsz,ht⟩
  ·omega
  ·subst hv;have hH:=holds_of_blockI (ss:=L) hb (by simpa using ht);have hms:(Aj L).length=L.length:=kz _;refine(Tryz.slices_Sort_int g 0 cap L w hH (lt_of_heap hb) (by omega)).mono ?_;rintro e w' ⟨rfl,n,os,rfl⟩;have hown:=ownsRow_sortedI (n:=n) (os:=os) (ts:=Aj L) hms hg hb hn hcap hsz;have hgr:=grownBy_sortedI (w:=w) (g:=g) (n:=n) (os:=os) (Aj L).toArray;exact⟨rfl,hown,(ah _ _).grown hgr (λk hk=> .inl (by rw[<-hk];rfl))⟩
end Go.Proofs.YtopbkdebihcmcaaGreatDoor
