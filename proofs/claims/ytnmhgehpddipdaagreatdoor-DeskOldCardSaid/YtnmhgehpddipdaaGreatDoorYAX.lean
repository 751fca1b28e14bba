import Derived.Test.YtnmhgehpddipdaaGreatDoorYAT
import Derived.Test.YtnmhgehpddipdaaGreatDoorYAV
import Derived.Laws.StructEq
set_option linter.unusedSimpArgs false
set_option linter.unusedVariables false
namespace Go.Proofs.YtnmhgehpddipdaaGreatDoor
open Go.RowKit Go.Cof Go.Sort Go.Shelf
theorem eq_found(x y:FoundV)(w:World):(Op.equalIn 10000 55 (.agg (encF x).toArray) (.agg (encF y).toArray)).run Tryz.prog w= .ok (decide (x=y)) w:=by
 have u3:=Tryz.underlying3
 have u9:=Tryz.underlying9
 have a3:=Tryz.isAgg3
 have z3:=Tryz.sizeOf3
 have a9:=Tryz.isAgg9
 have z9:=Tryz.sizeOf9
 have hS:Tryz.prog.underlying 55=some (.struct (Tryz.prog.fieldsOf 55)):=by kernel_rfl
 have hp:Tryz.prog.stoodInHeld 55=false:=by kernel_rfl
 obtain⟨a,b⟩:=x
 obtain⟨c,d⟩:=y
 simp only[encF]
 rw[show(10000:Nat)=9999+1 from rfl,run_equalIn_agg w 9999 55 _ _ hS hp]
 simp only[Program.fieldsOf,Tryz.underlying55]
 have hs:(@BEq.beq (List UInt8) (@List.instBEq UInt8 instBEqOfDecidableEq) a.toList c.toList)=decide (a=c):=by
  by_cases h:a=c
  ·rw[decide_eq_true h,h];exact beq_self_eq_true _
  ·rw[decide_eq_false h];exact beq_eq_false_iff_ne.2 λe=>h (toList_inj e)
 go_simp
 by_cases h1:a=c<;>by_cases h2:b=d<;>simp[h1,h2,hs]
theorem take_snoc_eq{α:Type}(xs ys:List α)(k:Nat)(x y:α)(hx:xs[k]? =some x)(hy:ys[k]? =some y)(h:xs.take k=ys.take k):xs.take (k+1)=ys.take (k+1)↔x=y:=by
 have hxl:=(List.getElem?_eq_some_iff.1 hx).1
 have hyl:=(List.getElem?_eq_some_iff.1 hy).1
 rw[List.take_succ_eq_append_getElem hxl,List.take_succ_eq_append_getElem hyl,(List.getElem?_eq_some_iff.1 hx).2,(List.getElem?_eq_some_iff.1 hy).2,h]
 simp
set_option maxRecDepth 100000 in
set_option maxHeartbeats 4000000 in
theorem equalFound_any(vx vy:Value)(xs ys:List FoundV)(w:World)(X:RowsK w vx 2 encF xs)(Y:RowsK w vy 2 encF ys)(hx:xs.length<=1000000)(hy:ys.length<=1000000):
  Calls Tryz.prog 18 #[vx,vy] w λe w'=>e= .returned (.bool (decide (xs=ys)))∧∃q,w'=w.drewN q:=by
 obtain⟨px,cx,rfl⟩:=X.len
 obtain⟨py,cy,rfl⟩:=Y.len
 have hgt:Tryz.prog.eqGuardType Tryz.prog.depth 55=false:=by kernel_rfl
 by_cases hl:xs.length=ys.length
 ·obtain⟨n,hn⟩:∃n,n=xs.length:=⟨_,rfl⟩
  have hn2:n=ys.length:=hn.trans hl
  rw[<-hn]at X hx
  rw[<-hn2]at Y hy
  rw[<-hn,<-hn2]
  have Hn:=Lib.hid hn
  have Hn2:=Lib.hid hn2
  clear hn hn2 hl
  go_enter Tryz.func18,Tryz.ntmps18
  go_wp2_with fail
  go_loopw [13] (λi wr=>∃k:Nat,k<=n∧i= .int .i64 k∧Hid (xs.take k=ys.take k)∧∃q,wr=w.drewN q) (λi _=>n-(intOf i).toNat)
  case atStart=>exact⟨0,by omega,rfl,Lib.hid rfl,0,rfl⟩
  case round=>
   obtain⟨k,hk,rfl,hpre,q,rfl⟩:=hrel
   by_cases hlt:k<n
   ·have j1:(k:Int)<n:=by omega
    obtain⟨bx,ox,rfl,-,hbx,hcx⟩:=X.at (by have:=Hn.out;omega)
    obtain⟨by_,oy,rfl,-,hby,hcy⟩:=Y.at (by have:=Hn2.out;omega)
    obtain⟨x,hx1⟩:∃x,xs[k]? =some x:=⟨_,List.getElem?_eq_getElem (by have:=Hn.out;omega)⟩
    obtain⟨y,hy1⟩:∃y,ys[k]? =some y:=⟨_,List.getElem?_eq_getElem (by have:=Hn2.out;omega)⟩
    have rx:=hcx k x hx1
    have ry:=hcy k y hy1
    have hs:=take_snoc_eq xs ys k x y hx1 hy1 hpre.out
    have heq:=λw=>eq_found x y w
    obtain⟨a,b⟩:=x
    obtain⟨c,d⟩:=y
    have c0:w.cell? ⟨bx,ox+k*2,none⟩=some (.string a):=rx 0 _ rfl
    have c1:w.cell? ⟨bx,ox+k*2+1,none⟩=some (.int .i64 b):=rx 1 _ rfl
    have d0:w.cell? ⟨by_,oy+k*2,none⟩=some (.string c):=ry 0 _ rfl
    have d1:w.cell? ⟨by_,oy+k*2+1,none⟩=some (.int .i64 d):=ry 1 _ rfl
    simp only[encF]at heq
    obtain⟨B,hB⟩:∃B,B=decide ((a,b)=(c,d)):=⟨_,rfl⟩
    rw[<-hB]at heq
    have HB:=Lib.hid hB
    have Hs:=Lib.hid hs
    have Hx1:=Lib.hid hx1
    have Hy1:=Lib.hid hy1
    clear hcx hcy rx ry hs hB hx1 hy1
    cases B with
    | true=>
     go_wp2_with fail
     go_quiet (fail)
     go_wp2_with fail
     refine⟨⟨k+1,by omega,by go_num,Lib.hid ?_,_,rfl⟩,by simp[intOf];omega⟩
     exact Hs.out.2 (of_decide_eq_true HB.out.symm)
    | false=>
     have hne:xs≠ys:=λe=>by
      have h1:=Hx1.out
      have h2:=Hy1.out
      rw[e,h2]at h1
      have:=HB.out
      rw[Option.some.inj h1]at this
      simp at this
     have Hne:=Lib.hid (decide_eq_false hne)
     clear hne
     go_wp2_with fail
     go_quiet (fail)
     go_wp2_with fail
     go_ret
     exact⟨by rw[Hne.out];rfl,_,World.drewN_drewN _ _ _⟩
   ·obtain rfl:k=n:=by omega
    have hall:xs=ys:=by
     have:=hpre.out
     rwa [List.take_of_length_le (by rw[<-Hn.out];exact Nat.le_refl _),List.take_of_length_le (by rw[<-Hn2.out];exact Nat.le_refl _)]at this
    have Hall:=Lib.hid (decide_eq_true hall)
    clear hall
    go_wp2_with fail
    go_ret
    exact⟨by rw[Hall.out];rfl,_,rfl⟩
 ·have hne:decide (xs=ys)=false:=decide_eq_false λe=>hl (by rw[e])
  rw[hne]
  have h1:((xs.length:Int) !=(ys.length:Int))=true:=by simp;omega
  clear hne X Y
  go_enter Tryz.func18,Tryz.ntmps18
  go_wp2_with fail
  go_ret
  exact⟨rfl,0,by simp[World.drewN]⟩
end Go.Proofs.YtnmhgehpddipdaaGreatDoor
