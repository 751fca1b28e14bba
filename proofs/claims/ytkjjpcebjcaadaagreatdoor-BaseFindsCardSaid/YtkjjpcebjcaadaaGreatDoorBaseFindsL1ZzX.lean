/-
  DERIVED. (The walk lifted to the row's data.) BaseFinds: what is found is there: whatever is put, taken away, told, what a base finds is what is nearest of what there is; and told again it finds the same. For every input; no condition but the row's own (the tables and errors of sum, strconv, utf8 and errors as their texts lay them).
-/
import Derived.Test.YtkjjpcebjcaadaaGreatDoorYBU
import Derived.Test.YtkjjpcebjcaadaaGreatDoorYBR
import Derived.WalkKit
import Derived.ProofKit
import Derived.OpenShut
import Derived.ShutString
import Derived.ChangeOld
import Derived.ChangeSlices
import Derived.Below
import Derived.Carry
import Derived.SliceStrings
import Derived.SizedLaws
import Derived.Test.YtkjjpcebjcaadaaGreatDoorYBT
set_option linter.unusedSimpArgs false
namespace Go.Proofs.YtkjjpcebjcaadaaGreatDoor.baseFinds
open Go.ChangeShapes Go.WideShapes Go.ChangeAt Go.RowKit Go.Cof
open Go.ChangeMaps (open_string shut_string)
set_option linter.unusedVariables false
theorem laidOut:laidOutB Tryz.prog=true:=by kernel_rfl
set_option maxRecDepth 100000 in
theorem lifted(os:Os)(started:os.Started)(H:Type)(enc:TypeId×Value->H):
  ReturnsInHanded {} Tryz.checked os 5 .any (λw args=>(Rows.baseFindsSpec.pre enc Tryz.prog Tryz.f5 [] false w args∧laidMetH Tryz.prog laidB w)∧sizedMet enc Tryz.prog Tryz.f5 (OpenSpec.ofChange Rows.baseFindsSpec) false w args)
   (Rows.baseFindsSpec.post enc Tryz.prog Tryz.f5 false true false false):=by
 refine returns_shaped_and (C:=Tryz.checked) (X:=λw _=>laidMetH Tryz.prog laidB w) (λ_ _ _ hh h=>h.of_heap hh) own started (by kernel_rfl) Tryz.func5
  (ChangeSpec.witness_at (enc:=enc) (C:=Tryz.checked) (os:=os) (X:=λw _=>laidMetH Tryz.prog laidB w) false (laidWorldB os) #[.slice none 0 0,.slice none 0 0,.int .i64 0,.string ByteArray.empty] 8 rfl (by kernel_rfl) (by kernel_rfl) (by kernel_rfl) (by kernel_rfl) (by kernel_rfl) (laidWorldB_met os _)) ?_
 intro W base args ds gs before hval0 hW hL hsh
 have hval:∀(j:Nat) t v,Tryz.f5.params[j]? =some t->args[j]? =some v->Value.okWide Tryz.prog W .any base t v:=hval0
 have hW':=hW
 obtain⟨p,q,hA0,hV,rfl,hfz,hnd⟩:=hW
 have hA:DataW.TrodAll enc Tryz.prog W 0 (λ_=>true) true Tryz.f5.params.toList args.toList ds p:=hA0
 rw[Tryz.params5]at hA hval
 obtain⟨v0,vs0,d0,ds0,p0,q0,hargs,rfl,rfl,h0,r0⟩:=trodAll_cons hA
 obtain⟨v1,vs1,d1,ds1,p1,q1,rfl,rfl,rfl,h1,r1⟩:=trodAll_cons r0
 obtain⟨v2,vs2,d2,ds2,p2,q2,rfl,rfl,rfl,h2,r2⟩:=trodAll_cons r1
 obtain⟨v3,vs3,d3,ds3,p3,q3,rfl,rfl,rfl,h3,r3⟩:=trodAll_cons r2
 obtain⟨rfl,rfl,rfl⟩:=trodAll_nil r3
 obtain rfl:args= #[v0,v1,v2,v3]:=by cases args;simp_all
 obtain⟨rfl,rfl⟩:=trodVars_none hV
 obtain⟨a0,len0,cap0,rfl⟩:=okWide_slice Tryz.underlying22 (hval 0 22 v0 rfl rfl)
 obtain⟨a1,len1,cap1,rfl⟩:=okWide_slice Tryz.underlying24 (hval 1 24 v1 rfl rfl)
 obtain⟨a2,rfl,rfl,rfl,w2⟩:=open_int Tryz.underlying3 (hval 2 3 v2 rfl rfl) h2
 obtain⟨a3,rfl,rfl,rfl,w3⟩:=open_string Tryz.underlying9 (hval 3 9 v3 rfl rfl) h3
 have h0k:=h0
 obtain⟨fuel0,hf0⟩:=h0
 have h1k:=h1
 obtain⟨fuel1,hf1⟩:=h1
 clear hA0 hval0
 simp only[List.append_nil,List.nil_append]at hW'
 have hlt0:∀x∈p0,x.block<W.heap.size:=λx hx=>by simpa using hW'.lt x (by simp[hx])
 have hlt1:∀x∈p1,x.block<W.heap.size:=λx hx=>by simpa using hW'.lt x (by simp[hx])
 obtain⟨l0,O0,hl0,hls0⟩:=open_deeds hf0 hlt0
 obtain⟨l1,O1,hl1⟩:=open_numbers hf1 hlt1
 refine(baseFinds_any _ _ l0 l1 a2 a3 O0 O1 hl0 hl1 (λx hx=>(hls0 x hx).1) (λx hx=>(hls0 x hx).2) (vars_of_laidB hL hsh)).mono λe W' ⟨he,hk⟩=> ?_
 subst he
 have hg:=hk.toBelow
 exact⟨_,rfl,_,_,_,[],_,[],hW',trodAll_mk1 (shut_bool Tryz.underlying4 _),(trodAll_cons_mk (Below.trod laidOut (by kernel_rfl) (of_decide_eq_true (by kernel_rfl)) h0k hg hlt0) (trodAll_cons_mk (Below.trod laidOut (by kernel_rfl) (of_decide_eq_true (by kernel_rfl)) h1k hg hlt1) (trodAll_cons_mk (shut_int Tryz.underlying3 w2) (trodAll_cons_mk (shut_string Tryz.underlying9 w3) trodAll_mk0)))),rfl,hg.frame _,λh=>by cases h⟩
end Go.Proofs.YtkjjpcebjcaadaaGreatDoor.baseFinds
