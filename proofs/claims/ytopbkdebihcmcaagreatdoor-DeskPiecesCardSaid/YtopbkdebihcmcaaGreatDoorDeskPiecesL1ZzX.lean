/-
  DERIVED. (The walk lifted to the row's data.) DeskPieces: the answers to the first lines of a session are the beginning of the answers to all. For every input; no condition but the row's own (the tables and errors of sum, strconv, utf8 and errors as their texts lay them).
-/
import Derived.Test.YtopbkdebihcmcaaGreatDoorYBU
import Derived.ProofKit
import Derived.OpenShut
import Derived.ShutString
import Derived.Test.YtopbkdebihcmcaaGreatDoorYBT
set_option linter.unusedSimpArgs false
namespace Go.Proofs.YtopbkdebihcmcaaGreatDoor.deskPieces
open Go.ChangeShapes Go.WideShapes Go.ChangeAt Go.RowKit
open Go.ChangeMaps (open_string shut_string)
set_option linter.unusedVariables false
set_option maxRecDepth 100000 in
theorem lifted(os:Os)(started:os.Started)(H:Type)(enc:TypeId×Value->H):
  ReturnsInHanded {} Tryz.checked os 3 .any (λw args=>(Rows.deskPiecesSpec.pre enc Tryz.prog Tryz.f3 [] false w args∧laidMetH Tryz.prog laidB w)∧sizedMet enc Tryz.prog Tryz.f3 (OpenSpec.ofChange Rows.deskPiecesSpec) false w args)
   (Rows.deskPiecesSpec.post enc Tryz.prog Tryz.f3 false true false false):=by
 refine JE (C:=Tryz.checked) (X:=λw _=>laidMetH Tryz.prog laidB w) (λ_ _ _ hh h=>h.of_heap hh) own started (by kernel_rfl) Tryz.func3
  (ChangeSpec.witness_at (enc:=enc) (C:=Tryz.checked) (os:=os) (X:=λw _=>laidMetH Tryz.prog laidB w) false (Td os) #[.string ByteArray.empty,.string ByteArray.empty] 8 rfl (by kernel_rfl) (by kernel_rfl) (by kernel_rfl) (by kernel_rfl) (by kernel_rfl) (TV os _)) ?_
 intro W base args ds gs before hval0 hW hL hsh;have hval:∀(j:Nat) t v,Tryz.f3.params[j]? =some t->args[j]? =some v->Value.okWide Tryz.prog W .any base t v:=hval0;have hW':=hW;obtain⟨p,q,hA0,hV,rfl,hfz,hnd⟩:=hW;have hA:DataW.TrodAll enc Tryz.prog W 0 (λ_=>true) true Tryz.f3.params.toList args.toList ds p:=hA0;rw[Tryz.params3]at hA hval;obtain⟨v0,vs0,d0,ds0,p0,q0,hargs,rfl,rfl,h0,r0⟩:=trodAll_cons hA;obtain⟨v1,vs1,d1,ds1,p1,q1,rfl,rfl,rfl,h1,r1⟩:=trodAll_cons r0;obtain⟨rfl,rfl,rfl⟩:=trodAll_nil r1;obtain rfl:args= #[v0,v1]:=by cases args;simp_all
 obtain⟨rfl,rfl⟩:=trodVars_none hV;obtain⟨a0,rfl,rfl,rfl,w0⟩:=open_string Tryz.underlying9 (hval 0 9 v0 rfl rfl) h0;obtain⟨a1,rfl,rfl,rfl,w1⟩:=open_string Tryz.underlying9 (hval 1 9 v1 rfl rfl) h1;clear hA0 hval0;simp only[dJ,fK]at hW';refine(TZ a0 a1 (UB hL hsh)).mono λe W' ⟨he,hk⟩=> ?_;subst he;have hg:=hk.toBelow;exact⟨_,rfl,_,_,_,[],_,[],hW',trodAll_mk1 (shut_bool Tryz.underlying4 _),(trodAll_cons_mk (shut_string Tryz.underlying9 w0) (trodAll_cons_mk (shut_string Tryz.underlying9 w1) trodAll_mk0)),rfl,hg.frame _,λh=>by cases h⟩
end Go.Proofs.YtopbkdebihcmcaaGreatDoor.deskPieces
