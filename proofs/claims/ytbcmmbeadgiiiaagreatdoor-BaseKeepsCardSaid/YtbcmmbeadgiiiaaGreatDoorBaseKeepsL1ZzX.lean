/-
  DERIVED. (The walk lifted to the row's data.) BaseKeeps: whatever is put, taken away, told, and opened again, what a base has, and finds, is what the reference has, and finds. For every input; no condition but the row's own (the tables and errors of sum, strconv, utf8 and errors as their texts lay them).
-/
import Derived.Test.YtbcmmbeadgiiiaaGreatDoorYBG
import Derived.Test.YtbcmmbeadgiiiaaGreatDoorYBB
import Derived.ShutString
set_option linter.all false
namespace Go.Proofs.YtbcmmbeadgiiiaaGreatDoor.Ld
open Go.ChangeShapes Go.WideShapes Go.ChangeAt Go.RowKit
open Go.ChangeMaps (open_string shut_string)
set_option linter.unusedVariables false
theorem laidOut:laidOutB Tryz.prog=true:=by kernel_rfl
set_option maxRecDepth 100000 in
theorem lifted(os:Os)(started:os.Started)(H:Type)(enc:aB×ay->H):
  ReturnsInHanded {} Tryz.checked os 3 .any (λw args=>(Rows.baseKeepsSpec.pre enc Tryz.prog Tryz.f3 [] false w args∧laidMetH Tryz.prog laidB w)∧sizedMet enc Tryz.prog Tryz.f3 (OpenSpec.ofChange Rows.baseKeepsSpec) false w args)
   (Rows.baseKeepsSpec.post enc Tryz.prog Tryz.f3 false true false false):=by
 refine Tn (C:=Tryz.checked) (X:=λw _=>laidMetH Tryz.prog laidB w) (λ_ _ _ hh h=>h.of_heap hh) own started (by kernel_rfl) Tryz.func3
  (ChangeSpec.witness_at (enc:=enc) (C:=Tryz.checked) (os:=os) (X:=λw _=>laidMetH Tryz.prog laidB w) false (zbi os) #[.slice none 0 0,.slice none 0 0,.int .i64 0,.string ByteArray.empty] 8 rfl (by kernel_rfl) (by kernel_rfl) (by kernel_rfl) (by kernel_rfl) (by kernel_rfl) (zbO os _)) ?_
 intro W base args ds gs before zsn hW hL hsh;have TD:∀(j:Nat) t v,Tryz.f3.params[j]? =some t->args[j]? =some v->Value.okWide Tryz.prog W .any base t v:=zsn;have hW':=hW;obtain⟨p,q,hA0,hV,rfl,hfz,hnd⟩:=hW;have hA:DataW.TrodAll enc Tryz.prog W 0 (λ_=>true) true Tryz.f3.params.toList args.toList ds p:=hA0;rw[Tryz.params3]at hA TD;obtain⟨v0,vs0,d0,ds0,p0,q0,hargs,rfl,rfl,h0,r0⟩:=trodAll_cons hA;obtain⟨v1,vs1,d1,ds1,p1,q1,rfl,rfl,rfl,h1,r1⟩:=trodAll_cons r0;obtain⟨v2,vs2,d2,ds2,p2,q2,rfl,rfl,rfl,h2,r2⟩:=trodAll_cons r1;obtain⟨v3,vs3,d3,ds3,p3,q3,rfl,rfl,rfl,h3,r3⟩:=trodAll_cons r2;obtain⟨rfl,rfl,rfl⟩:=trodAll_nil r3;obtain rfl:args= #[v0,v1,v2,v3]:=by cases args;simp_all
 obtain⟨rfl,rfl⟩:=trodVars_none hV;obtain⟨a0,len0,cap0,rfl⟩:=okWide_slice Tryz.underlying22 (TD 0 22 v0 rfl rfl);obtain⟨a1,len1,zlu,rfl⟩:=okWide_slice jE (TD 1 23 v1 rfl rfl);obtain⟨a2,rfl,rfl,rfl,w2⟩:=open_int fG (TD 2 3 v2 rfl rfl) h2;obtain⟨a3,rfl,rfl,rfl,w3⟩:=open_string bK (TD 3 9 v3 rfl rfl) h3;have h0k:=h0;obtain⟨fuel0,hf0⟩:=h0;have h1k:=h1;obtain⟨fuel1,hf1⟩:=h1;clear hA0 zsn;simp only[dS,fZ]at hW';have zln:∀x∈p0,x.block<W.heap.size:=λx hx=>by simpa using hW'.lt x (by simp[hx])
 have zlm:∀x∈p1,x.block<W.heap.size:=λx hx=>by simpa using hW'.lt x (by simp[hx])
 obtain⟨l0,O0,Va,zzJ⟩:=zjK hf0 zln;obtain⟨l1,O1,YS⟩:=zfe hf1 zlm;refine(zcL _ l0 O0 Va zzJ _ l1 O1 YS a2 a3 w3 (zcm hL hsh)).m λe W' ⟨he,hk⟩=> ?_;subst he;have hg:=hk.toBelow;exact⟨_,rfl,_,_,_,[],_,[],hW',trodAll_mk1 (shut_bool kU _),(trodAll_cons_mk (Below.trod laidOut (by kernel_rfl) (fM (by kernel_rfl)) h0k hg zln) (trodAll_cons_mk (Below.trod laidOut (by kernel_rfl) (fM (by kernel_rfl)) h1k hg zlm) (trodAll_cons_mk (shut_int fG w2) (trodAll_cons_mk (shut_string bK w3) trodAll_mk0)))),rfl,hg.frame _,λh=>by cases h⟩
