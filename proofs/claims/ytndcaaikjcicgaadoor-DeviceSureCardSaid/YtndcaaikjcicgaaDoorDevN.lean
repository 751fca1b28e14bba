/-
  DERIVED. A device that the call itself made: its contracts once more; the fact 'lost'.
-/
import Derived.Test.YtndcaaikjcicgaaDoorNewDev
set_option linter.unusedVariables false
set_option linter.unusedSimpArgs false
namespace Go.Proofs.YtndcaaikjcicgaaDoor
open Go.RowKit Go.Cof
/-- A device of blocks that are all newer than w0. -/
structure DevN (w0 w : World) (D S : Nat) (wv : Value) (sure : List ByteArray) (wait : List (Nat × ByteArray)) (fuse : Int) : Prop where
  dev : DevAt w D S wv sure wait fuse
  own : ∀ b, DevB D S wv b → w0.heap.size ≤ b
  keep : Keep NoB w0 w
/-- Whose row a slice is now: the same block, or a new one. -/
def Moved (w : World) (wv wv' : Value) : Prop := wv'.ownBlock = wv.ownBlock ∨ ∀ b, wv'.ownBlock = some b → w.heap.size ≤ b
section
variable {w0 w : World} {D S : Nat} {wv : Value} {sure : List ByteArray} {wait : List (Nat × ByteArray)} {fuse : Int}
theorem DevN.step (h : DevN w0 w D S wv sure wait fuse) {w' : World} {wv' : Value} {sure' : List ByteArray} {wait' : List (Nat × ByteArray)} {fuse' : Int} (hd : DevAt w' D S wv' sure' wait' fuse') (hm : Moved w wv wv') (hk : Keep (DevB D S wv) w w') : DevN w0 w' D S wv' sure' wait' fuse' := by
  refine ⟨hd, ?_, h.keep.trans hk (fun i hi hs => ?_)⟩
  · rintro b (hb | hb | hb)
    · exact h.own b (.inl hb)
    · exact h.own b (.inr (.inl hb))
    · rcases hm with hm | hm
      · exact h.own b (.inr (.inr (hm ▸ hb)))
      · exact Nat.le_trans h.keep.size (hm b hb)
  · have := h.own i hs
    omega
theorem DevN.keepN (h : DevN w0 w D S wv sure wait fuse) {w' : World} (hk : Keep NoB w w') : DevN w0 w' D S wv sure wait fuse :=
  ⟨h.dev.keep hk (fun _ _ x => x), h.own, h.keep.thenN hk⟩
theorem write_N (h : DevN w0 w D S wv sure wait fuse) (k : Nat) (s : ByteArray) (hk : k < 66) (hs : s.size ≤ 256) (hf : fuse ≠ 0) (hw : wait.length < 1000000) :
    Calls Tryd.prog 36 #[.pointer (some ⟨D, 0, none⟩), .int .i64 k, .string s] w fun e w' => e = .returned .nilIface ∧ ∃ wv', DevN w0 w' D S wv' sure (wait ++ [(k, padB s)]) (burnt fuse) ∧ Moved w wv wv' ∧ Keep (DevB D S wv) w w' :=
  (write_ok h.dev k s hk hs hf hw).mono fun _ _ ⟨he, ⟨wv', hd, hm⟩, hK⟩ => ⟨he, wv', h.step hd hm hK, hm, hK⟩
theorem sync_N (h : DevN w0 w D S wv sure wait fuse) (hf : fuse ≠ 0) :
    Calls Tryd.prog 38 #[.pointer (some ⟨D, 0, none⟩)] w fun e w' => e = .returned .nilIface ∧ DevN w0 w' D S (.slice none 0 0) (applyW sure wait) [] (burnt fuse) ∧ Keep (DevB D S wv) w w' :=
  (sync_ok h.dev hf).mono fun _ _ ⟨he, hd, hK⟩ => ⟨he, h.step hd (.inr (fun b hb => by cases hb)) hK, hK⟩
theorem crash_N (h : DevN w0 w D S wv sure wait fuse) (kv : Value) (keeps : List Bool) (B : Bools w kv keeps) (hk6 : keeps.length ≤ 1000000) (hB : 0 < keeps.length → ∀ b, kv.ownBlock = some b → ¬ DevB D S wv b) :
    Calls Tryd.prog 40 #[.pointer (some ⟨D, 0, none⟩), kv] w fun e w' => e = .returned (.tuple #[]) ∧ DevN w0 w' D S (.slice none 0 0) (crashTo sure wait keeps wait.length) [] (-1) ∧ Keep (DevB D S wv) w w' :=
  (crash_any h.dev kv keeps B hk6 hB).mono fun _ _ ⟨he, hd, hK⟩ => ⟨he, h.step hd (.inr (fun b hb => by cases hb)) hK, hK⟩
theorem read_N (h : DevN w0 w D S wv sure wait fuse) (k : Nat) (hk : k < 66) :
    Calls Tryd.prog 46 #[.pointer (some ⟨D, 0, none⟩), .int .i64 k] w fun e w' => e = .returned (.tuple #[.string ((applyW sure wait).getD k ⟨#[]⟩), .nilIface]) ∧ DevN w0 w' D S wv sure wait fuse ∧ Keep NoB w w' :=
  (read_at h.dev k hk).mono fun _ _ ⟨he, hK⟩ => ⟨he, h.keepN hK, hK⟩
end
theorem new_N (w : World) :
    Calls Tryd.prog 34 #[] w fun e w' => ∃ D S, e = .returned (.pointer (some ⟨D, 0, none⟩)) ∧ DevN w w' D S (.slice none 0 0) sure0 [] (-1) :=
  (newDev_any w).mono fun _ _ ⟨D, S, he, hd, h1, h2, hK⟩ => ⟨D, S, he, hd, fun b hb => hb.elim (fun e => e ▸ h1) (fun hb => hb.elim (fun e => e ▸ h2) (fun e => by cases e)), hK⟩
theorem DevN.lt {w0 w : World} {D S : Nat} {wv : Value} {sure : List ByteArray} {wait : List (Nat × ByteArray)} {fuse : Int} (h : DevN w0 w D S wv sure wait fuse) : ∀ b, DevB D S wv b → b < w.heap.size := by
  rintro b (rfl | rfl | hb)
  · obtain ⟨c, h2, _⟩ := h.dev.head; exact lt_of_heap h2
  · obtain ⟨c, h2, _⟩ := h.dev.row; exact lt_of_heap h2
  · exact (h.dev.waits.lt b hb).2
theorem padA : (padB ⟨#[97]⟩).extract 0 2 = ⟨#[97, 0]⟩ := by decide +kernel
theorem padC : (padB ⟨#[99]⟩).extract 0 2 = ⟨#[99, 0]⟩ := by decide +kernel
theorem bools_lit (w : World) (l : List Bool) (E : TypeId) : Bools (w.alloc (.cells (l.map Value.bool).toArray E)) (.slice (some ⟨w.heap.size, 0, none⟩) l.length l.length) l := by
  refine .inr ⟨w.heap.size, 0, l.length, rfl, by simp, fun i hi => ?_⟩
  rw [Nat.zero_add, cell_of_row _ _ i _ E (0, 0) (heap_alloc_new w _)]
  simp [hi]
set_option maxRecDepth 100000 in
set_option maxHeartbeats 4000000 in
theorem lost_any (w : World) (hg : ErrVar w) : Calls Tryd.prog 21 #[] w fun e w' => e = .returned (.bool true) ∧ Keep NoB w w' := by
  obtain ⟨zA, hzA⟩ : ∃ z, z = padB ⟨#[97]⟩ := ⟨_, rfl⟩
  obtain ⟨zB, hzB⟩ : ∃ z, z = padB ⟨#[98]⟩ := ⟨_, rfl⟩
  obtain ⟨zC, hzC⟩ : ∃ z, z = padB ⟨#[99]⟩ := ⟨_, rfl⟩
  have sA : (zA.size : Int) = 256 := by rw [hzA, padB_size _ (by decide)]; rfl
  have lA : (2 : Int) ≤ zA.size := by omega
  have lC : (2 : Int) ≤ zC.size := by rw [hzC, padB_size _ (by decide)]; decide
  have qA : zA.extract 0 2 = ⟨#[97, 0]⟩ := by rw [hzA]; exact padA
  have qC : zC.extract 0 2 = ⟨#[99, 0]⟩ := by rw [hzC]; exact padC
  have HA := Lib.hid hzA
  have HB := Lib.hid hzB
  have HC := Lib.hid hzC
  have SA := Lib.hid sA
  have QA := Lib.hid qA
  have QC := Lib.hid qC
  clear hzA hzB hzC sA qA qC
  go_enter Tryd.func21, Tryd.ntmps21
  go_wp2_with fail
  refine (new_N w).mono ?_
  rintro e w1 ⟨D, S, rfl, h1⟩
  go_wp2_with fail
  refine (write_N h1 3 ⟨#[97]⟩ (by omega) (by decide) (by omega) (by decide)).mono ?_
  rw [← HA.out]
  rintro e w2 ⟨rfl, wv2, h2', -, -⟩
  have h2 : DevN w w2 D S wv2 sure0 [(3, zA)] (-1) := h2'
  clear h1 h2'
  go_wp2_with fail
  refine (sync_N h2 (by decide)).mono ?_
  rintro e w3 ⟨rfl, h3', -⟩
  have h3 : DevN w w3 D S (.slice none 0 0) (sure0.set 3 zA) [] (-1) := h3'
  clear h2 h3'
  go_wp2_with fail
  refine (write_N h3 3 ⟨#[98]⟩ (by omega) (by decide) (by decide) (by decide)).mono ?_
  rw [← HB.out]
  rintro e w4 ⟨rfl, wv4, h4', -, -⟩
  have h4 : DevN w w4 D S wv4 (sure0.set 3 zA) [(3, zB)] (-1) := h4'
  clear h3 h4'
  go_wp2_with fail
  refine (write_N h4 4 ⟨#[99]⟩ (by omega) (by decide) (by decide) (by simp)).mono ?_
  rw [← HC.out]
  rintro e w5 ⟨rfl, wv5, h5', -, -⟩
  have h5 : DevN w w5 D S wv5 (sure0.set 3 zA) [(3, zB), (4, zC)] (-1) := h5'
  clear h4 h5'
  go_wp2_with fail
  have h6 := h5.keepN ((Keep.refl NoB w5).alloc (.cells #[.bool false, .bool true] 4))
  refine (crash_N h6 _ [false, true] (bools_lit w5 [false, true] _) (by decide) (fun _ b hb hd => by have := h5.lt b hd; obtain rfl : w5.heap.size = b := Option.some.inj hb; omega)).mono ?_
  rintro e w7 ⟨rfl, h7', -⟩
  have h7 : DevN w w7 D S (.slice none 0 0) ((sure0.set 3 zA).set 4 zC) [] (-1) := h7'
  clear h5 h6 h7'
  have r3 := read_N h7 3 (by omega)
  have e3 : (applyW ((sure0.set 3 zA).set 4 zC) []).getD 3 ⟨#[]⟩ = zA := rfl
  rw [e3] at r3
  clear e3
  go_wp2_with fail
  refine r3.mono ?_
  rintro e w8 ⟨rfl, h8, -⟩
  have r4 := read_N h8 4 (by omega)
  have e4 : (applyW ((sure0.set 3 zA).set 4 zC) []).getD 4 ⟨#[]⟩ = zC := rfl
  rw [e4] at r4
  clear e4 r3 h7
  go_wp2_with fail
  refine r4.mono ?_
  rintro e w9 ⟨rfl, h9, -⟩
  clear r4 h8
  have K9 := h9.keep
  have bA : ((zA.size : Int) == 256) = true := by simpa using SA.out
  have bQA : (zA.extract 0 2).toList = [97, 0] := by rw [QA.out]; decide +kernel
  have bQC : (zC.extract 0 2).toList = [99, 0] := by rw [QC.out]; decide +kernel
  go_wp2_with fail
  have c9 : CountAt (w9.alloc (.cells #[.int .i64 0] 33)) w9.heap.size 0 := heap_alloc_new w9 _
  refine (raise_yes c9 5 (by decide)).mono ?_
  rintro e w10 ⟨rfl, c10, K10⟩
  go_wp2_with fail
  refine (raise_no c10 5 (by decide)).mono ?_
  rintro e w11 ⟨rfl, hw11⟩
  subst w11
  have K10' : Keep NoB w w10 := (K9.alloc _).trans K10 (fun i hi hs => by have := K9.size; simp only [Cof.OneB] at hs; omega)
  go_wp2_with fail
  refine (tell_errno 10 _ (hg.keep K10' (fun x => x))).mono ?_
  rintro e w12 ⟨rfl, K12⟩
  have c12 : CountAt w12 w9.heap.size 5 := c10.keep K12 (fun x => x)
  go_wp2_with fail
  refine (get_any c12).mono ?_
  rintro e w13 ⟨rfl, hw13⟩
  subst w13
  go_wp2_with fail
  go_ret
  exact ⟨rfl, K10'.thenN K12⟩
end Go.Proofs.YtndcaaikjcicgaaDoor
