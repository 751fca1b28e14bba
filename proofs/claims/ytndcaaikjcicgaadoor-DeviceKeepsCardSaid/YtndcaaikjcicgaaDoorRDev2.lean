/-
  DERIVED. The walks of the reference's device: Write.
-/
import Derived.Test.YtndcaaikjcicgaaDoorRDev
import Derived.Test.YtndcaaikjcicgaaDoorZeros
import Derived.IntWalk
import Derived.Deep.RegionLaw
set_option linter.unusedVariables false
set_option linter.unusedSimpArgs false
namespace Go.Cof
open Go.RowKit
theorem atCells_append (a b : List (Nat × ByteArray)) : atCells (a ++ b) = atCells a ++ atCells b := by simp [atCells]
theorem whatCells_append (a b : List (Nat × ByteArray)) : whatCells (a ++ b) = whatCells a ++ whatCells b := by simp [whatCells]
/-- Whose row a slice is now, behind the world w. -/
def Mov (w : World) (v v' : Value) : Prop := v'.ownBlock = v.ownBlock ∨ ∀ b, v'.ownBlock = some b → w.heap.size ≤ b
theorem Mov.refl (w : World) (v : Value) : Mov w v v := .inl rfl
end Go.Cof
namespace Go.Proofs.YtndcaaikjcicgaaDoor
open Go.RowKit Go.Cof
theorem padB_zeros (s : ByteArray) (hs : s.size ≤ 256) : s ++ txt (List.replicate (256 - s.size) 0) = padB s := by
  have hz : Bytes (List.replicate 256 0) := fun x hx => by rw [(List.mem_replicate.1 hx).2]; omega
  have hz2 : Bytes (List.replicate (256 - s.size) 0) := fun x hx => by rw [(List.mem_replicate.1 hx).2]; omega
  apply bs_inj
  rw [padB, bs_append, bs_append, bs_extract, zeroB_size, zeroB, bs_txt hz, bs_txt hz2, List.drop_replicate, List.take_of_length_le (by rw [List.length_replicate]; omega)]
theorem info_int8 : (Tryd.prog.info? 3).map (fun i => (i.zero, i.size, i.bytes)) = some (some (.int .i64 0), 1, 8) := by kernel_rfl
theorem info_string : (Tryd.prog.info? 9).map (fun i => (i.zero, i.size, i.bytes)) = some (some (.string ⟨#[]⟩), 1, 16) := by kernel_rfl
section
variable {w : World} {D : Nat} {sv av tv : Value} {sure : List ByteArray} {wait : List (Nat × ByteArray)} {fuse : Int}
theorem refWrite_range (k : Int) (s : ByteArray) (hk : ¬ (0 ≤ k ∧ k ≤ 65)) (D : Nat) (w : World) :
    Calls Tryd.prog 49 #[.pointer (some ⟨D, 0, none⟩), .int .i64 k, .string s] w fun e w' => e = .returned (.int .i64 2) ∧ w' = w := by
  go_enter Tryd.func49, Tryd.ntmps49
  go_wp2_with fail
  refine (in_no k 0 65 hk w).mono ?_
  rintro e w1 ⟨rfl, hw1⟩
  subst w1
  go_wp2_with fail
  go_ret
  exact ⟨rfl, rfl⟩
theorem refWrite_limit (k : Nat) (s : ByteArray) (hk : k < 66) (hs : 256 < s.size) (D : Nat) (w : World) :
    Calls Tryd.prog 49 #[.pointer (some ⟨D, 0, none⟩), .int .i64 k, .string s] w fun e w' => e = .returned (.int .i64 4) ∧ w' = w := by
  have j2 : decide ((256 : Int) < s.size) = true := by simp; omega
  go_enter Tryd.func49, Tryd.ntmps49
  go_wp2_with fail
  refine (in_yes k 0 65 (by omega) (by omega) w).mono ?_
  rintro e w1 ⟨rfl, hw1⟩
  subst w1
  go_wp2_with fail
  go_ret
  exact ⟨rfl, rfl⟩
theorem refWrite_spent (h : RDev w D sv av tv sure wait 0) (k : Nat) (s : ByteArray) (hk : k < 66) (hs : s.size ≤ 256) :
    Calls Tryd.prog 49 #[.pointer (some ⟨D, 0, none⟩), .int .i64 k, .string s] w fun e w' => e = .returned (.int .i64 14) ∧ RDev w' D sv av tv sure wait 0 ∧ Keep (OneB D) w w' := by
  have j2 : decide ((256 : Int) < s.size) = false := by simp; omega
  have hb := spent_any h
  rw [show decide ((0 : Int) = 0) = true from rfl, show burnt 0 = 0 from rfl] at hb
  go_enter Tryd.func49, Tryd.ntmps49
  go_wp2_with fail
  refine (in_yes k 0 65 (by omega) (by omega) w).mono ?_
  rintro e w1 ⟨rfl, hw1⟩
  subst w1
  go_wp2_with fail
  refine hb.mono ?_
  rintro e w1 ⟨rfl, h1, K1⟩
  go_wp2_with fail
  go_ret
  exact ⟨rfl, h1, K1⟩
set_option maxRecDepth 100000 in
set_option maxHeartbeats 4000000 in
theorem refWrite_ok (h : RDev w D sv av tv sure wait fuse) (k : Nat) (s : ByteArray) (hk : k < 66) (hs : s.size ≤ 256) (hf : fuse ≠ 0) (hw : wait.length < 1000000) :
    Calls Tryd.prog 49 #[.pointer (some ⟨D, 0, none⟩), .int .i64 k, .string s] w fun e w' => e = .returned (.int .i64 0) ∧ (∃ av' tv', RDev w' D sv av' tv' sure (wait ++ [(k, padB s)]) (burnt fuse) ∧ Mov w av av' ∧ Mov w tv tv') ∧ Keep (RB D sv av tv) w w' := by
  have j2 : decide ((256 : Int) < s.size) = false := by simp; omega
  have hb := spent_any h
  rw [show decide (fuse = 0) = false by simpa using hf] at hb
  obtain ⟨n, hn⟩ : ∃ n, n = wait.length := ⟨_, rfl⟩
  have Hn := Lib.hid hn
  have Hf := Lib.hid hf
  clear hf
  go_enter Tryd.func49, Tryd.ntmps49
  go_wp2_with fail
  refine (in_yes k 0 65 (by omega) (by omega) w).mono ?_
  rintro e w1 ⟨rfl, hw1⟩
  subst w1
  go_wp2_with fail
  refine hb.mono ?_
  clear hb
  rintro e w1 ⟨rfl, h1, K1⟩
  obtain ⟨cs, ca, ct, cf, ff⟩ := h1.cellsD
  have fa := ff 1
  have ft := ff 2
  have ha := h1.ats
  rw [← hn] at ha
  have hDlt := lt_of_heap h1.head
  obtain ⟨i0, hi0, hz0, hz1, hz2⟩ := info_parts info_int8
  clear ff hn
  go_wp2_with (refine wpList_append_s _ rfl (.tmp 19) (.tmp 21) 30 rfl 0 3 i0 (.int .i64 0) 1 8 Tryd.underlying30 hi0 hz0 hz1 hz2 rfl (by decide) av n (atCells wait) rfl (ha.alloc _) ⟨w1.heap.size, 0, none⟩ 1 1 [.int .i64 k] rfl rfl (cells_new _ _ _) (ones1 _ _) (by unfold maxLen; have := Hn.out; omega) (by have := Hn.out; omega) (Nat.zero_le _) ?_; intro v2 w2 own2 hgrow2 where2; have K2 : Keep (fun b => av.ownBlock = some b) w1 w2 := ((Keep.refl _ w1).alloc _).grown hgrow2 (fun c hc => .inl hc); have c2 := (K2.cell (p := ⟨D, 1, none⟩) hDlt (fun hb => h1.apart0 D (.inr (.inl hb)) rfl)).trans ca; have f2 := (K2.frozen (p := ⟨D, 1, none⟩) hDlt (fun hb => h1.apart0 D (.inr (.inl hb)) rfl)).trans fa; obtain ⟨g2, cap2, rfl, _, _⟩ := own2.some (by omega))
  have m2 : Mov w1 av (.slice (some ⟨g2, 0, none⟩) (n + 1) cap2) := where2.imp id (fun hh b hb => by have := hh b hb; simp at this; omega)
  have own2' : OwnsN w2 0 3 1 (.slice (some ⟨g2, 0, none⟩) (n + 1) cap2) (wait ++ [(k, padB s)]).length (atCells (wait ++ [(k, padB s)])) := by
    rw [List.length_append, ← Hn.out, atCells_append]; exact own2
  obtain ⟨a2, hA2⟩ : ∃ a, a = Value.slice (some ⟨g2, 0, none⟩) (n + 1) cap2 := ⟨_, rfl⟩
  rw [← hA2] at m2 own2'
  rw [← hA2]
  have hD2 : D < w2.heap.size := Nat.lt_of_lt_of_le hDlt K2.size
  have nD2 : ∀ b, a2.ownBlock = some b → b ≠ D := by
    intro b hb
    rcases m2 with m2 | m2
    · exact h1.apart0 b (.inr (.inl (m2 ▸ hb)))
    · have := m2 b hb; omega
  refine wp_world (fun w3 => w3.heap[D]? = some (.cells #[sv, a2, tv, .int .i64 (burnt fuse)] 139 (0, 0)) ∧ OwnsN w3 0 9 1 sv 66 (strCells sure) ∧ OwnsN w3 0 3 1 a2 (wait ++ [(k, padB s)]).length (atCells (wait ++ [(k, padB s)])) ∧ OwnsN w3 0 9 1 tv wait.length (whatCells wait) ∧ Keep (fun b => b = D ∨ av.ownBlock = some b) w1 w3) ⟨?_, ?_, ?_, ?_, ?_⟩ ?_
  · have := setCell_heap (w := w2) (i := 1) (K2.heap h1.head (fun hb => h1.apart0 D (.inr (.inl hb)) rfl)) a2
    exact this
  · exact (h1.row.keep K2 (fun b hb hx => (h1.apart1 b hb).1 hx)).keep ((Keep.refl (OneB D) w2).set1 _ _) (fun b hb => h1.apart0 b (.inl hb))
  · exact own2'.keep ((Keep.refl (OneB D) w2).set1 _ _) nD2
  · exact (h1.whats.keep K2 (fun b hb hx => h1.apart2 b hx hb)).keep ((Keep.refl (OneB D) w2).set1 _ _) (fun b hb => h1.apart0 b (.inr (.inr hb)))
  · have := (K2.mono (S' := fun b => b = D ∨ av.ownBlock = some b) (fun b _ hb => Or.inr hb)).setCell (p := ⟨D, 1, none⟩) (.inl (Or.inl rfl)) a2
    exact this
  have hKw := K1
  clear hA2 where2 hgrow2 K2 c2 f2 own2 own2' hD2 i0 hi0 hz0 hz1 hz2
  clear cs ca ct cf fa ft ha
  intro w3 hw3
  obtain ⟨head3, row3, ats3, what3, K13⟩ := hw3
  have ct3 : w3.cell? ⟨D, 2, none⟩ = some tv := by simp [World.cell?, head3]
  have ft3 : w3.frozen? ⟨D, 2, none⟩ = false := by simp [World.frozen?, head3]
  have hD3 := lt_of_heap head3
  have e2 : IntKind.i64.wrap (256 - (s.size : Int)) = 256 - (s.size : Int) := IntWalk.i64_in _ (by omega)
  have hcat : ¬ (9223372036854775807 < s.size + (txt (List.replicate (256 - s.size) 0)).size) := by rw [txt_size, List.length_replicate]; omega
  have hpad := padB_zeros s hs
  have Hpad := Lib.hid hpad
  obtain ⟨i0, hi0, hz0, hz1, hz2⟩ := info_parts info_string
  have htD : ∀ b, tv.ownBlock = some b → b ≠ D := fun b hb => h1.apart0 b (.inr (.inr hb))
  rw [← Hn.out] at what3
  clear hpad
  go_region_law (first
    | (go_simp; go_at_call 93; refine (zeros_any _ (256 - s.size) (by omega) (by omega) _).mono ?_; rintro e w4 ⟨rfl, K4'⟩; have K4 : Keep NoB w3 w4 := ((Keep.refl NoB w3).drew).thenN K4'; have ct4 := (K4.cell (p := ⟨D, 2, none⟩) hD3 (fun x => x)).trans ct3; have hD4 : D < w4.heap.size := Nat.lt_of_lt_of_le hD3 K4.size)
    | (refine step_append_s rfl _ _ 22 rfl 0 9 i0 (.string ⟨#[]⟩) 1 16 Tryd.underlying22 hi0 hz0 hz1 hz2 rfl (by decide) tv n (whatCells wait) rfl ((what3.keep K4 (fun _ _ x => x)).alloc _) ⟨w4.heap.size, 0, none⟩ 1 1 [.string (s ++ txt (List.replicate (256 - s.size) 0))] rfl rfl (cells_new _ _ _) (by intro u hu; obtain rfl := List.mem_singleton.1 hu; rfl) (by unfold maxLen; have := Hn.out; omega) (by have := Hn.out; omega) (Nat.zero_le _) ?_; intro v5 w5 own5 hgrow5 where5; have K5 : Keep (fun b => tv.ownBlock = some b) w4 w5 := ((Keep.refl _ w4).alloc _).grown hgrow5 (fun c hc => .inl hc); have c5 := (K5.cell (p := ⟨D, 2, none⟩) (Nat.lt_of_lt_of_le hD3 K4.size) (fun hb => htD D hb rfl)).trans ct4; have f5 := (K5.frozen (p := ⟨D, 2, none⟩) (Nat.lt_of_lt_of_le hD3 K4.size) (fun hb => htD D hb rfl)).trans ((K4.frozen (p := ⟨D, 2, none⟩) hD3 (fun x => x)).trans ft3); obtain ⟨g5, cap5, rfl, _, _⟩ := own5.some (by omega)))
  all_goals
    have own5' : OwnsN w5 0 9 1 (.slice (some ⟨g5, 0, none⟩) (n + 1) cap5) (wait ++ [(k, padB s)]).length (whatCells (wait ++ [(k, padB s)])) := by
      rw [List.length_append, ← Hn.out, whatCells_append]
      rw [Hpad.out] at own5
      exact own5
    have m5 : Mov w3 tv (.slice (some ⟨g5, 0, none⟩) (n + 1) cap5) := where5.imp id (fun hh b hb => by have q1 := hh b hb; have q2 := K4.size; rw [World.size_alloc] at q1; omega)
    obtain ⟨t5, hT5⟩ : ∃ a, a = Value.slice (some ⟨g5, 0, none⟩) (n + 1) cap5 := ⟨_, rfl⟩
    rw [← hT5] at m5 own5'
    rw [← hT5]
    clear own5 where5 hgrow5 hT5
    have K35 : Keep (fun b => tv.ownBlock = some b) w3 w5 := (K4.mono (fun b _ hb => hb.elim)).then K5
    have head5 := K35.heap head3 (fun hb => htD D hb rfl)
    have lt13 : w1.heap.size ≤ w3.heap.size := K13.size
    have n5D : ∀ b, t5.ownBlock = some b → b ≠ D := by
      intro b hb
      rcases m5 with m5 | m5
      · exact htD b (m5 ▸ hb)
      · have := m5 b hb; omega
    have svlt : ∀ b, sv.ownBlock = some b → b < w1.heap.size := fun b hb => (h1.row.lt b hb).2
    have a2ne : ∀ b, sv.ownBlock = some b → a2.ownBlock ≠ some b := by
      intro b hb hx
      rcases m2 with m2 | m2
      · exact (h1.apart1 b hb).1 (m2 ▸ hx)
      · have := m2 b hx; have := svlt b hb; omega
    have t5ne : ∀ b, sv.ownBlock = some b → t5.ownBlock ≠ some b := by
      intro b hb hx
      rcases m5 with m5 | m5
      · exact (h1.apart1 b hb).2 (m5 ▸ hx)
      · have := m5 b hx; have := svlt b hb; omega
    have a2lt : ∀ b, a2.ownBlock = some b → b < w3.heap.size := fun b hb => (ats3.lt b hb).2
    have a2tv : ∀ b, a2.ownBlock = some b → tv.ownBlock ≠ some b := by
      intro b hb hx
      rcases m2 with m2 | m2
      · exact h1.apart2 b (m2 ▸ hb) hx
      · have := m2 b hb; have := (h1.whats.lt b hx).2; omega
    have a2t5 : ∀ b, a2.ownBlock = some b → t5.ownBlock ≠ some b := by
      intro b hb hx
      rcases m5 with m5 | m5
      · exact a2tv b hb (m5 ▸ hx)
      · have := m5 b hx; have := a2lt b hb; omega
    have KD : Keep (OneB D) w5 (w5.setCell ⟨D, 2, none⟩ t5) := (Keep.refl _ _).set1 _ _
    have hd : RDev (w5.setCell ⟨D, 2, none⟩ t5) D sv a2 t5 sure (wait ++ [(k, padB s)]) (burnt fuse) := by
      refine ⟨by rw [setCell_heap head5]; rfl, (row3.keep K35 (fun b hb hx => (h1.apart1 b hb).2 hx)).keep KD (fun b hb => h1.apart0 b (.inl hb)), (ats3.keep K35 (fun b hb hx => a2tv b hb hx)).keep KD nD2, own5'.keep KD n5D, ?_, fun b hb => ⟨a2ne b hb, t5ne b hb⟩, a2t5, h1.len, h1.lo, h1.hi, by rw [List.length_append]; simp; omega, fun p hp => by rcases List.mem_append.1 hp with hp | hp; exact h1.inb p hp; obtain rfl := List.mem_singleton.1 hp; exact hk⟩
      rintro b (hb | hb | hb)
      · exact h1.apart0 b (.inl hb)
      · exact nD2 b hb
      · exact n5D b hb
    have mt : Mov w tv t5 := m5.imp id (fun hh b hb => Nat.le_trans (Nat.le_trans K1.size lt13) (hh b hb))
    have ma : Mov w av a2 := m2.imp id (fun hh b hb => Nat.le_trans K1.size (hh b hb))
    have Kall : Keep (RB D sv av tv) w (w5.setCell ⟨D, 2, none⟩ t5) :=
      (((K1.mono (S' := RB D sv av tv) (fun b _ hb => Or.inl hb)).then (K13.mono (S' := RB D sv av tv) (fun b _ hb => hb.elim Or.inl (fun hx => Or.inr (Or.inr (Or.inl hx)))))).then (K35.mono (S' := RB D sv av tv) (fun b _ hb => Or.inr (Or.inr (Or.inr hb))))).setCell (p := ⟨D, 2, none⟩) (.inl (Or.inl rfl)) t5
    clear a2ne t5ne svlt a2lt a2tv a2t5 n5D head5 K35 own5' m5 KD K4 K5 K4'
    go_wp2_with fail
    go_ret
    exact ⟨rfl, ⟨a2, t5, hd, ma, mt⟩, Kall⟩
end
end Go.Proofs.YtndcaaikjcicgaaDoor
