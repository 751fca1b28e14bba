/-
  DERIVED. The walks of the reference's device: Image, NewDevice.
-/
import Derived.Test.YtndcaaikjcicgaaDoorRDev3
set_option linter.unusedVariables false
set_option linter.unusedSimpArgs false
namespace Go.Proofs.YtndcaaikjcicgaaDoor
open Go.RowKit Go.Cof
theorem strs_ofN {w : World} {base : Nat} {E : TypeId} {v : Value} {l : List ByteArray} (h : OwnsN w base E 1 v l.length (strCells l)) : Strs w v l := by
  by_cases h0 : 0 < l.length
  · obtain ⟨g, cap, rfl, hg, hc, _⟩ := h.at h0
    refine .inr ⟨g, 0, cap, rfl, hg, fun i hi => ?_⟩
    rw [Nat.zero_add]
    exact hc i _ (by rw [strCells, List.getElem?_map, List.getD_eq_getElem?_getD, List.getElem?_eq_getElem hi]; rfl)
  · have hnil : l = [] := List.eq_nil_of_length_eq_zero (by omega)
    subst hnil
    rcases h.2 with ⟨hv, _⟩ | ⟨g, cap, cur, fz, hv, _⟩
    · exact .inl ⟨rfl, _, _, hv⟩
    · exact .inl ⟨rfl, _, _, hv⟩
section
variable {w : World} {D : Nat} {sv av tv : Value} {sure : List ByteArray} {wait : List (Nat × ByteArray)} {fuse : Int}
set_option maxRecDepth 100000 in
set_option maxHeartbeats 4000000 in
theorem refImage_any (h : RDev w D sv av tv sure wait fuse) :
    Calls Tryd.prog 54 #[.pointer (some ⟨D, 0, none⟩)] w fun e w' => ∃ v, e = .returned v ∧ Strs w' v sure ∧ Keep NoB w w' := by
  obtain ⟨S, cS, rfl, hS, hcell, _⟩ := h.row.at (by omega)
  obtain ⟨cs, _, _, _, _⟩ := h.cellsD
  have hD := lt_of_heap h.head
  obtain ⟨i0, hi0, hz0, hz1, hz2⟩ := info_parts info_string
  have hl := h.len
  have hsl : (strCells sure).length = 66 * 1 := by rw [strCells, List.length_map, hl]
  have hsrc : ∀ (w2 : World), Keep NoB w w2 → ∀ (j : Nat) (u : Value), (strCells sure)[j]? = some u → w2.cell? ((⟨S, 0, none⟩ : Addr).add j) = some u := by
    intro w2 K j u hu
    have hadd : (⟨S, 0, none⟩ : Addr).add j = ⟨S, j, none⟩ := by unfold Addr.add; split <;> simp_all
    rw [hadd]
    exact (K.cell (p := ⟨S, j, none⟩) hS (fun x => x)).trans (hcell j u hu)
  have hone : ∀ u ∈ strCells sure, u.oneCell' = true := by
    intro u hu
    simp only [strCells, List.mem_map] at hu
    obtain ⟨s, _, rfl⟩ := hu
    rfl
  have Hl := Lib.hid hl
  have Hsl := Lib.hid hsl
  clear hl hsl hcell
  go_enter Tryd.func54, Tryd.ntmps54
  go_wp2_with (refine wpList_append_s _ rfl (.tmp 3) (.tmp 7) 22 rfl w.heap.size 9 i0 (.string ⟨#[]⟩) 1 16 Tryd.underlying22 hi0 hz0 hz1 hz2 rfl (by decide) _ 0 [] rfl (OwnsN.lit w w.heap.size 9 1 #[] 0 (Nat.le_refl _) (Nat.zero_le _) rfl) ⟨S, 0, none⟩ 66 cS (strCells sure) rfl Hsl.out (hsrc _ ((Keep.refl NoB w).alloc _)) hone (by decide) (by decide) (by simp) ?_; intro v2 w2 own2 hgrow2 where2)
  have K2 : Keep NoB w w2 := ((Keep.refl NoB w).alloc (.cells #[] 9)).grown hgrow2 (fun c hc => by cases hc; exact .inr (Nat.le_refl _))
  clear hgrow2 where2
  rw [Nat.zero_add, List.nil_append, ← Hl.out] at own2
  go_ret
  exact ⟨v2, rfl, strs_ofN own2, K2⟩
end
/-- The reference's device while it is made. -/
theorem zerosB : txt (List.replicate 256 0) = zeroB := rfl
set_option maxRecDepth 100000 in
set_option maxHeartbeats 4000000 in
theorem refNew_any (w : World) :
    Calls Tryd.prog 48 #[] w fun e w' => ∃ sv, e = .returned (.pointer (some ⟨w.heap.size, 0, none⟩)) ∧ RDev w' w.heap.size sv (.slice none 0 0) (.slice none 0 0) sure0 [] (-1) ∧ (∀ b, sv.ownBlock = some b → w.heap.size < b) ∧ Keep NoB w w' := by
  obtain ⟨i0, hi0, hz0, hz1, hz2⟩ := info_parts info_string
  obtain ⟨D, hD⟩ : ∃ D, D = w.heap.size := ⟨_, rfl⟩
  have HD := Lib.hid hD
  have hzer := fun w => zeros_any 256 256 rfl (by omega) w
  rw [zerosB] at hzer
  clear hD
  go_enter Tryd.func48, Tryd.ntmps48
  go_wp2_with fail
  rw [← HD.out]
  go_loopw [4] (fun i wr => ∃ (k : Nat) (sv : Value), k ≤ 66 ∧ i = .int .i64 k ∧ wr.heap[D]? = some (.cells #[sv, .slice none 0 0, .slice none 0 0, .int .i64 (-1)] 139 (0, 0)) ∧ OwnsN wr 0 9 1 sv k (strCells (List.replicate k zeroB)) ∧ (∀ b, sv.ownBlock = some b → D < b) ∧ Keep NoB w wr) (fun i _ => 66 - (intOf i).toNat)
  case atStart => exact ⟨0, .slice none 0 0, by omega, rfl, by rw [HD.out]; exact heap_alloc_new w _, OwnsN.nil _ _ _ _, (fun b hb => by cases hb), (Keep.refl NoB w).alloc _⟩
  case round =>
    obtain ⟨k, sv, hk, rfl, head, own, hlt, K⟩ := hrel
    by_cases hkk : k < 66
    · have j1 : (k : Int) < 66 := by omega
      have c0 : wr.cell? ⟨D, 0, none⟩ = some sv := by simp [World.cell?, head]
      have f0 : wr.frozen? ⟨D, 0, none⟩ = false := by simp [World.frozen?, head]
      have hDl := lt_of_heap head
      have nD : ∀ b, sv.ownBlock = some b → b ≠ D := fun b hb => by have := hlt b hb; omega
      go_wp2_with fail
      go_region_law (first
        | (go_simp; go_at_call 93; refine (hzer _).mono ?_; rintro e w4 ⟨rfl, K4'⟩; have K4 : Keep NoB wr w4 := ((Keep.refl NoB wr).drew).thenN K4'; have c4 := (K4.cell (p := ⟨D, 0, none⟩) hDl (fun x => x)).trans c0; have hD4 : D < w4.heap.size := Nat.lt_of_lt_of_le hDl K4.size)
        | (refine step_append_s rfl _ _ 22 rfl 0 9 i0 (.string ⟨#[]⟩) 1 16 Tryd.underlying22 hi0 hz0 hz1 hz2 rfl (by decide) sv k (strCells (List.replicate k zeroB)) rfl ((own.keep K4 (fun _ _ x => x)).alloc _) ⟨w4.heap.size, 0, none⟩ 1 1 [.string zeroB] rfl rfl (cells_new _ _ _) (by intro u hu; obtain rfl := List.mem_singleton.1 hu; rfl) (by unfold maxLen; omega) (by omega) (Nat.zero_le _) ?_; intro v5 w5 own5 hgrow5 where5; have K5 : Keep (fun b => sv.ownBlock = some b) w4 w5 := ((Keep.refl _ w4).alloc _).grown hgrow5 (fun c hc => .inl hc); have c5 := (K5.cell (p := ⟨D, 0, none⟩) (Nat.lt_of_lt_of_le hDl K4.size) (fun hb => nD D hb rfl)).trans c4; have f5 := (K5.frozen (p := ⟨D, 0, none⟩) (Nat.lt_of_lt_of_le hDl K4.size) (fun hb => nD D hb rfl)).trans ((K4.frozen (p := ⟨D, 0, none⟩) hDl (fun x => x)).trans f0); obtain ⟨g5, cap5, rfl, _, _⟩ := own5.some (by omega)))
      all_goals
        have own6 : OwnsN w5 0 9 1 (.slice (some ⟨g5, 0, none⟩) (k + 1) cap5) (k + 1) (strCells (List.replicate (k + 1) zeroB)) := by
          rw [List.replicate_succ', strCells, List.map_append]; exact own5
        have hg5 : D < g5 := by
          rcases where5 with where5 | where5
          · exact hlt g5 (where5 ▸ rfl)
          · have q1 := where5 g5 rfl; rw [World.size_alloc] at q1; omega
        have K35 : Keep (fun b => sv.ownBlock = some b) wr w5 := (K4.mono (fun b _ hb => hb.elim)).then K5
        have head5 := setCell_heap (i := 0) (K35.heap head (fun hb => nD D hb rfl)) (.slice (some ⟨g5, 0, none⟩) (k + 1) cap5)
        have Kall : Keep NoB w (w5.setCell ⟨D, 0, none⟩ (.slice (some ⟨g5, 0, none⟩) (k + 1) cap5)) := (K.trans K35 (fun i hi hs => by have := hlt i hs; have := HD.out; omega)).setCell (p := ⟨D, 0, none⟩) (.inr (show w.heap.size ≤ D by have := HD.out; omega)) _
        have own7 := own6.keep ((Keep.refl (OneB D) w5).set1 0 (.slice (some ⟨g5, 0, none⟩) (k + 1) cap5)) (fun b hb => by obtain rfl : g5 = b := Option.some.inj hb; show ¬ g5 = D; omega)
        clear own5 where5 hgrow5 own6 K35
        go_wp2_with fail
        exact ⟨⟨k + 1, .slice (some ⟨g5, 0, none⟩) (k + 1) cap5, by omega, by go_num, head5, own7, (fun b hb => by obtain rfl : g5 = b := Option.some.inj hb; exact hg5), Kall⟩, by simp [intOf]; omega⟩
    · obtain rfl : k = 66 := by omega
      have HD2 := HD.out
      have hd : RDev wr D sv (.slice none 0 0) (.slice none 0 0) sure0 [] (-1) := by
        refine ⟨head, own, OwnsN.nil _ _ _ _, OwnsN.nil _ _ _ _, ?_, (fun b hb => ⟨(fun e => by cases e), (fun e => by cases e)⟩), (fun b hb => by cases hb), List.length_replicate, by omega, by omega, Nat.zero_le _, (fun p hp => by cases hp)⟩
        rintro b (hb | hb | hb)
        · have := hlt b hb; omega
        · cases hb
        · cases hb
      clear HD2
      go_wp2_with fail
      go_ret
      rw [← HD.out]
      exact ⟨sv, rfl, hd, hlt, K⟩
end Go.Proofs.YtndcaaikjcicgaaDoor
