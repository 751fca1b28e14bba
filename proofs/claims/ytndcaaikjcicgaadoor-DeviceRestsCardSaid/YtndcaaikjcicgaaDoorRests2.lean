/-
  DERIVED. The walk of the law DeviceRests: the way that is asked.
-/
import Derived.Test.YtndcaaikjcicgaaDoorRests
set_option linter.unusedVariables false
set_option linter.unusedSimpArgs false
namespace Go.Proofs.YtndcaaikjcicgaaDoor
open Go.RowKit Go.Cof
/-- Power is lost where nothing waits: whatever keeps tells. -/
theorem crash_empty {w : World} {D S : Nat} {sure : List ByteArray} {fuse : Int} (h : DevAt w D S (.slice none 0 0) sure [] fuse) (p : Option Addr) (m c : Nat) :
    Calls Tryd.prog 40 #[.pointer (some ⟨D, 0, none⟩), .slice p m c] w fun e w' => e = .returned (.tuple #[]) ∧ DevAt w' D S (.slice none 0 0) sure [] (-1) ∧ Keep (OneB D) w w' := by
  have c1 := h.cell1.1
  have f1 := h.cell2.2 1
  have c2 := h.cell2.1
  have f2 := h.cell2.2 2
  have hd2 := (h.setWait (.slice none 0 0) [] (OwnsN.nil _ _ _ _) (fun b hb => by cases hb) (Nat.zero_le _) (fun p hp => by cases hp)).setFuse (-1) (by omega) (by omega)
  go_enter Tryd.func40, Tryd.ntmps40
  go_wp2_with fail
  refine wp_loop_rounds 1 ?_
  rw [rounds_succ]
  go_wp2_with fail
  go_end0
  exact ⟨rfl, hd2, (((Keep.refl (OneB D) w).set1 _ _).set1 _ _)⟩
section
variable {w0 w : World} {D S : Nat} {wv : Value} {sure : List ByteArray} {wait : List (Nat × ByteArray)} {fuse : Int}
theorem crashEmpty_N (h : DevN w0 w D S (.slice none 0 0) sure [] fuse) (p : Option Addr) (m c : Nat) :
    Calls Tryd.prog 40 #[.pointer (some ⟨D, 0, none⟩), .slice p m c] w fun e w' => e = .returned (.tuple #[]) ∧ DevN w0 w' D S (.slice none 0 0) sure [] (-1) ∧ Keep (DevB D S (.slice none 0 0)) w w' :=
  (crash_empty h.dev p m c).mono fun _ _ ⟨he, hd, hK⟩ => ⟨he, h.step hd (.inl rfl) (one_dev hK), one_dev hK⟩
/-- What lies outside of the device, and stays there. -/
theorem DevN.old (h : DevN w0 w D S wv sure wait fuse) {b : Nat} (hb : b < w0.heap.size) : ¬ DevB D S wv b := fun hd => by have := h.own b hd; omega
theorem out_step {w : World} {wv' : Value} {b : Nat} (hb : b < w.heap.size) (hn : ¬ DevB D S wv b) (M : Moved w wv wv') : ¬ DevB D S wv' b := fun h => hn (devB_back M b hb h)
end
set_option maxRecDepth 100000 in
set_option maxHeartbeats 8000000 in
theorem rests_yes (v0 v1 : Value) (p2 : Option Addr) (c2 : Nat) (p3 : Option Addr) (c3 : Nat) (l more : List ByteArray) (ats : List Int) (n m : Nat) (hn : n = ats.length) (w : World) (T : Strs w v0 l) (M : Strs w v1 more) (N : Nums w (.slice p2 n c2) ats)
    (hT : 0 < l.length → ∀ b, v0.ownBlock = some b → b < w.heap.size) (hM : 0 < more.length → ∀ b, v1.ownBlock = some b → b < w.heap.size) (hN : ∀ b, (Value.slice p2 n c2).ownBlock = some b → b < w.heap.size)
    (hg : ErrVar w) (h0 : fewB l = true) (h1 : fewB more = true) (ha0 : 0 < n) (ha1 : n ≤ 20) (hk : m ≤ 30) :
    Calls Tryd.prog 6 #[v0, v1, .slice p2 n c2, .slice p3 m c3] w fun e w' => e = .returned (.bool true) ∧ Keep NoB w w' := by
  obtain ⟨l1, l2⟩ := fewB_yes h0
  obtain ⟨m1, m2⟩ := fewB_yes h1
  have hw1 : Keep NoB w (w.alloc (.cells #[.slice p2 n c2] 30)) := (Keep.refl NoB w).alloc _
  have hf0 := few_any v0 l _ (T.keep hw1 (fun _ _ x => x)) (by unfold maxLen; omega)
  have hf1 := few_any v1 more _ (M.keep hw1 (fun _ _ x => x)) (by unfold maxLen; omega)
  rw [h0] at hf0
  rw [h1] at hf1
  have d0 : ((n : Int) == 0) = false := by simp; omega
  have d1 : decide ((20 : Int) < n) = false := by simp; omega
  have d2 : decide ((30 : Int) < m) = false := by simp; omega
  have hcA : (w.alloc (.cells #[.slice p2 n c2] 30)).cell? ⟨w.heap.size, 0, none⟩ = some (.slice p2 n c2) := by simp
  have hN' : Hid (n = ats.length) := hn
  clear hn
  go_enter Tryd.func6, Tryd.ntmps6
  go_wp2_with fail
  refine hf0.mono ?_
  rintro e w' ⟨rfl, hw⟩
  subst w'
  go_wp2_with fail
  refine hf1.mono ?_
  rintro e w' ⟨rfl, hw⟩
  subst w'
  go_wp2_with fail
  refine (lost_any _ (hg.keep hw1 (fun x => x))).mono ?_
  rintro e w2 ⟨rfl, K2⟩
  have K2' := hw1.thenN K2
  have cA2 : w2.cell? ⟨w.heap.size, 0, none⟩ = some (.slice p2 n c2) := (K2.cell (p := ⟨w.heap.size, 0, none⟩) (by simp) (fun x => x)).trans hcA
  have hBA2 : w.heap.size < w2.heap.size := by have := K2.size; rw [World.size_alloc] at this; omega
  clear hf0 hf1 hcA d0 d1 d2
  go_wp2_with fail
  refine (new_N w2).mono ?_
  rintro e w3 ⟨D, S, rfl, h3⟩
  have h4 := h3.keepN ((Keep.refl NoB w3).alloc (.cells #[.pointer (some ⟨D, 0, none⟩)] 55))
  have c9 : (w3.alloc (.cells #[.pointer (some ⟨D, 0, none⟩)] 55)).cell? ⟨w3.heap.size, 0, none⟩ = some (.pointer (some ⟨D, 0, none⟩)) := by simp
  have n9 : ¬ DevB D S (.slice none 0 0) w3.heap.size := fun hd => by have := h3.lt _ hd; omega
  have l9 : w3.heap.size < (w3.alloc (.cells #[.pointer (some ⟨D, 0, none⟩)] 55)).heap.size := by simp
  obtain ⟨B9, hB9⟩ : ∃ B, B = w3.heap.size := ⟨_, rfl⟩
  have oldw : ∀ {b : Nat}, b < w.heap.size → b < w2.heap.size := fun h => Nat.lt_of_lt_of_le h K2'.size
  have cA4 := (h4.keep.cell (p := ⟨w.heap.size, 0, none⟩) hBA2 (fun x => x)).trans cA2
  have hBA4 : w.heap.size < (w3.alloc (.cells #[.pointer (some ⟨D, 0, none⟩)] 55)).heap.size := Nat.lt_of_lt_of_le hBA2 h4.keep.size
  have hput := put_any h4 w3.heap.size w.heap.size v0 (.slice p2 n c2) l ats c9 cA4 l9 hBA4 n9 (h4.old hBA2) (T.keep (K2'.thenN h4.keep) (fun _ _ x => x)) (N.keep (K2'.thenN h4.keep) (fun _ _ x => x)) (fun hl b hb => h4.old (oldw (hT hl b hb))) (fun b hb => h4.old (oldw (hN b hb))) (by omega) l2 (by rw [← hN'.out]; exact ha0) (by rw [← hN'.out]; omega) (by simp)
  rw [List.nil_append] at hput
  clear K2 hw1 cA4 hBA4
  go_wp2_with fail
  refine hput.mono ?_
  clear hput
  rintro e w5 ⟨rfl, wv5, h5, M5, KK5⟩
  have c95 := (KK5.cell (p := ⟨w3.heap.size, 0, none⟩) l9 n9).trans c9
  have n95 := out_step l9 n9 M5
  have l95 : w3.heap.size < w5.heap.size := Nat.lt_of_lt_of_le l9 KK5.size
  rw [← hB9] at c95 n95 l95
  rw [← hB9]
  clear hB9 c9 n9 l9 M5 KK5 h4 h3
  obtain ⟨sure1, hs1⟩ : ∃ s, s = applyW sure0 (putsOf ats l l.length) := ⟨_, rfl⟩
  have a1 : All256 sure1 := by rw [hs1]; exact applyW_256 _ _ sure0_256 (putsOf_256 ats l _ (Nat.le_refl _) l2)
  have z1 : sure1.length = 66 := by rw [hs1, applyW_len]; exact List.length_replicate
  have hsy := sync_N h5 (by decide)
  rw [← hs1] at hsy
  have Z1 := Lib.hid z1
  have A1 := Lib.hid a1
  clear hs1 z1 a1
  go_wp2_with fail
  refine hsy.mono ?_
  clear hsy
  rintro e w6 ⟨rfl, h6', KK6⟩
  have h6 : DevN w2 w6 D S (.slice none 0 0) sure1 [] (-1) := h6'
  have c96 := (KK6.cell (p := ⟨B9, 0, none⟩) l95 n95).trans c95
  have n96 : ¬ DevB D S (.slice none 0 0) B9 := out_step l95 n95 (.inr (fun b hb => by cases hb))
  have l96 : B9 < w6.heap.size := Nat.lt_of_lt_of_le l95 KK6.size
  clear h6' KK6 c95 n95 l95 h5
  go_wp2_with fail
  refine (image_N h6).mono ?_
  rintro e w7 ⟨g, cg, rfl, S7, hg7, h7, KK7⟩
  have ng7 : ¬ DevB D S (.slice none 0 0) g := fun hd => by have := h6.lt _ hd; omega
  have c97 := (KK7.cell (p := ⟨B9, 0, none⟩) l96 (fun x => x)).trans c96
  have l97 : B9 < w7.heap.size := Nat.lt_of_lt_of_le l96 KK7.size
  clear h6 KK7 c96 l96 hg7
  go_wp2_with fail
  refine (crashEmpty_N h7 p3 m c3).mono ?_
  rintro e w8 ⟨rfl, h8, KK8⟩
  have S8 := S7.keep KK8 (fun b hb => by cases hb; exact ng7)
  have c98 := (KK8.cell (p := ⟨B9, 0, none⟩) l97 n96).trans c97
  have l98 : B9 < w8.heap.size := Nat.lt_of_lt_of_le l97 KK8.size
  clear h7 KK8 c97 l97 S7
  go_wp2_with fail
  refine (image_N h8).mono ?_
  rintro e w9 ⟨g2, cg2, rfl, S9b, -, h9, KK9⟩
  have S9 := S8.keep KK9 (fun _ _ x => x)
  have c99 := (KK9.cell (p := ⟨B9, 0, none⟩) l98 (fun x => x)).trans c98
  have l99 : B9 < w9.heap.size := Nat.lt_of_lt_of_le l98 KK9.size
  clear h8 KK9 c98 l98 S8
  have he := equal_any _ _ sure1 sure1 w9 S9b S9 (by rw [Z1.out]; decide) (by rw [Z1.out]; decide)
  rw [show decide (sure1 = sure1) = true by simp] at he
  go_wp2_with fail
  refine he.mono ?_
  clear he S9b
  rintro e w10 ⟨rfl, KK10⟩
  have h10 := h9.keepN KK10
  have S10 := S9.keep KK10 (fun _ _ x => x)
  have c910 := (KK10.cell (p := ⟨B9, 0, none⟩) l99 (fun x => x)).trans c99
  have l910 : B9 < w10.heap.size := Nat.lt_of_lt_of_le l99 KK10.size
  clear h9 KK10 c99 l99 S9
  have cA10 := (h10.keep.cell (p := ⟨w.heap.size, 0, none⟩) hBA2 (fun x => x)).trans cA2
  have hput := put_any h10 B9 w.heap.size v1 (.slice p2 n c2) more ats c910 cA10 l910 (Nat.lt_of_lt_of_le hBA2 h10.keep.size) n96 (h10.old hBA2) (M.keep (K2'.thenN h10.keep) (fun _ _ x => x)) (N.keep (K2'.thenN h10.keep) (fun _ _ x => x)) (fun hl b hb => h10.old (oldw (hM hl b hb))) (fun b hb => h10.old (oldw (hN b hb))) (by omega) m2 (by rw [← hN'.out]; exact ha0) (by rw [← hN'.out]; omega) (by simp)
  rw [List.nil_append] at hput
  clear cA10
  go_wp2_with fail
  refine hput.mono ?_
  clear hput
  rintro e w11 ⟨rfl, wv11, h11, M11, KK11⟩
  have g10 : g < w10.heap.size := by
    obtain ⟨_, _, hgo, _, hlt, _⟩ := S10.at (by rw [Z1.out]; decide)
    cases hgo; exact hlt
  have S11 := S10.keep KK11 (fun b hb => by cases hb; exact ng7)
  have ng11 := out_step g10 ng7 M11
  have g11 : g < w11.heap.size := Nat.lt_of_lt_of_le g10 KK11.size
  have c11 := (KK11.cell (p := ⟨B9, 0, none⟩) l910 n96).trans c910
  have n11 := out_step l910 n96 M11
  have l11 : B9 < w11.heap.size := Nat.lt_of_lt_of_le l910 KK11.size
  clear h10 KK11 c910 l910 S10 M11 g10
  go_wp2_with fail
  refine (image_N h11).mono ?_
  rintro e w12 ⟨g2', cg2', rfl, S12b, -, h12, KK12⟩
  have S12 := S11.keep KK12 (fun _ _ x => x)
  have g12 : g < w12.heap.size := Nat.lt_of_lt_of_le g11 KK12.size
  have c12 := (KK12.cell (p := ⟨B9, 0, none⟩) l11 (fun x => x)).trans c11
  have l12 : B9 < w12.heap.size := Nat.lt_of_lt_of_le l11 KK12.size
  clear h11 KK12 c11 l11 S11 g11
  have he := equal_any _ _ sure1 sure1 w12 S12b S12 (by rw [Z1.out]; decide) (by rw [Z1.out]; decide)
  rw [show decide (sure1 = sure1) = true by simp] at he
  go_wp2_with fail
  refine he.mono ?_
  clear he S12b
  rintro e w13 ⟨rfl, KK13⟩
  have h13 := h12.keepN KK13
  have S13 := S12.keep KK13 (fun _ _ x => x)
  have g13 : g < w13.heap.size := Nat.lt_of_lt_of_le g12 KK13.size
  have c13 := (KK13.cell (p := ⟨B9, 0, none⟩) l12 (fun x => x)).trans c12
  have l13 : B9 < w13.heap.size := Nat.lt_of_lt_of_le l12 KK13.size
  clear h12 KK13 c12 l12 S12 g12
  go_wp2_with fail
  refine (sync_N h13 (by decide)).mono ?_
  rintro e w14 ⟨rfl, h14, KK14⟩
  have S14 := S13.keep KK14 (fun b hb => by cases hb; exact ng11)
  have ng14 : ¬ DevB D S (.slice none 0 0) g := out_step g13 ng11 (.inr (fun b hb => by cases hb))
  have g14 : g < w14.heap.size := Nat.lt_of_lt_of_le g13 KK14.size
  have c14 := (KK14.cell (p := ⟨B9, 0, none⟩) l13 n11).trans c13
  have l14 : B9 < w14.heap.size := Nat.lt_of_lt_of_le l13 KK14.size
  clear h13 KK14 c13 l13 S13 g13 n11 ng11
  have hlay := lay_N h14 _ sure1 S14 (by rw [Z1.out]; decide) (fun s hs => by rw [A1.out s hs]; decide) (fun b hb => by cases hb; exact ng14)
  rw [layP_self sure1 Z1.out A1.out] at hlay
  go_wp2_with fail
  refine hlay.mono ?_
  clear hlay
  rintro e w15 ⟨rfl, h15', KK15⟩
  have h15 : DevN w2 w15 D S (.slice none 0 0) sure1 [] (-1) := h15'
  have S15 := S14.keep KK15 (fun b hb => by cases hb; exact ng14)
  have c15 := (KK15.cell (p := ⟨B9, 0, none⟩) l14 n96).trans c14
  have l15 : B9 < w15.heap.size := Nat.lt_of_lt_of_le l14 KK15.size
  clear h14 KK15 c14 l14 S14 h15' g14 ng14
  go_wp2_with fail
  refine (image_N h15).mono ?_
  rintro e w16 ⟨g3, cg3, rfl, S16b, -, h16, KK16⟩
  have S16 := S15.keep KK16 (fun _ _ x => x)
  have c16 := (KK16.cell (p := ⟨B9, 0, none⟩) l15 (fun x => x)).trans c15
  have l16 : B9 < w16.heap.size := Nat.lt_of_lt_of_le l15 KK16.size
  clear h15 KK16 c15 l15 S15
  have he := equal_any _ _ sure1 sure1 w16 S16b S16 (by rw [Z1.out]; decide) (by rw [Z1.out]; decide)
  rw [show decide (sure1 = sure1) = true by simp] at he
  go_wp2_with fail
  refine he.mono ?_
  clear he S16b
  rintro e w17 ⟨rfl, KK17⟩
  have h17 := h16.keepN KK17
  have S17 := S16.keep KK17 (fun _ _ x => x)
  have c17 := (KK17.cell (p := ⟨B9, 0, none⟩) l16 (fun x => x)).trans c16
  have l17 : B9 < w17.heap.size := Nat.lt_of_lt_of_le l16 KK17.size
  clear h16 KK17 c16 l16 S16
  go_wp2_with fail
  refine (fuse_N h17 0 (by decide)).mono ?_
  rintro e w18 ⟨rfl, h18', KK18⟩
  have h18 : DevN w2 w18 D S (.slice none 0 0) sure1 [] 0 := h18'
  have S18 := S17.keep KK18 (fun b hb => by cases hb; exact ng7)
  have c18 := (KK18.cell (p := ⟨B9, 0, none⟩) l17 n96).trans c17
  have l18 : B9 < w18.heap.size := Nat.lt_of_lt_of_le l17 KK18.size
  clear h17 KK18 c17 l17 S17 h18'
  go_wp2_with fail
  refine (writeSpent_N h18 3 ⟨#[120]⟩ (by omega) (by decide)).mono ?_
  rintro e w19 ⟨rfl, h19, KK19⟩
  have S19 := S18.keep KK19 (fun b hb => by cases hb; exact ng7)
  have c19 := (KK19.cell (p := ⟨B9, 0, none⟩) l18 n96).trans c18
  have l19 : B9 < w19.heap.size := Nat.lt_of_lt_of_le l18 KK19.size
  clear h18 KK19 c18 l18 S18
  go_wp2_with fail
  refine (tell_errno 14 w19 (hg.keep (K2'.thenN h19.keep) (fun x => x))).mono ?_
  rintro e w20 ⟨rfl, KK20⟩
  have h20 := h19.keepN KK20
  have S20 := S19.keep KK20 (fun _ _ x => x)
  have c20 := (KK20.cell (p := ⟨B9, 0, none⟩) l19 (fun x => x)).trans c19
  have l20 : B9 < w20.heap.size := Nat.lt_of_lt_of_le l19 KK20.size
  clear h19 KK20 c19 l19 S19
  go_wp2_with fail
  refine (syncSpent_N h20).mono ?_
  rintro e w21 ⟨rfl, h21, KK21⟩
  have S21 := S20.keep KK21 (fun b hb => by cases hb; exact ng7)
  have c21 := (KK21.cell (p := ⟨B9, 0, none⟩) l20 n96).trans c20
  have l21 : B9 < w21.heap.size := Nat.lt_of_lt_of_le l20 KK21.size
  clear h20 KK21 c20 l20 S20
  go_wp2_with fail
  refine (tell_errno 14 w21 (hg.keep (K2'.thenN h21.keep) (fun x => x))).mono ?_
  rintro e w22 ⟨rfl, KK22⟩
  have h22 := h21.keepN KK22
  have S22 := S21.keep KK22 (fun _ _ x => x)
  have c22 := (KK22.cell (p := ⟨B9, 0, none⟩) l21 (fun x => x)).trans c21
  clear h21 KK22 c21 l21 S21
  go_wp2_with fail
  refine (image_N h22).mono ?_
  rintro e w23 ⟨g4, cg4, rfl, S23b, -, h23, KK23⟩
  have S23 := S22.keep KK23 (fun _ _ x => x)
  have he := equal_any _ _ sure1 sure1 w23 S23b S23 (by rw [Z1.out]; decide) (by rw [Z1.out]; decide)
  rw [show decide (sure1 = sure1) = true by simp] at he
  go_wp2_with fail
  refine he.mono ?_
  clear he S23b
  rintro e w24 ⟨rfl, KK24⟩
  go_wp2_with fail
  go_ret
  exact ⟨rfl, K2'.thenN (h23.keep.thenN KK24)⟩
theorem strs_own_lt {w : World} {v : Value} {l : List ByteArray} (h : Strs w v l) (hl : 0 < l.length) : ∀ b, v.ownBlock = some b → b < w.heap.size := by
  intro b hb
  obtain ⟨p, c, rfl⟩ := h.len
  obtain ⟨B, off, rfl, _, hB, _⟩ := h.at hl
  cases hb
  exact hB
theorem nums_own_lt {w : World} {v : Value} {l : List Int} (h : Nums w v l) (hl : 0 < l.length) : ∀ b, v.ownBlock = some b → b < w.heap.size := by
  intro b hb
  obtain ⟨p, c, rfl⟩ := h.len
  obtain ⟨B, off, rfl, _, hB, _⟩ := h.at hl
  cases hb
  exact hB
theorem deviceRests_any (v0 v1 v2 : Value) (p3 : Option Addr) (m c3 : Nat) (l more : List ByteArray) (ats : List Int) (w : World) (hg : ErrVar w) (T : Strs w v0 l) (M : Strs w v1 more) (N : Nums w v2 ats)
    (hl : l.length ≤ maxLen) (hm : more.length ≤ maxLen) (ha : ats.length ≤ maxLen) (hk : m ≤ maxLen) :
    Calls Tryd.prog 6 #[v0, v1, v2, .slice p3 m c3] w fun e w' => e = .returned (.bool true) ∧ Keep NoB w w' := by
  cases h : restsAsk l more ats (List.replicate m false) with
  | false => exact rests_no v0 v1 v2 _ l more ats (List.replicate m false) w T M N ⟨p3, c3, by rw [List.length_replicate]⟩ hl hm ha (by rw [List.length_replicate]; exact hk) h
  | true =>
    simp only [restsAsk, Bool.and_eq_true, Bool.not_eq_true', decide_eq_false_iff_not, List.length_replicate] at h
    obtain ⟨⟨⟨⟨h0, h1⟩, h2⟩, h3⟩, h4⟩ := h
    obtain ⟨p2, c2, rfl⟩ := N.len
    exact rests_yes v0 v1 p2 c2 p3 c3 l more ats _ m rfl w T M N (strs_own_lt T) (strs_own_lt M) (nums_own_lt N (by omega)) hg h0 h1 (by omega) (by omega) (by omega)
end Go.Proofs.YtndcaaikjcicgaaDoor
