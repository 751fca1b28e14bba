/-
  DERIVED. The walk of device.Lay.
-/
import Derived.Test.YtndcaaikjcicgaaDoorImage
import Derived.Test.YtndcaaikjcicgaaDoorExt
set_option linter.unusedVariables false
set_option linter.unusedSimpArgs false
namespace Go.Cof
open Go.RowKit
/-- What a block is when texts are laid down. -/
def laidAt (l : List ByteArray) (k : Nat) : ByteArray := if k < l.length then (l.getD k ⟨#[]⟩ ++ zeroB).extract 0 256 else zeroB
def layTo (sure l : List ByteArray) : Nat → List ByteArray
  | 0 => sure
  | k + 1 => (layTo sure l k).set k (laidAt l k)
def layP (l : List ByteArray) : List ByteArray := (List.range 66).map (laidAt l)
theorem layTo_len (sure l : List ByteArray) (k : Nat) : (layTo sure l k).length = sure.length := by
  induction k with
  | zero => rfl
  | succ k ih => rw [layTo, List.length_set, ih]
theorem layTo_get (sure l : List ByteArray) (k i : Nat) (hk : k ≤ sure.length) : (layTo sure l k)[i]? = if i < k then some (laidAt l i) else sure[i]? := by
  induction k with
  | zero => simp [layTo]
  | succ k ih =>
    rw [layTo]
    by_cases hi : i = k
    · subst hi
      rw [List.getElem?_set_self (by rw [layTo_len]; omega), if_pos (by omega)]
    · rw [List.getElem?_set_ne (fun e => hi e.symm), ih (by omega)]
      by_cases h : i < k
      · rw [if_pos h, if_pos (by omega)]
      · rw [if_neg h, if_neg (by omega)]
theorem layTo_all (sure l : List ByteArray) (h : sure.length = 66) : layTo sure l 66 = layP l := by
  apply List.ext_getElem?
  intro i
  rw [layTo_get sure l 66 i (by omega), layP, List.getElem?_map]
  by_cases hi : i < 66
  · rw [if_pos hi, List.getElem?_range hi]; rfl
  · rw [if_neg hi, List.getElem?_eq_none (by omega), List.getElem?_eq_none (by rw [List.length_range]; omega)]; rfl
end Go.Cof
namespace Go.Proofs.YtndcaaikjcicgaaDoor
open Go.RowKit Go.Cof
set_option maxRecDepth 100000 in
set_option maxHeartbeats 4000000 in
theorem lay_any {w : World} {D S : Nat} {wv : Value} {sure : List ByteArray} {wait : List (Nat × ByteArray)} {fuse : Int} (h : DevAt w D S wv sure wait fuse) (v : Value) (l : List ByteArray) (T : Strs w v l) (hl : l.length ≤ 1000000) (hs : ∀ s ∈ l, s.size ≤ 1000000) (hB : ∀ b, v.ownBlock = some b → ¬ DevB D S wv b) :
    Calls Tryd.prog 42 #[.pointer (some ⟨D, 0, none⟩), v] w fun e w' => e = .returned (.tuple #[]) ∧ DevAt w' D S (.slice none 0 0) (layP l) [] fuse ∧ Keep (DevB D S wv) w w' := by
  obtain ⟨a, c, rfl⟩ := T.len
  obtain ⟨n, hn⟩ : ∃ n, n = l.length := ⟨_, rfl⟩
  rw [← hn] at T hB hl
  rw [← hn]
  have Hn := Lib.hid hn
  clear hn
  have hsl := h.len
  have Hsl := Lib.hid hsl
  clear hsl
  obtain ⟨_, cD0, cDc, hcD⟩ := h.cell1
  go_enter Tryd.func42, Tryd.ntmps42
  go_wp2_with fail
  clear cDc
  go_loopw [10] (fun i wr => ∃ k : Nat, k ≤ 66 ∧ i = .int .i64 k ∧ DevAt wr D S wv (layTo sure l k) wait fuse ∧ Keep (DevB D S wv) w wr) (fun i _ => 66 - (intOf i).toNat)
  case atStart => exact ⟨0, by omega, rfl, h, Keep.refl _ _⟩
  case round =>
    obtain ⟨k, hk, rfl, hd, K⟩ := hrel
    by_cases hlt : k < 66
    · have j1 : (k : Int) < 66 := by omega
      have hdc := hd.cell1
      obtain ⟨_, cS, cD, hcS⟩ := hdc
      obtain ⟨cb, fb⟩ := hd.block k hlt
      have hlt1 : D < wr.heap.size := by obtain ⟨c, h2, _⟩ := hd.head; exact lt_of_heap h2
      have hlt2 : S < wr.heap.size := by obtain ⟨c, h2, _⟩ := hd.row; exact lt_of_heap h2
      have hz := fun X : Ext wr => zero_any (wr.ext X)
      go_wp2_with fail
      refine wp_region_qt_ext 7 (by kernel_rfl) (by kernel_rfl) ?_
      simp only [List.take_succ_cons, List.take_zero, List.drop_succ_cons, List.drop_zero]
      repeat (quiet_step ((go_at_call 82; exact quiet_ext _ (hz _))))
      refine wpQuiet_nil ?_
      intro X
      clear hz
      have hd1 := (hd.keep (ext_keep wr X) (fun _ _ x => x)).setSure k hlt zeroB
      have K1 : Keep (DevB D S wv) w ((wr.ext X).setCell ⟨S, k, none⟩ (.string zeroB)) := (K.thenN (ext_keep wr X)).setCell (p := ⟨S, k, none⟩) (.inl (Or.inr (Or.inl rfl))) _
      by_cases hkn : k < n
      · have j2 : decide (k < n) = true := by simp; omega
        have j3 : (k : Int) < n := by omega
        go_wp2_with fail
        refine wp_world (fun w2 => DevAt w2 D S wv ((layTo sure l k).set k zeroB) wait fuse ∧ Keep (DevB D S wv) w w2) ⟨hd1, K1⟩ ?_
        clear hd1 K1 cb fb hd K cD hcS hlt1 hlt2
        clear X
        intro w2 hw2
        obtain ⟨hd, K⟩ := hw2
        have hdc := hd.cell1
        obtain ⟨_, cS2, cD, hcS⟩ := hdc
        obtain ⟨cb, fb⟩ := hd.block k hlt
        have hlt1 : D < w2.heap.size := by obtain ⟨c, h2, _⟩ := hd.head; exact lt_of_heap h2
        have hlt2 : S < w2.heap.size := by obtain ⟨c, h2, _⟩ := hd.row; exact lt_of_heap h2
        have T2 := T.keep K hB
        obtain ⟨b, off, rfl, hnl, hb, hcell⟩ := T2.at (by have := Hn.out; omega)
        have hck := hcell k (by have := Hn.out; omega)
        obtain ⟨s, hsx⟩ : ∃ s, s = l.getD k ⟨#[]⟩ := ⟨_, rfl⟩
        rw [← hsx] at hck
        have hsz : s.size ≤ 1000000 := by
          apply hs
          rw [hsx, List.getD_eq_getElem?_getD, List.getElem?_eq_getElem (by have := Hn.out; omega)]
          exact List.getElem_mem _
        have hla : laidAt l k = (s ++ zeroB).extract 0 256 := by rw [laidAt, if_pos (by have := Hn.out; omega), hsx]
        have hstep : ((layTo sure l k).set k zeroB).set k ((s ++ zeroB).extract 0 256) = layTo sure l (k + 1) := by rw [List.set_set, layTo, hla]
        have Hstep := Lib.hid hstep
        have hcat : ¬ (9223372036854775807 < s.size + zeroB.size) := by rw [zeroB_size]; omega
        have hlen : (256 : Int) ≤ s.size + zeroB.size := by rw [zeroB_size]; omega
        have hlen2 : 256 ≤ (s ++ zeroB).size := by rw [ByteArray.size_append, zeroB_size]; omega
        have hz := fun X : Ext w2 => zero_any (w2.ext X)
        clear hsx hla hstep hcell hnl T2
        refine wp_region_qt_ext 13 (by kernel_rfl) (by kernel_rfl) ?_
        simp only [List.take_succ_cons, List.take_zero, List.drop_succ_cons, List.drop_zero]
        repeat (quiet_step ((go_at_call 82; exact quiet_ext _ (hz _))))
        refine wpQuiet_nil ?_
        intro X
        clear hz
        go_wp2_with fail
        have hd3 := (hd.keep (ext_keep w2 X) (fun _ _ x => x)).setSure k hlt ((s ++ zeroB).extract 0 256)
        rw [Hstep.out] at hd3
        exact ⟨⟨k + 1, by omega, by go_num, hd3, (K.thenN (ext_keep w2 X)).setCell (p := ⟨S, k, none⟩) (.inl (Or.inr (Or.inl rfl))) _⟩, by simp [intOf]; omega⟩
      · have j2 : decide (k < n) = false := by simp; omega
        have hla : laidAt l k = zeroB := by rw [laidAt, if_neg (by have := Hn.out; omega)]
        rw [← hla] at hd1
        have hd2 : DevAt _ D S wv (layTo sure l (k + 1)) wait fuse := hd1
        rw [hla] at hd2
        clear hd1 hla
        go_wp2_with fail
        exact ⟨⟨k + 1, by omega, by go_num, hd2, K1⟩, by simp [intOf]; omega⟩
    · obtain rfl : k = 66 := by omega
      rw [layTo_all sure l Hsl.out] at hd
      have c1 := hd.cell1.1
      have f1 := hd.cell2.2 1
      have hd2 := hd.setWait (.slice none 0 0) [] (OwnsN.nil _ _ _ _) (fun b hb => by cases hb) (Nat.zero_le _) (fun p hp => by cases hp)
      go_wp2_with fail
      go_end0
      exact ⟨rfl, hd2, K.setCell (p := ⟨D, 1, none⟩) (.inl (Or.inl rfl)) _⟩
end Go.Proofs.YtndcaaikjcicgaaDoor
