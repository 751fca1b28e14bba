/-
  DERIVED. The walk of the reference's Lay.
-/
import Derived.Test.YtndcaaikjcicgaaDoorRDev4
import Derived.Test.YtndcaaikjcicgaaDoorLay
set_option linter.unusedVariables false
set_option linter.unusedSimpArgs false
namespace Go.Cof
open Go.RowKit
theorem laidAt_pad (l : List ByteArray) (k : Nat) (s q : ByteArray) (hs : s = if k < l.length then l.getD k ⟨#[]⟩ else ⟨#[]⟩) (m : Nat) (hq : bs q = bs s ++ List.replicate m 0) (h2 : 256 ≤ q.size) (h3 : m ≤ 256) : q.extract 0 256 = laidAt l k := by
  have hz : Bytes (List.replicate 256 0) := fun x hx => by rw [(List.mem_replicate.1 hx).2]; omega
  have hlen : (bs q).length = s.size + m := by rw [hq, List.length_append, bs_len, List.length_replicate]
  rw [bs_len] at hlen
  have key : q.extract 0 256 = (s ++ zeroB).extract 0 256 := by
    apply bs_inj
    rw [bs_extract, bs_extract, List.drop_zero, List.drop_zero, hq, bs_append, zeroB, bs_txt hz, List.take_append, List.take_append, List.take_replicate, List.take_replicate, bs_len]
    congr 2
    omega
  rw [key, laidAt]
  split at hs
  · rename_i h
    rw [if_pos h, hs]
  · rename_i h
    rw [if_neg h, hs]
    apply bs_inj
    rw [bs_extract, List.drop_zero, bs_append]
    show List.take 256 ([] ++ bs zeroB) = bs zeroB
    rw [List.nil_append, List.take_of_length_le (by rw [bs_len, zeroB_size]; exact Nat.le_refl _)]
end Go.Cof
namespace Go.Proofs.YtndcaaikjcicgaaDoor
open Go.RowKit Go.Cof
section
variable {w : World} {D : Nat} {sv av tv : Value} {sure : List ByteArray} {wait : List (Nat × ByteArray)} {fuse : Int}
set_option maxRecDepth 100000 in
set_option maxHeartbeats 4000000 in
theorem refLay_any (h : RDev w D sv av tv sure wait fuse) (v : Value) (l : List ByteArray) (T : Strs w v l) (hl : l.length ≤ 1000000) (hs : ∀ s ∈ l, s.size ≤ 1000000) (hB : 0 < l.length → ∀ b, v.ownBlock = some b → ¬ RB D sv av tv b) :
    Calls Tryd.prog 53 #[.pointer (some ⟨D, 0, none⟩), v] w fun e w' => e = .returned (.tuple #[]) ∧ RDev w' D sv (.slice none 0 0) (.slice none 0 0) (layP l) [] fuse ∧ Keep (RB D sv av tv) w w' := by
  obtain ⟨a, c, rfl⟩ := T.len
  obtain ⟨n, hn⟩ : ∃ n, n = l.length := ⟨_, rfl⟩
  rw [← hn] at T hB hl
  rw [← hn]
  have Hn := Lib.hid hn
  clear hn
  have hsl := h.len
  have Hsl := Lib.hid hsl
  clear hsl
  obtain ⟨S, cS, rfl, _, _, _⟩ := h.row.at (by omega)
  obtain ⟨c0, c1, c2, _, ff⟩ := h.cellsD
  have f1 := ff 1
  have f2 := ff 2
  have hcl := h.cleared
  have hKc : Keep (RB D (.slice (some ⟨S, 0, none⟩) 66 cS) av tv) w ((w.setCell ⟨D, 1, none⟩ (.slice none 0 0)).setCell ⟨D, 2, none⟩ (.slice none 0 0)) := ((Keep.refl _ w).setCell (p := ⟨D, 1, none⟩) (.inl (Or.inl rfl)) _).setCell (p := ⟨D, 2, none⟩) (.inl (Or.inl rfl)) _
  clear ff
  go_enter Tryd.func53, Tryd.ntmps53
  go_wp2_with fail
  refine wp_world (fun w2 => RDev w2 D (.slice (some ⟨S, 0, none⟩) 66 cS) (.slice none 0 0) (.slice none 0 0) sure [] fuse ∧ Keep (RB D (.slice (some ⟨S, 0, none⟩) 66 cS) av tv) w w2) ⟨hcl, hKc⟩ ?_
  clear hcl hKc c0 c1 c2 f1 f2
  intro w2 hw2
  go_loopw [17] (fun i wr => ∃ k : Nat, k ≤ 66 ∧ i = .int .i64 k ∧ RDev wr D (.slice (some ⟨S, 0, none⟩) 66 cS) (.slice none 0 0) (.slice none 0 0) (layTo sure l k) [] fuse ∧ Keep (RB D (.slice (some ⟨S, 0, none⟩) 66 cS) av tv) w wr) (fun i _ => 66 - (intOf i).toNat)
  case atStart => exact ⟨0, by omega, rfl, hw2.1, hw2.2⟩
  case round =>
    clear hw2 w2
    obtain ⟨k, hk, rfl, hd, K⟩ := hrel
    by_cases hlt : k < 66
    · have j1 : (k : Int) < 66 := by omega
      obtain ⟨cD, _, _, _, _⟩ := hd.cellsD
      obtain ⟨_, _, hSS, hSl, hcS, hfS⟩ := hd.row.at (by omega)
      cases hSS
      have fS := hfS k hlt
      have hsc := hcS k (.string ((layTo sure l k).getD k ⟨#[]⟩)) (by rw [strCells, List.getElem?_map, List.getD_eq_getElem?_getD, List.getElem?_eq_getElem (by rw [hd.len]; exact hlt)]; rfl)
      clear hcS hfS
      obtain ⟨s, hsx⟩ : ∃ s, s = if k < l.length then l.getD k ⟨#[]⟩ else ⟨#[]⟩ := ⟨_, rfl⟩
      have hsz : s.size ≤ 1000000 := by
        rw [hsx]
        split
        · rename_i hx
          apply hs
          rw [List.getD_eq_getElem?_getD, List.getElem?_eq_getElem hx]
          exact List.getElem_mem _
        · decide
      have hfin := fun (q : ByteArray) (m : Nat) (h1 : bs q = bs s ++ List.replicate m 0) (h2 : 256 ≤ q.size) (h3 : m ≤ 256) => laidAt_pad l k s q hsx m h1 h2 h3
      have Hfin := Lib.hid hfin
      clear hfin
      by_cases hkn : k < n
      · have j2 : decide (k < n) = true := by simp; omega
        have j3 : (k : Int) < n := by omega
        have T2 := T.keep K (hB (by have := Hn.out; omega))
        obtain ⟨b, off, rfl, -, hb, hcell⟩ := T2.at (by have := Hn.out; omega)
        have hck := hcell k (by have := Hn.out; omega)
        rw [if_pos (by rw [← Hn.out]; exact hkn)] at hsx
        rw [← hsx] at hck
        clear hcell hsx T2
        go_wp2_with fail
        go_loop [5] (fun v => ∃ (q : ByteArray) (m : Nat), v = .string q ∧ m ≤ 256 ∧ (m = 0 ∨ q.size ≤ 256) ∧ Hid (bs q = bs s ++ List.replicate m 0)) (fun v => 256 - (match v with | .string q => q.size | _ => 0))
        case atStart => exact ⟨s, 0, rfl, by omega, .inl rfl, Lib.hid (by simp)⟩
        case round =>
          obtain ⟨q, m, rfl, hm, hms, hq⟩ := hrel
          by_cases hlq : q.size < 256
          · have j4 : (q.size : Int) < 256 := by omega
            have hcat : ¬ (9223372036854775807 < q.size + (ByteArray.mk #[0]).size) := by show ¬ (9223372036854775807 < q.size + 1); omega
            go_wp2_with fail
            have hl2 : (bs q).length = s.size + m := by rw [hq.out, List.length_append, bs_len, List.length_replicate]
            rw [bs_len] at hl2
            have hone : bs (⟨#[0]⟩ : ByteArray) = [0] := rfl
            have hs1 : (q ++ (⟨#[0]⟩ : ByteArray)).size = q.size + 1 := ByteArray.size_append
            refine ⟨⟨q ++ ⟨#[0]⟩, m + 1, rfl, by omega, .inr (by omega), Lib.hid ?_⟩, ?_⟩
            · rw [bs_append, hq.out, hone, List.replicate_succ', List.append_assoc]
            · show 256 - (q ++ (⟨#[0]⟩ : ByteArray)).size < 256 - q.size
              omega
          · have j4 : ¬ ((q.size : Int) < 256) := by omega
            have hq2 : q.extract 0 256 = laidAt l k := Hfin.out q m hq.out (by omega) hm
            have j5 : (256 : Int) ≤ q.size := by omega
            have j6 : 256 ≤ q.size := by omega
            go_wp2_with fail
            refine wp_region_qt_drew 8 (by kernel_rfl) (by kernel_rfl) ?_
            simp only [List.take_succ_cons, List.take_zero, List.drop_succ_cons, List.drop_zero]
            repeat (quiet_step (fail))
            refine wpQuiet_nil ?_
            intro nq
            go_wp2_with fail
            have hd3 := (hd.keep ((Keep.refl NoB wr).drewN nq) (fun _ _ x => x)).setSure (S := S) rfl k hlt (laidAt l k)
            exact ⟨⟨k + 1, by omega, by go_num, hd3, (K.drewN nq).setCell (p := ⟨S, k, none⟩) (.inl (Or.inr (Or.inl rfl))) _⟩, by simp [intOf]; omega⟩
      · have j2 : decide (k < n) = false := by simp; omega
        have j3 : ¬ ((k : Int) < n) := by omega
        rw [if_neg (by rw [← Hn.out]; exact hkn)] at hsx
        subst hsx
        go_wp2_with fail
        go_loop [5] (fun v => ∃ (q : ByteArray) (m : Nat), v = .string q ∧ m ≤ 256 ∧ (m = 0 ∨ q.size ≤ 256) ∧ Hid (bs q = bs ⟨#[]⟩ ++ List.replicate m 0)) (fun v => 256 - (match v with | .string q => q.size | _ => 0))
        case atStart => exact ⟨⟨#[]⟩, 0, rfl, by omega, .inl rfl, Lib.hid (by simp)⟩
        case round =>
          obtain ⟨q, m, rfl, hm, hms, hq⟩ := hrel
          by_cases hlq : q.size < 256
          · have j4 : (q.size : Int) < 256 := by omega
            have hcat : ¬ (9223372036854775807 < q.size + (ByteArray.mk #[0]).size) := by show ¬ (9223372036854775807 < q.size + 1); omega
            go_wp2_with fail
            have hl2 : (bs q).length = (⟨#[]⟩ : ByteArray).size + m := by rw [hq.out, List.length_append, bs_len, List.length_replicate]
            rw [bs_len] at hl2
            have hone : bs (⟨#[0]⟩ : ByteArray) = [0] := rfl
            have hs1 : (q ++ (⟨#[0]⟩ : ByteArray)).size = q.size + 1 := ByteArray.size_append
            refine ⟨⟨q ++ ⟨#[0]⟩, m + 1, rfl, by omega, .inr (by omega), Lib.hid ?_⟩, ?_⟩
            · rw [bs_append, hq.out, hone, List.replicate_succ', List.append_assoc]
            · show 256 - (q ++ (⟨#[0]⟩ : ByteArray)).size < 256 - q.size
              omega
          · have j4 : ¬ ((q.size : Int) < 256) := by omega
            have hq2 : q.extract 0 256 = laidAt l k := Hfin.out q m hq.out (by omega) hm
            have j5 : (256 : Int) ≤ q.size := by omega
            have j6 : 256 ≤ q.size := by omega
            go_wp2_with fail
            refine wp_region_qt_drew 8 (by kernel_rfl) (by kernel_rfl) ?_
            simp only [List.take_succ_cons, List.take_zero, List.drop_succ_cons, List.drop_zero]
            repeat (quiet_step (fail))
            refine wpQuiet_nil ?_
            intro nq
            go_wp2_with fail
            have hd3 := (hd.keep ((Keep.refl NoB wr).drewN nq) (fun _ _ x => x)).setSure (S := S) rfl k hlt (laidAt l k)
            exact ⟨⟨k + 1, by omega, by go_num, hd3, (K.drewN nq).setCell (p := ⟨S, k, none⟩) (.inl (Or.inr (Or.inl rfl))) _⟩, by simp [intOf]; omega⟩
    · obtain rfl : k = 66 := by omega
      rw [layTo_all sure l Hsl.out] at hd
      go_wp2_with fail
      go_end0
      exact ⟨rfl, hd, K⟩
end
end Go.Proofs.YtndcaaikjcicgaaDoor
