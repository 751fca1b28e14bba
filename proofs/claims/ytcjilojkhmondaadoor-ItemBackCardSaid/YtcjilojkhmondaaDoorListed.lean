/-
  DERIVED. A law's fact: items as text (listed).
-/
import Derived.Test.YtcjilojkhmondaaDoorParse2
set_option linter.unusedVariables false
set_option linter.unusedSimpArgs false
namespace Go.Cof
open Go.Lib Go.Proofs.YtcjilojkhmondaaDoor
def twoP : List PItem := [(⟨#[97]⟩, ⟨#[]⟩, [1, -2]), (⟨#[98]⟩, ⟨#[116]⟩, [0, 3])]
def twoT : List UInt8 := [100, 105, 109, 32, 50, 10, 97, 32, 32, 49, 32, 45, 50, 10, 98, 32, 116, 32, 48, 32, 51, 10]
theorem itoa_dig (d : Nat) (h : d < 10) : itoa (d : Int) = [UInt8.ofNat (48 + d)] := by
  unfold itoa
  rw [if_neg (by omega), Int.toNat_natCast, decDigits, dif_pos h]
theorem two_print : printT 2 twoP = twoT := by
  have i2 : itoa 2 = [50] := itoa_dig 2 (by omega)
  have i1 : itoa 1 = [49] := itoa_dig 1 (by omega)
  have i0 : itoa 0 = [48] := itoa_dig 0 (by omega)
  have i3 : itoa 3 = [51] := itoa_dig 3 (by omega)
  have im : itoa (-2) = [45, 50] := by
    unfold itoa
    rw [if_pos (by omega)]
    show 45 :: decDigits 2 = _
    rw [decDigits, dif_pos (by omega)]
    rfl
  simp only [printT, twoP, lineT, bodyT, i2, i1, i0, i3, im, List.map_cons, List.map_nil, List.flatMap_cons, List.flatMap_nil]
  rfl
theorem two_ok : printOk 2 twoP = true := by decide +kernel
theorem two_parse : parseT twoT = some (2, twoP) := by rw [← two_print]; exact parse_print two_ok
end Go.Cof
namespace Go.Proofs.YtcjilojkhmondaaDoor
open Go.RowKit Go.Cof
def twoItems (b : Nat) : List ItemV := [⟨⟨#[97]⟩, ⟨#[]⟩, .slice (some ⟨b, 0, none⟩) 2 2, [1, -2]⟩, ⟨⟨#[98]⟩, ⟨#[116]⟩, .slice (some ⟨b + 1, 0, none⟩) 2 2, [0, 3]⟩]
theorem two_laid (w : World) : ∃ W, W = ((w.alloc (.cells #[.int .i64 1, .int .i64 (-2)] 3)).alloc (.cells #[.int .i64 0, .int .i64 3] 3)).alloc (.cells #[.string ⟨#[97]⟩, .string ⟨#[]⟩, .slice (some ⟨w.heap.size, 0, none⟩) 2 2, .string ⟨#[98]⟩, .string ⟨#[116]⟩, .slice (some ⟨w.heap.size + 1, 0, none⟩) 2 2] 34) ∧
    Items W (.slice (some ⟨w.heap.size + 1 + 1, 0, none⟩) 2 2) (twoItems w.heap.size) ∧ Keep NoB w W := by
  obtain ⟨w1, h1⟩ : ∃ w1, w1 = w.alloc (.cells #[.int .i64 1, .int .i64 (-2)] 3) := ⟨_, rfl⟩
  obtain ⟨w2, h2⟩ : ∃ w2, w2 = w1.alloc (.cells #[.int .i64 0, .int .i64 3] 3) := ⟨_, rfl⟩
  have s1 : w1.heap.size = w.heap.size + 1 := by rw [h1]; simp
  have s2 : w2.heap.size = w.heap.size + 1 + 1 := by rw [h2]; simp [s1]
  have n1 : Nums w1 (.slice (some ⟨w.heap.size, 0, none⟩) 2 2) [1, -2] := by rw [h1]; exact Nums.lit (w := w) [1, -2]
  have n2 : Nums w2 (.slice (some ⟨w.heap.size + 1, 0, none⟩) 2 2) [0, 3] := by rw [h2, ← s1]; exact Nums.lit (w := w1) [0, 3]
  have k1 : Keep NoB w w1 := by rw [h1]; exact (Keep.refl _ _).alloc _
  have k2 : Keep NoB w1 w2 := by rw [h2]; exact (Keep.refl _ _).alloc _
  obtain ⟨w4, h4⟩ : ∃ w4, w4 = w2.alloc (.cells ((twoItems w.heap.size).flatMap encItem).toArray 34) := ⟨_, rfl⟩
  have k4 : Keep NoB w2 w4 := by rw [h4]; exact (Keep.refl _ _).alloc _
  have r4 : RowsK w4 (.slice (some ⟨w.heap.size + 1 + 1, 0, none⟩) 2 2) 3 encItem (twoItems w.heap.size) := by
    rw [h4, ← s2]
    exact RowsK.lit encItem_len (twoItems w.heap.size)
  refine ⟨w4, ?_, ⟨r4, ?_⟩, (k1.then k2).then k4⟩
  · rw [h4, h2, h1]
    rfl
  · intro x hx
    simp only [twoItems, List.mem_cons, List.not_mem_nil, or_false] at hx
    rcases hx with rfl | rfl
    · exact (n1.keep k2 (fun _ _ x => x)).keep k4 (fun _ _ x => x)
    · exact n2.keep k4 (fun _ _ x => x)
set_option maxRecDepth 100000 in
set_option maxHeartbeats 4000000 in
theorem listed_any (w : World) (V : ItemVars w) : Calls Tryd.prog 36 #[] w fun e w' => e = .returned (.bool true) ∧ Keep NoB w w' := by
  obtain ⟨W, hW, I, K⟩ := two_laid w
  have hmap : (twoItems w.heap.size).map plainI = twoP := rfl
  have hp := print_any 2 _ (twoItems w.heap.size) W I (by show 2 ≤ maxLen; unfold maxLen; decide) (fun x hx => by simp only [twoItems, List.mem_cons, List.not_mem_nil, or_false] at hx; rcases hx with rfl | rfl <;> (show 2 ≤ 1000000; decide)) (V.keep K).pow
  have e1 : printS 2 (twoItems w.heap.size) = ⟨twoT.toArray⟩ := by rw [printS, hmap, if_pos two_ok, two_print]
  have e2 : printE 2 (twoItems w.heap.size) = .nilIface := by rw [printE, hmap, if_pos two_ok]
  rw [e1, e2] at hp
  have hq := fun (W' : World) (K' : Keep NoB w W') => parse_any ⟨twoT.toArray⟩ W' (by decide) (V.keep K')
  have Hp := Lib.hid hp
  have Hq := Lib.hid hq
  have HW := Lib.hid hW
  clear hp hq hW e1 e2 hmap I
  have htl : (⟨twoT.toArray⟩ : ByteArray).toList = [100, 105, 109, 32, 50, 10, 97, 32, 32, 49, 32, 45, 50, 10, 98, 32, 116, 32, 48, 32, 51, 10] := by rw [ByteArray.toList_eq]; rfl
  go_enter Tryd.func36, Tryd.ntmps36
  go_wp2_with fail
  rw [← HW.out]
  refine Hp.out.mono ?_
  rintro e w1 ⟨rfl, K1⟩
  clear Hp HW
  go_wp2_with fail
  refine (Hq.out _ (K.thenN K1)).mono ?_
  rintro e w2 ⟨hs, K2⟩
  rw [ParseSaid, show (⟨twoT.toArray⟩ : ByteArray).data.toList = twoT from rfl, two_parse] at hs
  obtain ⟨v, L, rfl, hL, I2⟩ := hs
  obtain ⟨p, c, rfl⟩ := I2.rows.len
  have hl : L.length = 2 := by have := congrArg List.length hL; simpa [twoP] using this
  obtain ⟨x, y, rfl⟩ : ∃ x y, L = [x, y] := by
    match L, hl with
    | [x, y], _ => exact ⟨x, y, rfl⟩
  obtain ⟨b, off, rfl, -, hb, hcell⟩ := I2.rows.at (by simp)
  have hy := hcell 1 y rfl
  have ht : y.tag = ⟨#[116]⟩ := by
    have h := congrArg (fun l => (l.getD 1 (⟨#[]⟩, ⟨#[]⟩, [])).2.1) hL
    exact h
  have c1 : w2.cell? ⟨b, off + 1 * 3 + 1, none⟩ = some (.string ⟨#[116]⟩) := by rw [← ht]; exact hy 1 _ rfl
  have htl2 : (⟨#[116]⟩ : ByteArray).toList = [116] := by rw [ByteArray.toList_eq]
  clear Hq hcell hy ht I2 hL hl
  simp only [List.length_cons, List.length_nil]
  go_wp2_with fail
  go_ret
  exact ⟨rfl, (K.thenN K1).thenN K2⟩
end Go.Proofs.YtcjilojkhmondaaDoor
