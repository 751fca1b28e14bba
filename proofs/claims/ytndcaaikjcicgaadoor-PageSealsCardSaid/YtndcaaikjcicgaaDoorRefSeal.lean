/-
  DERIVED. The walk of the reference's Seal.
-/
import Derived.Test.YtndcaaikjcicgaaDoorSeal
import Derived.Test.YtndcaaikjcicgaaDoorRefXor
set_option linter.unusedVariables false
set_option linter.unusedSimpArgs false
namespace Go.Proofs.YtndcaaikjcicgaaDoor
open Go.RowKit Go.Cof
set_option maxRecDepth 100000 in
set_option maxHeartbeats 4000000 in
theorem refSeal_ok (RB : Nat) (key : ByteArray) (id ver : Int) (text : ByteArray) (hk : key.size = 32) (hi0 : 0 ≤ id) (hi1 : id < 32) (hv0 : 1 ≤ ver) (hv1 : ver ≤ 1099511627776) (ht : text.size ≤ 200) (w : World) (RR : RefR w RB) :
    Calls Tryd.prog 56 #[.pointer (some ⟨RB, 0, none⟩), .string key, .int .i64 id, .int .i64 ver, .string text] w fun e w' => e = .returned (.tuple #[.string (txt (sealP (bs key) id ver (bs text))), .int .i64 0]) ∧ Keep NoB w w' := by
  obtain ⟨BB, N, X, V, C, G, eB, sB, eN, sN, eX, sX, eV, sV, eC, sC, eG, sG, eR⟩ := seal_parts key id ver text hk ht
  obtain ⟨A, hA⟩ : ∃ A, A = txt (be64 (u64n id)) := ⟨_, rfl⟩
  have bA : bs A = be64 (u64n id) := by rw [hA, bs_txt (be64_bytes _)]
  have bV : bs V = be64 (u64n ver) := by rw [eV, bs_txt (be64_bytes _)]
  obtain ⟨M, hM⟩ : ∃ M, M = txt (Cof.mark 110 ([key, A, V, text].map bs)) := ⟨_, rfl⟩
  have hMs : (12 : Int) ≤ M.size := by rw [hM, txt_size, mark_len]; decide
  have hMe : M.extract 0 12 = N := by
    apply bs_inj
    rw [bs_extract, hM, bs_txt (mark_bytes _ _), List.drop_zero, eN, nonceP, bs_txt (bytes_take (mark_bytes _ _) _)]
    simp only [List.map_cons, List.map_nil, bA, bV]
  have b1 : ((key.size : Int) != 32) = false := by rw [hk]; rfl
  have j1 : (text.size : Int) ≤ 200 := by omega
  have hx : ∀ w, Calls Tryd.prog 98 #[.string key, .string N, .string BB] w fun e w' => e = .returned (.tuple #[.string X, .int .i64 0]) ∧ Keep NoB w w' := by
    rw [eX]; exact refXor_any key N BB hk sN (by omega)
  have hnV : ∀ w, Calls Tryd.prog 18 #[.int .i64 ver] w fun e w' => e = .returned (.string V) ∧ Keep NoB w w' := by
    rw [eV]; exact refNum_int ver
  have hnA : ∀ w, Calls Tryd.prog 18 #[.int .i64 id] w fun e w' => e = .returned (.string A) ∧ Keep NoB w w' := by
    rw [hA]; exact refNum_int id
  have hl1 : (markText 110 ([key, A, V, text].map bs)).length ≤ 100000 := by
    simp only [List.map_cons, List.map_nil, bA, bV, markText, List.foldl_cons, List.foldl_nil, List.length_append, List.length_cons, List.length_nil, be64_len, bs_len]; omega
  have hl2 : (markText 103 ([key, A, C].map bs)).length ≤ 100000 := by
    simp only [List.map_cons, List.map_nil, bA, markText, List.foldl_cons, List.foldl_nil, List.length_append, List.length_cons, List.length_nil, be64_len, bs_len]; omega
  have hmG : txt (Cof.mark 103 ([key, A, C].map bs)) = G := by rw [eG, tagP]; simp only [List.map_cons, List.map_nil, bA]
  have hcat3 : ¬ (9223372036854775807 < V.size + N.size) := by omega
  have hcat4 : ¬ (9223372036854775807 < V.size + N.size + X.size) := by omega
  have hcat5 : ¬ (9223372036854775807 < C.size + G.size) := by omega
  rw [← eR]
  have EB := Lib.hid eB
  have EC := Lib.hid eC
  have EM := Lib.hid hM
  have EN := Lib.hid hMe
  have EG := Lib.hid hmG
  have HL1 := Lib.hid hl1
  have HL2 := Lib.hid hl2
  clear eB sB eN sN eX sX eV sV eC sC eG sG eR hk hA bA bV hM hMe hmG hl1 hl2
  go_enter Tryd.func56, Tryd.ntmps56
  go_wp2_with fail
  refine (in_yes id 0 31 (by omega) (by omega) w).mono ?_
  rintro e w1 ⟨rfl, hw1⟩
  subst w1
  go_wp2_with fail
  refine (in_yes ver 1 1099511627776 (by omega) (by omega) w).mono ?_
  rintro e w1 ⟨rfl, hw1⟩
  subst w1
  go_wp2_with fail
  refine (hnA _).mono ?_
  rintro e w1 ⟨rfl, K1⟩
  go_wp2_with fail
  refine (hnV _).mono ?_
  rintro e w2 ⟨rfl, K2⟩
  have K2' := K1.thenN K2
  go_wp2_with fail
  refine (refMark_any RB 110 (by decide) _ [key, A, V, text] _ (Keep.heap (K2'.alloc _) RR (fun x => x)) (Strs.lit (w := w2) [key, A, V, text]) HL1.out (by simp)).mono ?_
  rw [← EM.out]
  rintro e w3 ⟨rfl, K3⟩
  have K3' := (K2'.alloc _).thenN K3
  clear K1 K2 K2' K3
  go_wp2_with fail
  rw [EN.out]
  have hrow : ∀ w : World, BRow (w.alloc (.cells #[.int .u8 (text.size : Int)] 5)).drew w.heap.size 5 [text.size] := fun w => ⟨_, _, heap_alloc_new w _, rfl, fun i _ => by simp⟩
  have hsB := fun (w : World) (b : Nat) (hb : BRow w b 5 [text.size]) => run_string_row (P := Tryd.prog) (cap := 1) hb Tryd.underlying104 Tryd.underlying5 Tryd.underlying9
  have hsD : ∀ w : World, (convert 104 9 (.slice (some ⟨w.heap.size, 0, none⟩) 1 1)).run Tryd.prog (w.alloc (.cells #[.int .u8 (text.size : Int)] 5)).drew = .ok (.string (txt [text.size])) (w.alloc (.cells #[.int .u8 (text.size : Int)] 5)).drew := fun w => hsB _ _ (hrow w)
  have hsE : ∀ w : World, (convert 104 9 (.slice (some ⟨w.heap.size, 0, none⟩) 1 1)).run Tryd.prog (w.alloc (.cells #[.int .u8 (text.size : Int)] 5)) = .ok (.string (txt [text.size])) (w.alloc (.cells #[.int .u8 (text.size : Int)] 5)) := fun w => hsB _ _ ⟨_, _, heap_alloc_new w _, rfl, fun i _ => by simp⟩
  have hsU : ∀ a w2 : World, Keep NoB a w2 → (∀ b, BRow a b 5 [text.size] → (convert 104 9 (.slice (some ⟨b, 0, none⟩) 1 1)).run Tryd.prog w2 = .ok (.string (txt [text.size])) w2) ∧ (∀ b, BRow a b 5 [text.size] → (convert 104 9 (.slice (some ⟨b, 0, none⟩) 1 1)).run Tryd.prog w2.drew = .ok (.string (txt [text.size])) w2.drew) := fun a w2 K => by
    refine ⟨fun b hb => ?_, fun b hb => ?_⟩ <;> obtain ⟨cur, fr, h, r⟩ := hb
    · exact hsB _ _ ⟨cur, fr, K.heap h (fun x => x), r⟩
    · exact hsB _ _ ⟨cur, fr, K.heap h (fun x => x), r⟩
  have e1 : IntKind.u8.wrap (text.size : Int) = (text.size : Int) := by rw [IntKind.wrap_u8]; omega
  have e2 : IntKind.i64.wrap (200 - (text.size : Int)) = 200 - (text.size : Int) := IntWalk.i64_in _ (by omega)
  have hcat1 : ¬ (9223372036854775807 < (txt [text.size]).size + text.size) := by rw [txt_size]; simp; omega
  have hcat2 : ¬ (9223372036854775807 < (txt [text.size]).size + text.size + (txt (List.replicate (200 - text.size) 0)).size) := by rw [txt_size, txt_size]; simp; omega
  go_region_law (first
    | (go_simp; go_at_call 93; refine (zeros_any _ (200 - text.size) (by omega) (by omega) _).mono ?_; rintro e w4 ⟨rfl, K4⟩; have hsk := (hsU _ _ K4).1; have hsk2 := (hsU _ _ K4).2)
    | (go_simp; go_at_call 98; rw [← EB.out]; refine (hx _).mono ?_; rintro e w5 ⟨rfl, K5⟩))
  all_goals have K6 : Keep NoB w w5 := by first | exact ((K3'.alloc _).drew.thenN K4).thenN K5 | exact ((K3'.drew.thenN K4).alloc _).thenN K5
  all_goals clear K3' K4 K5 hx hrow hsB hsD hsE hsU hsk hsk2 hcat1 hcat2 e1 e2
  all_goals go_wp2_with fail
  all_goals (refine (hnV _).mono ?_; rintro e w6 ⟨rfl, K7⟩)
  all_goals have K8 := K6.thenN K7
  all_goals clear hnV K6 K7
  all_goals go_wp2_with fail
  all_goals rw [← EC.out]
  all_goals (refine (hnA _).mono ?_; rintro e w7 ⟨rfl, K9⟩)
  all_goals have K10 := K8.thenN K9
  all_goals go_wp2_with fail
  all_goals (refine (refMark_any RB 103 (by decide) _ [key, A, C] _ (Keep.heap (K10.alloc _) RR (fun x => x)) (Strs.lit (w := w7) [key, A, C]) HL2.out (by simp)).mono ?_; rw [EG.out]; rintro e w8 ⟨rfl, K11⟩)
  all_goals go_wp2_with fail
  all_goals go_ret2
  all_goals exact ⟨rfl, (K10.alloc _).thenN K11⟩
end Go.Proofs.YtndcaaikjcicgaaDoor
