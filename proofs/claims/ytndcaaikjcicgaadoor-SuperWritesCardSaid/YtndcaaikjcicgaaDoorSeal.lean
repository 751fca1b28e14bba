/-
  DERIVED. The walk of page.Seal.
-/
import Derived.Test.YtndcaaikjcicgaaDoorRepeat
import Derived.Test.YtndcaaikjcicgaaDoorXor
import Derived.Deep.RegionLaw
set_option linter.unusedVariables false
set_option linter.unusedSimpArgs false
namespace Go.Cof
open Go.RowKit
/-- What is sealed: how long the text is, the text, 0 behind it. -/
def bodyP (text : List Nat) : List Nat := [text.length] ++ text ++ List.replicate (200 - text.length) 0
def sealedP (key : List Nat) (id ver : Int) (text : List Nat) : List Nat := be64 (u64n ver) ++ nonceP key id ver text ++ xor key (nonceP key id ver text) (bodyP text)
def sealP (key : List Nat) (id ver : Int) (text : List Nat) : List Nat := sealedP key id ver text ++ tagP key id (sealedP key id ver text)
theorem nonceP_len (key : List Nat) (id ver : Int) (text : List Nat) : (nonceP key id ver text).length = 12 := by rw [nonceP, List.length_take, mark_len]; rfl
theorem nonceP_bytes (key : List Nat) (id ver : Int) (text : List Nat) : Bytes (nonceP key id ver text) := bytes_take (mark_bytes _ _) _
theorem tagP_bytes (key : List Nat) (id : Int) (s : List Nat) : Bytes (tagP key id s) := mark_bytes _ _
theorem tagP_len (key : List Nat) (id : Int) (s : List Nat) : (tagP key id s).length = 16 := mark_len _ _
theorem bytes_rep (n : Nat) : Bytes (List.replicate n 0) := fun x hx => by rw [(List.mem_replicate.1 hx).2]; omega
theorem bodyP_len (text : List Nat) (h : text.length ≤ 200) : (bodyP text).length = 201 := by
  rw [bodyP, List.length_append, List.length_append, List.length_replicate]; simp; omega
end Go.Cof
namespace Go.Proofs.YtndcaaikjcicgaaDoor
open Go.RowKit Go.Cof
theorem xor_bytes (key nonce s : List Nat) (hs : Bytes s) : Bytes (xor key nonce s) := by
  intro x hx
  rw [← xorTo_ge key nonce s s.length (Nat.le_refl _)] at hx
  obtain ⟨i, hi, rfl⟩ := List.getElem_of_mem hx
  have := xorTo_lt key nonce s hs s.length i
  rwa [List.getD_eq_getElem?_getD, List.getElem?_eq_getElem hi] at this
/-- The parts of a sealed page as texts, named. -/
theorem seal_parts (key : ByteArray) (id ver : Int) (text : ByteArray) (hk : key.size = 32) (ht : text.size ≤ 200) :
    ∃ BB N X V C G : ByteArray, BB = txt [text.size] ++ text ++ txt (List.replicate (200 - text.size) 0) ∧ BB.size = 201 ∧ N = txt (nonceP (bs key) id ver (bs text)) ∧ N.size = 12 ∧ X = txt (xor (bs key) (bs N) (bs BB)) ∧ X.size = 201 ∧
      V = txt (be64 (u64n ver)) ∧ V.size = 8 ∧ C = V ++ N ++ X ∧ C.size = 221 ∧ G = txt (tagP (bs key) id (bs C)) ∧ G.size = 16 ∧ C ++ G = txt (sealP (bs key) id ver (bs text)) := by
  have tb : Bytes [text.size] := fun x hx => by rw [List.mem_singleton.1 hx]; omega
  have hB : bs (txt [text.size] ++ text ++ txt (List.replicate (200 - text.size) 0)) = bodyP (bs text) := by
    rw [bs_append, bs_append, bs_txt tb, bs_txt (bytes_rep _), bodyP, bs_len]
  have hBl := bodyP_len (bs text) (by rw [bs_len]; exact ht)
  have hN := bs_txt (nonceP_bytes (bs key) id ver (bs text))
  have hBb : Bytes (bodyP (bs text)) := by rw [← hB]; exact bs_bytes _
  refine ⟨_, _, _, _, _, _, rfl, ?_, rfl, ?_, rfl, ?_, rfl, ?_, rfl, ?_, rfl, ?_, ?_⟩
  · rw [← bs_len, hB, hBl]
  · rw [txt_size, nonceP_len]
  · rw [txt_size, xor_len, hB, hBl]
  · rw [txt_size, be64_len]
  · rw [ByteArray.size_append, ByteArray.size_append, txt_size, txt_size, txt_size, be64_len, nonceP_len, xor_len, hB, hBl]
  · rw [txt_size, tagP_len]
  · apply bs_inj
    have hC : bs (txt (be64 (u64n ver)) ++ txt (nonceP (bs key) id ver (bs text)) ++ txt (xor (bs key) (bs (txt (nonceP (bs key) id ver (bs text)))) (bs (txt [text.size] ++ text ++ txt (List.replicate (200 - text.size) 0))))) = sealedP (bs key) id ver (bs text) := by
      rw [bs_append, bs_append, bs_txt (be64_bytes _), hN, hB, bs_txt (xor_bytes _ _ _ hBb), sealedP]
    have hb : Bytes (sealP (bs key) id ver (bs text)) := bytes_append (by rw [← hC]; exact bs_bytes _) (tagP_bytes _ _ _)
    rw [bs_append, hC, bs_txt (tagP_bytes _ _ _), bs_txt hb, sealP]
set_option maxRecDepth 100000 in
set_option maxHeartbeats 4000000 in
theorem seal_ok (key : ByteArray) (id ver : Int) (text : ByteArray) (hk : key.size = 32) (hi0 : 0 ≤ id) (hi1 : id < 32) (hv0 : 1 ≤ ver) (hv1 : ver ≤ 1099511627776) (ht : text.size ≤ 200) (w : World) (Vr : RoundsVar w) :
    Calls Tryd.prog 57 #[.string key, .int .i64 id, .int .i64 ver, .string text] w fun e w' => e = .returned (.tuple #[.string (txt (sealP (bs key) id ver (bs text))), .nilIface]) ∧ Keep NoB w w' := by
  obtain ⟨BB, N, X, V, C, G, eB, sB, eN, sN, eX, sX, eV, sV, eC, sC, eG, sG, eR⟩ := seal_parts key id ver text hk ht
  have b1 : ((key.size : Int) != 32) = false := by rw [hk]; rfl
  have j1 : (text.size : Int) ≤ 200 := by omega
  have hn : ∀ w, RoundsVar w → Calls Tryd.prog 99 #[.string key, .int .i64 id, .int .i64 ver, .string text] w fun e w' => e = .returned (.string N) ∧ Keep NoB w w' := by
    rw [eN]; exact nonce_any key id ver text (by omega) (by omega)
  have hx : ∀ w, Calls Tryd.prog 100 #[.string key, .string N, .string BB] w fun e w' => e = .returned (.tuple #[.string X, .nilIface]) ∧ Keep NoB w w' := by
    rw [eX]; exact xor_any key N BB hk sN (by omega)
  have hm : ∀ w, Calls Tryd.prog 17 #[.int .i64 ver] w fun e w' => e = .returned (.string V) ∧ Keep NoB w w' := by
    rw [eV]; exact num_int ver
  have hg : ∀ w, RoundsVar w → Calls Tryd.prog 101 #[.string key, .int .i64 id, .string C] w fun e w' => e = .returned (.string G) ∧ Keep NoB w w' := by
    rw [eG]; exact tag_any key id C (by omega) (by omega)
  have hcat3 : ¬ (9223372036854775807 < V.size + N.size) := by omega
  have hcat4 : ¬ (9223372036854775807 < V.size + N.size + X.size) := by omega
  have hcat5 : ¬ (9223372036854775807 < C.size + G.size) := by omega
  rw [← eR]
  have EB := Lib.hid eB
  have EC := Lib.hid eC
  clear eB sB eN sN eX sX eV sV eC sC eG sG eR hk
  have hrow : ∀ w : World, BRow (w.alloc (.cells #[.int .u8 (text.size : Int)] 5)).drew w.heap.size 5 [text.size] := fun w => ⟨_, _, heap_alloc_new w _, rfl, fun i _ => by simp⟩
  have hsB := fun (w : World) (b : Nat) (hb : BRow w b 5 [text.size]) => run_string_row (P := Tryd.prog) (cap := 1) hb Tryd.underlying104 Tryd.underlying5 Tryd.underlying9
  have hsD : ∀ w : World, (convert 104 9 (.slice (some ⟨w.heap.size, 0, none⟩) 1 1)).run Tryd.prog (w.alloc (.cells #[.int .u8 (text.size : Int)] 5)).drew = .ok (.string (txt [text.size])) (w.alloc (.cells #[.int .u8 (text.size : Int)] 5)).drew := fun w => hsB _ _ (hrow w)
  have hsE : ∀ w : World, (convert 104 9 (.slice (some ⟨w.heap.size, 0, none⟩) 1 1)).run Tryd.prog (w.alloc (.cells #[.int .u8 (text.size : Int)] 5)) = .ok (.string (txt [text.size])) (w.alloc (.cells #[.int .u8 (text.size : Int)] 5)) := fun w => hsB _ _ ⟨_, _, heap_alloc_new w _, rfl, fun i _ => by simp⟩
  have hsU : ∀ a w2 : World, Keep NoB a w2 → (∀ b, BRow a b 5 [text.size] → (convert 104 9 (.slice (some ⟨b, 0, none⟩) 1 1)).run Tryd.prog w2 = .ok (.string (txt [text.size])) w2) ∧ (∀ b, BRow a b 5 [text.size] → (convert 104 9 (.slice (some ⟨b, 0, none⟩) 1 1)).run Tryd.prog w2.drew = .ok (.string (txt [text.size])) w2.drew) := fun a w2 K => by
    refine ⟨fun b hb => ?_, fun b hb => ?_⟩ <;> obtain ⟨cur, fr, h, r⟩ := hb
    · exact hsB _ _ ⟨cur, fr, K.heap h (fun x => x), r⟩
    · exact hsB _ _ ⟨cur, fr, K.heap h (fun x => x), r⟩
  have e1 : IntKind.u8.wrap (text.size : Int) = (text.size : Int) := by rw [IntKind.wrap_u8]; omega
  have e2 : IntKind.i64.wrap (200 - (text.size : Int)) = 200 - (text.size : Int) := IntWalk.i64_in _ (by omega)
  have hcat1 : ¬ (9223372036854775807 < (txt [text.size]).size + text.size) := by rw [txt_size]; simp; omega
  have hcat2 : ¬ (9223372036854775807 < (txt [text.size]).size + text.size + (txt (List.replicate (200 - text.size) 0)).size) := by rw [txt_size, txt_size]; simp; omega
  go_enter Tryd.func57, Tryd.ntmps57
  go_wp2_with fail
  go_region_law (go_simp; go_at_call 45; refine (repeat_any _ (200 - text.size) (by omega) (by omega) _).mono ?_; rintro e w2 ⟨rfl, K2⟩; have hsk := (hsU _ _ K2).1; have hsk2 := (hsU _ _ K2).2)
  all_goals rw [← EB.out]
  all_goals go_wp2_with fail
  all_goals (refine (hn _ (Vr.keep (S := NoB) (by first | exact ((((Keep.refl NoB w).alloc _).drew).thenN K2) | exact (((Keep.refl NoB w).drew.thenN K2).alloc _)) (fun x => x))).mono ?_; rintro e w3 ⟨rfl, K3⟩)
  all_goals have K4 : Keep NoB w w3 := by first | exact (((Keep.refl NoB w).alloc _).drew.thenN K2).thenN K3 | exact ((((Keep.refl NoB w).drew).thenN K2).alloc _).thenN K3
  all_goals go_wp2_with fail
  all_goals (refine (hx _).mono ?_; rintro e w4 ⟨rfl, K5⟩)
  all_goals have K6 := K4.thenN K5
  all_goals clear K4 K5 hx hn hrow hsB hsD hsE hsU hcat1 hcat2 e1 e2
  all_goals go_wp2_with fail
  all_goals (refine (hm _).mono ?_; rintro e w5 ⟨rfl, K7⟩)
  all_goals have K8 := K6.thenN K7
  all_goals clear hm
  all_goals go_wp2_with fail
  all_goals rw [← EC.out]
  all_goals (refine (hg _ (Vr.keep K8 (fun x => x))).mono ?_; rintro e w6 ⟨rfl, K9⟩)
  all_goals go_wp2_with fail
  all_goals go_ret2
  all_goals exact ⟨rfl, K8.thenN K9⟩
end Go.Proofs.YtndcaaikjcicgaaDoor
