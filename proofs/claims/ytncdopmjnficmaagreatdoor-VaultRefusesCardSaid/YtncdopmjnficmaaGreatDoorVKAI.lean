/-
  DERIVED. Joined texts: RefSum RefMark Page.
-/
import Derived.Test.YtncdopmjnficmaaGreatDoorVKAH
import Derived.Deep.MidRow
/-! RefSum -/
set_option linter.unusedVariables false
set_option linter.unusedSimpArgs false
namespace Go.Cof
open Go.RowKit
/-- The schedule, so many of its words laid. -/
def schedAt (s : List Nat) (t : Nat) : List Nat := if t < 16 then sched0 s t else sched1 s (t - 16)
theorem schedAt_zero (s : List Nat) : schedAt s 0 = List.replicate 64 0 := rfl
theorem schedAt_end (s : List Nat) : schedAt s 64 = sched s := rfl
theorem schedAt_low (s : List Nat) (t : Nat) (h : t < 16) : schedAt s (t + 1) = (schedAt s t).set t (be32 s (4 * t)) := by
  have e : schedAt s t = sched0 s t := if_pos h
  rw [e]
  by_cases h2 : t + 1 < 16
  · rw [schedAt, if_pos h2]; rfl
  · rw [schedAt, if_neg h2, show t + 1 - 16 = 0 by omega, show t = 15 by omega]; rfl
theorem schedAt_high (s : List Nat) (t : Nat) (h : ¬ t < 16) : schedAt s (t + 1) = schedStep (t - 16) (schedAt s t) := by
  rw [schedAt, if_neg (by omega), schedAt, if_neg h, show t + 1 - 16 = (t - 16) + 1 by omega]; rfl
theorem schedAt_len (s : List Nat) (t : Nat) : (schedAt s t).length = 64 := by
  rw [schedAt]; split
  · exact sched0_len _ _
  · exact sched1_len _ _
theorem W32.schedAt (s : List Nat) (hs : ∀ i, s.getD i 0 < 256) (t : Nat) : W32 (schedAt s t) := by
  rw [Cof.schedAt]; split
  · exact W32.sched0 s hs t
  · exact W32.sched1 s hs _
/-- Four bytes, the greatest first: so many of them. -/
def beTo (s : List Nat) (i : Nat) : Nat → Nat
  | 0 => 0
  | k + 1 => beTo s i k * 256 + s.getD (i + k) 0
theorem beTo_four (s : List Nat) (i : Nat) : beTo s i 4 = be32 s i := by
  simp only [beTo, be32, Nat.add_zero]; omega
theorem beTo_lt (s : List Nat) (hs : ∀ i, s.getD i 0 < 256) (i : Nat) : ∀ k, k ≤ 4 → beTo s i k < 256 ^ k := by
  intro k
  induction k with
  | zero => intro _; exact Nat.zero_lt_one
  | succ k ih =>
    intro hk
    have h1 := ih (by omega)
    have h2 := hs (i + k)
    rw [beTo, Nat.pow_succ]
    omega
theorem natD_set_ne (l : List Nat) (i j v : Nat) (h : i ≠ j) : (l.set i v).getD j 0 = l.getD j 0 := by
  simp [List.getD_eq_getElem?_getD, List.getElem?_set_ne h]
theorem sched0_rest (s : List Nat) (k j : Nat) (h : k ≤ j) : (sched0 s k).getD j 0 = 0 := by
  induction k with
  | zero =>
    show (List.replicate 64 0).getD j 0 = 0
    rw [List.getD_eq_getElem?_getD, List.getElem?_replicate]; split <;> rfl
  | succ k ih =>
    have e : sched0 s (k + 1) = (sched0 s k).set k (be32 s (4 * k)) := rfl
    rw [e, natD_set_ne _ _ _ _ (by omega)]
    exact ih (by omega)
theorem set_same (l : List Nat) (i : Nat) (h : i < l.length) (v : Nat) (hv : l.getD i 0 = v) : l.set i v = l := by
  rw [← hv, List.getD_eq_getElem?_getD, List.getElem?_eq_getElem h]
  exact List.set_getElem_self h
theorem part_getD (p : List Nat) (o j : Nat) (h : j < 64) : ((p.drop o).take 64).getD j 0 = p.getD (o + j) 0 := by
  simp only [List.getD_eq_getElem?_getD, List.getElem?_take, h, if_true, List.getElem?_drop]
theorem or32 (a b : Nat) (ha : (a : Int) < 4294967296) (hb : (b : Int) < 4294967296) : ∃ p : Nat, Hid (p = a ||| b) ∧ (p : Int) < 4294967296 ∧ bits BinOp.or IntKind.u32 (a : Int) (b : Int) = (p : Int) := by
  have : a ||| b < 2 ^ 32 := Nat.or_lt_two_pow (by omega) (by omega)
  exact ⟨a ||| b, rfl, by omega, w32_or a b (by omega) (by omega)⟩
/-- 'string([]byte{..})'. -/
theorem run_string_lit {P : Program} (w : World) {E : TypeId} {src dst : TypeId} (hs : P.underlying src = some (.slice E)) (he : P.underlying E = some (.int .u8)) (hd : P.underlying dst = some .string) (l : List Nat) :
    (convert src dst (.slice (some ⟨w.heap.size, 0, none⟩) l.length l.length)).run P (w.alloc (.cells (u8s l).toArray E)) = .ok (.string (txt l)) (w.alloc (.cells (u8s l).toArray E)) :=
  run_string_row (l := l) ⟨_, _, heap_alloc_new w _, by simp; exact List.take_of_length_le (by rw [u8s_len]; exact Nat.le_refl _), fun i _ => by simp⟩ hs he hd
end Go.Cof
namespace Go.Proofs.YtncdopmjnficmaaGreatDoor
open Go.RowKit Go.Cof
end Go.Proofs.YtncdopmjnficmaaGreatDoor
/-! RefMark -/
set_option linter.unusedVariables false
set_option linter.unusedSimpArgs false
namespace Go.Proofs.YtncdopmjnficmaaGreatDoor
open Go.RowKit Go.Cof
end Go.Proofs.YtncdopmjnficmaaGreatDoor
/-! Page -/
set_option linter.unusedVariables false
set_option linter.unusedSimpArgs false
namespace Go.Cof
open Go.RowKit
theorem be64_len (n : Nat) : (be64 n).length = 8 := be64To_len n 8
def nonceP (key : List Nat) (id ver : Int) (text : List Nat) : List Nat := (Cof.mark 110 [key, be64 (u64n id), be64 (u64n ver), text]).take 12
def tagP (key : List Nat) (id : Int) (s : List Nat) : List Nat := Cof.mark 103 [key, be64 (u64n id), s]
def pmarkP (id ver : Int) (text : List Nat) : List Nat := Cof.mark 112 [be64 (u64n id), be64 (u64n ver), text]
theorem mark_len (k : Nat) (l : List (List Nat)) : (Cof.mark k l).length = 16 := by rw [Cof.mark, List.length_take, sha_len]; rfl
theorem mark_bytes (k : Nat) (l : List (List Nat)) : Bytes (Cof.mark k l) := bytes_take (sha_bytes _) _
end Go.Cof
namespace Go.Proofs.YtncdopmjnficmaaGreatDoor
open Go.RowKit Go.Cof
theorem be64_bytes (n : Nat) : Bytes (be64 n) := be64To_bytes n 8
set_option maxRecDepth 100000 in
theorem pageMark_any (id ver : Int) (text : ByteArray) (ht : text.size ≤ 1000) (w : World) (V : RoundsVar w) :
    Calls Tryz.prog 41 #[.int .i64 id, .int .i64 ver, .string text] w fun e w' => e = .returned (.string (txt (pmarkP id ver (bs text)))) ∧ Keep NoB w w' := by
  obtain ⟨A, hA⟩ : ∃ A, A = txt (be64 (u64n id)) := ⟨_, rfl⟩
  obtain ⟨B, hB⟩ : ∃ A, A = txt (be64 (u64n ver)) := ⟨_, rfl⟩
  have bA : bs A = be64 (u64n id) := by rw [hA, bs_txt (be64_bytes _)]
  have bB : bs B = be64 (u64n ver) := by rw [hB, bs_txt (be64_bytes _)]
  have hl : (markText 112 ([A, B, text].map bs)).length ≤ 100000 := by
    simp only [List.map_cons, List.map_nil, bA, bB, markText, List.foldl_cons, List.foldl_nil, List.length_append, List.length_cons, List.length_nil, be64_len, bs_len]; omega
  have hr : Cof.mark 112 ([A, B, text].map bs) = pmarkP id ver (bs text) := by simp only [List.map_cons, List.map_nil, bA, bB]; rfl
  have HA := Lib.hid hA
  have HB := Lib.hid hB
  have Hr := Lib.hid hr
  have Hl := Lib.hid hl
  clear hA hB bA bB hr hl
  go_enter Tryz.func41, Tryz.ntmps41
  go_wp2_with fail
  refine (num_int id _).mono ?_
  rw [← HA.out]
  rintro e w1 ⟨rfl, K1⟩
  go_wp2_with fail
  refine (num_int ver _).mono ?_
  rw [← HB.out]
  rintro e w2 ⟨rfl, K2⟩
  have K2' := K1.thenN K2
  go_wp2_with fail
  refine (mark_any 112 (by decide) _ [A, B, text] _ (V.keep (K2'.alloc _) (fun x => x)) (Strs.lit (w := w2) [A, B, text]) Hl.out (by simp)).mono ?_
  rw [Hr.out]
  rintro e w3 ⟨rfl, K3⟩
  go_wp2_with fail
  go_ret
  exact ⟨rfl, (K2'.alloc _).thenN K3⟩
set_option maxRecDepth 100000 in
theorem tag_any (key : ByteArray) (id : Int) (s : ByteArray) (hk : key.size ≤ 1000) (hs : s.size ≤ 1000) (w : World) (V : RoundsVar w) :
    Calls Tryz.prog 71 #[.string key, .int .i64 id, .string s] w fun e w' => e = .returned (.string (txt (tagP (bs key) id (bs s)))) ∧ Keep NoB w w' := by
  obtain ⟨A, hA⟩ : ∃ A, A = txt (be64 (u64n id)) := ⟨_, rfl⟩
  have bA : bs A = be64 (u64n id) := by rw [hA, bs_txt (be64_bytes _)]
  have hl : (markText 103 ([key, A, s].map bs)).length ≤ 100000 := by
    simp only [List.map_cons, List.map_nil, bA, markText, List.foldl_cons, List.foldl_nil, List.length_append, List.length_cons, List.length_nil, be64_len, bs_len]; omega
  have hr : Cof.mark 103 ([key, A, s].map bs) = tagP (bs key) id (bs s) := by simp only [List.map_cons, List.map_nil, bA]; rfl
  have HA := Lib.hid hA
  have Hr := Lib.hid hr
  have Hl := Lib.hid hl
  clear hA bA hr hl
  go_enter Tryz.func71, Tryz.ntmps71
  go_wp2_with fail
  refine (num_int id _).mono ?_
  rw [← HA.out]
  rintro e w1 ⟨rfl, K1⟩
  go_wp2_with fail
  refine (mark_any 103 (by decide) _ [key, A, s] _ (V.keep (K1.alloc _) (fun x => x)) (Strs.lit (w := w1) [key, A, s]) Hl.out (by simp)).mono ?_
  rw [Hr.out]
  rintro e w3 ⟨rfl, K3⟩
  go_wp2_with fail
  go_ret
  exact ⟨rfl, (K1.alloc _).thenN K3⟩
set_option maxRecDepth 100000 in
theorem nonce_any (key : ByteArray) (id ver : Int) (text : ByteArray) (hk : key.size ≤ 1000) (ht : text.size ≤ 1000) (w : World) (V : RoundsVar w) :
    Calls Tryz.prog 69 #[.string key, .int .i64 id, .int .i64 ver, .string text] w fun e w' => e = .returned (.string (txt (nonceP (bs key) id ver (bs text)))) ∧ Keep NoB w w' := by
  obtain ⟨A, hA⟩ : ∃ A, A = txt (be64 (u64n id)) := ⟨_, rfl⟩
  obtain ⟨B, hB⟩ : ∃ A, A = txt (be64 (u64n ver)) := ⟨_, rfl⟩
  have bA : bs A = be64 (u64n id) := by rw [hA, bs_txt (be64_bytes _)]
  have bB : bs B = be64 (u64n ver) := by rw [hB, bs_txt (be64_bytes _)]
  have hl : (markText 110 ([key, A, B, text].map bs)).length ≤ 100000 := by
    simp only [List.map_cons, List.map_nil, bA, bB, markText, List.foldl_cons, List.foldl_nil, List.length_append, List.length_cons, List.length_nil, be64_len, bs_len]; omega
  obtain ⟨M, hM⟩ : ∃ M, M = txt (Cof.mark 110 ([key, A, B, text].map bs)) := ⟨_, rfl⟩
  have hMs : M.size = 16 := by rw [hM, txt_size, mark_len]
  have hMe : M.extract 0 12 = txt (nonceP (bs key) id ver (bs text)) := by
    apply bs_inj
    rw [bs_extract, hM, bs_txt (mark_bytes _ _), List.drop_zero, nonceP, bs_txt (bytes_take (mark_bytes _ _) _)]
    simp only [List.map_cons, List.map_nil, bA, bB]
  have hMi : (12 : Int) ≤ M.size := by omega
  have HA := Lib.hid hA
  have HB := Lib.hid hB
  have HM := Lib.hid hM
  have HMe := Lib.hid hMe
  have Hl := Lib.hid hl
  clear hA hB bA bB hM hMs hMe hl
  go_enter Tryz.func69, Tryz.ntmps69
  go_wp2_with fail
  refine (num_int id _).mono ?_
  rw [← HA.out]
  rintro e w1 ⟨rfl, K1⟩
  go_wp2_with fail
  refine (num_int ver _).mono ?_
  rw [← HB.out]
  rintro e w2 ⟨rfl, K2⟩
  have K2' := K1.thenN K2
  go_wp2_with fail
  refine (mark_any 110 (by decide) _ [key, A, B, text] _ (V.keep (K2'.alloc _) (fun x => x)) (Strs.lit (w := w2) [key, A, B, text]) Hl.out (by simp)).mono ?_
  rw [← HM.out]
  rintro e w3 ⟨rfl, K3⟩
  go_wp2_with fail
  go_ret
  exact ⟨congrArg (fun t => Ending.returned (.string t)) HMe.out, (K2'.alloc _).thenN K3⟩
end Go.Proofs.YtncdopmjnficmaaGreatDoor
