/-
  DERIVED. The walk of the law SumTells.
-/
import Derived.Test.YtndcaaikjcicgaaDoorRefMark
import Derived.Test.YtndcaaikjcicgaaDoorRefHex
namespace Go.Cof
open Go.RowKit
theorem markText_len (kind : Nat) (l : List ByteArray) (h : ∀ i, i < l.length → (l.getD i ⟨#[]⟩).size ≤ 60) : (markText kind (l.map bs)).length ≤ 1 + 68 * l.length := by
  have key : ∀ k, k ≤ l.length → (markText kind ((l.map bs).take k)).length ≤ 1 + 68 * k := by
    intro k
    induction k with
    | zero => intro _; exact Nat.le_refl _
    | succ k ih =>
      intro hk
      have h1 := ih (by omega)
      have h2 := h k (by omega)
      have hq : (l.map bs).getD k [] = bs (l.getD k ⟨#[]⟩) := by
        rw [List.getD_eq_getElem?_getD, List.getElem?_map, List.getD_eq_getElem?_getD]
        cases l[k]? <;> rfl
      rw [markText_take kind (l.map bs) k (by rw [List.length_map]; omega), hq, List.length_append, List.length_append, be64, be64To_len, bs_len]
      omega
  have := key l.length (Nat.le_refl _)
  rwa [List.take_of_length_le (by rw [List.length_map]; exact Nat.le_refl _)] at this
theorem Strs.length_eq {w : World} {p : Option Addr} {n c : Nat} {l : List ByteArray} (h : Strs w (.slice p n c) l) : n = l.length := by
  obtain ⟨p', c', hv⟩ := h.len
  cases hv
  rfl
end Go.Cof
namespace Go.Proofs.YtndcaaikjcicgaaDoor
open Go.RowKit Go.Cof
theorem long_any (s : ByteArray) (b : Bool) (hb : b = decide (60 < s.size)) (w : World) : Calls Tryd.prog 11 #[.string s] w fun e w' => e = .returned (.bool b) ∧ w' = w := by
  subst hb
  go_enter Tryd.func11, Tryd.ntmps11
  go_wp2
  go_ret
  exact ⟨congrArg (fun b => Ending.returned (.bool b)) (by simp only [decide_eq_decide]; omega), rfl⟩
set_option maxRecDepth 100000 in
set_option maxHeartbeats 8000000 in
theorem sumTells_any (s : ByteArray) (z : Int) (kind : Nat) (hkd : kind < 256) (p : Option Addr) (n c : Nat) (l : List ByteArray) (hn : n ≤ 9223372036854775807) (w : World) (V : RoundsVar w) (D : DebVar w) (S : Strs w (.slice p n c) l) :
    Calls Tryd.prog 3 #[.string s, .int .i64 z, .int .u8 kind, .slice p n c] w fun e w' => e = .returned (.bool true) ∧ Keep NoB w w' := by
  have hnl := S.length_eq
  have Hnl := Lib.hid hnl
  clear hnl
  by_cases h1 : 400 < s.size
  · have d1 : (400 : Int) < s.size := by omega
    go_enter Tryd.func3, Tryd.ntmps3
    go_wp2
    go_ret
    exact ⟨rfl, Keep.refl _ _⟩
  have d1 : (s.size : Int) ≤ 400 := by omega
  by_cases h2 : 10 < n
  · have d2 : (10 : Int) < n := by omega
    go_enter Tryd.func3, Tryd.ntmps3
    go_wp2
    go_ret
    exact ⟨rfl, Keep.refl _ _⟩
  have d2 : (n : Int) ≤ 10 := by omega
  go_enter Tryd.func3, Tryd.ntmps3
  go_wp2_with fail
  go_loopw [9] (fun i wr => ∃ k : Nat, k ≤ n ∧ i = .int .i64 k ∧ Hid (∀ j, j < k → (l.getD j ⟨#[]⟩).size ≤ 60) ∧ Keep NoB w wr) (fun i _ => n - (intOf i).toNat)
  case atStart => exact ⟨0, by omega, rfl, fun j hj => absurd hj (by omega), Keep.refl _ _⟩
  case round =>
    obtain ⟨k, hk, rfl, hall, K⟩ := hrel
    by_cases hlt : k < n
    · have j1 : (k : Int) < n := by omega
      have S1 := S.keep K (fun _ _ x => x)
      obtain ⟨B, off, rfl, hnl, hB, hc⟩ := S1.at (by rw [← Hnl.out]; omega)
      have hck := hc k (by rw [← Hnl.out]; exact hlt)
      obtain ⟨q, hq⟩ : ∃ q, q = l.getD k ⟨#[]⟩ := ⟨_, rfl⟩
      rw [← hq] at hck
      have Hq := Lib.hid hq
      clear hc hq hnl S1
      by_cases hlong : 60 < q.size
      · go_wp2_with fail
        refine (long_any q true (by simp; omega) _).mono ?_
        rintro e w2 ⟨rfl, rfl⟩
        go_wp2_with fail
        go_ret
        exact ⟨rfl, K⟩
      · go_wp2_with fail
        refine (long_any q false (by simp; omega) _).mono ?_
        rintro e w2 ⟨rfl, rfl⟩
        go_wp2_with fail
        refine ⟨⟨k + 1, by omega, by go_num, fun j hj => ?_, K⟩, by simp [intOf]; omega⟩
        by_cases hjk : j = k
        · rw [hjk, ← Hq.out]; omega
        · exact hall.out j (by omega)
    · have hkn : k = n := by omega
      have j1 : decide (k < n) = false := by simp; omega
      have j2 : decide ((k : Int) < n) = false := by simp; omega
      have hmt : (markText kind (l.map bs)).length ≤ 100000 := by
        have := markText_len kind l (fun i hi => hall.out i (by rw [hkn, Hnl.out]; exact hi))
        rw [← Hnl.out] at this
        omega
      have Hmt := Lib.hid hmt
      have hs4 : s.size ≤ 100000 := by omega
      obtain ⟨T1, hT1⟩ : ∃ T, T = txt (sha (bs s)) := ⟨_, rfl⟩
      obtain ⟨T2, hT2⟩ : ∃ T, T = txt (hex (bs s)) := ⟨_, rfl⟩
      obtain ⟨T3, hT3⟩ : ∃ T, T = txt (be64 (u64n z)) := ⟨_, rfl⟩
      obtain ⟨T4, hT4⟩ : ∃ T, T = txt (Cof.mark kind (l.map bs)) := ⟨_, rfl⟩
      have H1 := Lib.hid hT1
      have H2 := Lib.hid hT2
      have H3 := Lib.hid hT3
      have H4 := Lib.hid hT4
      have q1 : (T1.toList == T1.toList) = true := by simp
      have q2 : (T2.toList == T2.toList) = true := by simp
      have q3 : (T3.toList == T3.toList) = true := by simp
      have q4 : (T4.toList == T4.toList) = true := by simp
      clear hmt hT1 hT2 hT3 hT4 hkn hlt hk hall h1 h2
      go_wp2_with fail
      refine (new_any _).mono ?_
      rintro e w1 ⟨rfl, RR, K1⟩
      obtain ⟨RB, hRB⟩ : ∃ b, b = wr.heap.size := ⟨_, rfl⟩
      rw [← hRB] at RR
      rw [← hRB]
      have K1' := K.thenN K1
      clear hRB K K1
      go_wp2_with fail
      refine (sum_any s hs4 _ (V.keep K1' (fun x => x))).mono ?_
      rw [← H1.out]
      rintro e w2 ⟨rfl, K2⟩
      have K2' := K1'.thenN K2
      go_wp2_with fail
      refine (refSum_any RB s hs4 _ (Keep.heap K2 RR (fun x => x))).mono ?_
      rw [← H1.out]
      rintro e w3 ⟨rfl, K3⟩
      have K3' := K2'.thenN K3
      go_wp2_with fail
      refine (hex_any s (by omega) _).mono ?_
      rw [← H2.out]
      rintro e w4 ⟨rfl, K4⟩
      have K4' := K3'.thenN K4
      go_wp2_with fail
      refine (refHex_any s (by omega) _ (D.keep K4' (fun x => x))).mono ?_
      rw [← H2.out]
      rintro e w5 ⟨rfl, K5⟩
      have K5' := K4'.thenN K5
      go_wp2_with fail
      refine (num_int z _).mono ?_
      rw [← H3.out]
      rintro e w6 ⟨rfl, K6⟩
      have K6' := K5'.thenN K6
      go_wp2_with fail
      refine (refNum_int z _).mono ?_
      rw [← H3.out]
      rintro e w7 ⟨rfl, K7⟩
      have K7' := K6'.thenN K7
      go_wp2_with fail
      refine (mark_any kind hkd _ l _ (V.keep K7' (fun x => x)) (S.keep K7' (fun _ _ x => x)) Hmt.out (by rw [← Hnl.out]; omega)).mono ?_
      rw [← H4.out]
      rintro e w8 ⟨rfl, K8⟩
      have K8' := K7'.thenN K8
      have RR8 : RefR w8 RB := Keep.heap (((((((K2.thenN K3).thenN K4).thenN K5).thenN K6).thenN K7).thenN K8)) RR (fun x => x)
      go_wp2_with fail
      refine (refMark_any RB kind hkd _ l _ RR8 (S.keep K8' (fun _ _ x => x)) Hmt.out (by rw [← Hnl.out]; omega)).mono ?_
      rw [← H4.out]
      rintro e w9 ⟨rfl, K9⟩
      go_wp2_with fail
      go_ret
      exact ⟨rfl, K8'.thenN K9⟩
end Go.Proofs.YtndcaaikjcicgaaDoor
