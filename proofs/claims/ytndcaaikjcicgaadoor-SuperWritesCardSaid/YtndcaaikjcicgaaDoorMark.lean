/-
  DERIVED. The walk of sum.Mark.
-/
import Derived.Test.YtndcaaikjcicgaaDoorSumSum
import Derived.Test.YtndcaaikjcicgaaDoorStrs
set_option linter.unusedVariables false
set_option linter.unusedSimpArgs false
namespace Go.Cof
open Go.RowKit
theorem markText_take (kind : Nat) (l : List (List Nat)) (k : Nat) (hk : k < l.length) : markText kind (l.take (k + 1)) = markText kind (l.take k) ++ be64 (l.getD k []).length ++ l.getD k [] := by
  have e : l.take (k + 1) = l.take k ++ [l.getD k []] := by
    rw [List.take_succ_eq_append_getElem hk, List.getD_eq_getElem?_getD, List.getElem?_eq_getElem hk]; rfl
  rw [e, markText, markText, List.foldl_append]; rfl
theorem markText_len_le (kind : Nat) (l : List (List Nat)) (k : Nat) : (markText kind (l.take k)).length ≤ (markText kind l).length := by
  by_cases hk : k < l.length
  · have h1 := markText_len_le kind l (k + 1)
    rw [markText_take kind l k hk, List.length_append, List.length_append] at h1
    omega
  · rw [List.take_of_length_le (by omega)]; exact Nat.le_refl _
  termination_by l.length - k
theorem outWords_bytes (h : List Nat) (k : Nat) : Bytes (outWords h k) := by
  induction k with
  | zero => intro x hx; simp [outWords, times] at hx
  | succ k ih =>
    rw [outWords, times_succ, ← outWords]
    refine bytes_append ih ?_
    intro x hx
    simp only [word4be, List.mem_cons, List.not_mem_nil, or_false] at hx
    rcases hx with rfl | rfl | rfl | rfl <;> exact Nat.mod_lt _ (by omega)
theorem sha_bytes (s : List Nat) : Bytes (sha s) := outWords_bytes _ _
end Go.Cof
namespace Go.Proofs.YtndcaaikjcicgaaDoor
open Go.RowKit Go.Cof

set_option maxRecDepth 100000 in
set_option maxHeartbeats 4000000 in
theorem mark_any (kind : Nat) (hkd : kind < 256) (v : Value) (l : List ByteArray) (w : World) (V : RoundsVar w) (S : Strs w v l) (hb : (markText kind (l.map bs)).length ≤ 100000) (hl : l.length ≤ 100000) :
    Calls Tryd.prog 19 #[.int .u8 kind, v] w fun e w' => e = .returned (.string (txt (Cof.mark kind (l.map bs)))) ∧ Keep NoB w w' := by
  obtain ⟨p, c, rfl⟩ := S.len
  have hso := fun w => run_string_one (P := Tryd.prog) w (E := 5) Tryd.underlying104 Tryd.underlying5 Tryd.underlying9 (kind : Int) kind rfl
  have Hb := Lib.hid hb
  clear hb
  obtain ⟨n, hn⟩ : ∃ n, n = l.length := ⟨_, rfl⟩
  rw [← hn] at S hl
  rw [← hn]
  have Hn := Lib.hid hn
  clear hn
  go_enter Tryd.func19, Tryd.ntmps19
  go_wp2_with fail
  clear hso
  refine wp_world (fun w1 => Keep NoB w w1) ((Keep.refl NoB w).alloc _) ?_
  intro w1 hw1
  go_loopw [5, 13] (fun s i wr => ∃ (k : Nat) (A : ByteArray), k ≤ n ∧ i = .int .i64 k ∧ s = .string A ∧ Hid (bs A = markText kind ((l.map bs).take k)) ∧ Keep NoB w wr) (fun _ i _ => n - (intOf i).toNat)
  case atStart => exact ⟨0, _, by omega, rfl, rfl, by show bs (txt [kind]) = [kind]; exact bs_txt (fun x hx => by obtain rfl : x = kind := List.mem_singleton.1 hx; exact hkd), hw1⟩
  case round =>
    clear hw1 w1
    obtain ⟨k, A, hk, rfl, rfl, hA, K⟩ := hrel
    have hAs : A.size ≤ 100000 := by
      have := markText_len_le kind (l.map bs) k
      rw [← hA.out, bs_len] at this
      have := Hb.out
      omega
    by_cases hlt : k < n
    · have j1 : (k : Int) < n := by omega
      have S1 := S.keep K (fun _ _ x => x)
      obtain ⟨B, off, rfl, hnl, hB, hc⟩ := S1.at (by have := Hn.out; omega)
      have hck := hc k (by have := Hn.out; omega)
      clear hc S1 hnl
      obtain ⟨q, hq⟩ : ∃ q, q = l.getD k ⟨#[]⟩ := ⟨_, rfl⟩
      rw [← hq] at hck
      have hqe : (l.map bs).getD k [] = bs q := by
        rw [hq, List.getD_eq_getElem?_getD, List.getElem?_map, List.getD_eq_getElem?_getD]
        cases l[k]? <;> rfl
      have hstep := markText_take kind (l.map bs) k (by rw [List.length_map]; have := Hn.out; omega)
      rw [hqe, ← hA.out, bs_len] at hstep
      have hlen2 := markText_len_le kind (l.map bs) (k + 1)
      rw [hstep, List.length_append, List.length_append, bs_len, bs_len, be64, be64To_len] at hlen2
      have hqs : q.size ≤ 100000 := by have := Hb.out; omega
      have Hq := Lib.hid hq
      have Hst := Lib.hid hstep
      clear hq hqe hstep hlen2
      go_wp2_with fail
      refine (num_any q.size (by omega) _).mono ?_
      rintro e w2 ⟨rfl, K2⟩
      have hbe : (txt (be64 q.size)).size = 8 := by rw [txt_size, be64, be64To_len]
      have hcat1 : ¬ (9223372036854775807 < (txt (be64 q.size)).size + q.size) := by rw [hbe]; omega
      have hcat2 : ¬ (9223372036854775807 < A.size + (txt (be64 q.size) ++ q).size) := by rw [ByteArray.size_append, hbe]; omega
      have HA2 : Hid (bs (A ++ (txt (be64 q.size) ++ q)) = markText kind ((l.map bs).take (k + 1))) := by
        show bs _ = _
        rw [Hst.out, bs_append, bs_append, bs_txt (show Bytes (be64 q.size) from be64To_bytes _ _), List.append_assoc]
      clear hbe
      go_wp2_with fail
      clear hcat1 hcat2 hck
      exact ⟨⟨k + 1, _, by omega, by go_num, rfl, HA2, K.thenN K2⟩, by simp [intOf]; omega⟩
    · have hk2 : k = n := by omega
      have j1 : decide (k < n) = false := by simp; omega
      have hA2 : bs A = markText kind (l.map bs) := by
        rw [hA.out, hk2, Hn.out, List.take_of_length_le (by rw [List.length_map]; exact Nat.le_refl _)]
      have HA2 := Lib.hid hA2
      clear hlt hk hk2 hA2
      go_wp2_with fail
      refine (sum_any A hAs wr (V.keep K (fun x => x))).mono ?_
      rw [HA2.out]
      rintro e w2 ⟨rfl, K2⟩
      obtain ⟨T, hT⟩ : ∃ T, T = txt (sha (markText kind (l.map bs))) := ⟨_, rfl⟩
      have hTs : (16 : Int) ≤ T.size := by rw [hT, txt_size, sha_len]; omega
      have hTe : T.extract 0 16 = txt (Cof.mark kind (l.map bs)) := by
        apply bs_inj
        rw [bs_extract, hT, bs_txt (sha_bytes _), List.drop_zero, Cof.mark, bs_txt (bytes_take (sha_bytes _) _)]
      rw [← hT]
      have HT := Lib.hid hT
      have HTe := Lib.hid hTe
      clear hT hTe
      go_wp2_with fail
      go_ret
      exact ⟨congrArg (fun t => Ending.returned (.string t)) HTe.out, K.thenN K2⟩
end Go.Proofs.YtndcaaikjcicgaaDoor
