/-
  DERIVED. DeviceSure: the device and what each block may be, side by side; slices.Contains of texts.
-/
import Derived.Test.YtndcaaikjcicgaaDoorSure
import Derived.Test.YtndcaaikjcicgaaDoorZeros
set_option linter.unusedVariables false
set_option linter.unusedSimpArgs false
namespace Go.Proofs.YtndcaaikjcicgaaDoor
open Go.RowKit Go.Cof
structure SuP (w0 w : World) (D S M : Nat) (wv : Value) (vs : List Value) (sure : List ByteArray) (wait : List (Nat × ByteArray)) (ms : List (List ByteArray)) : Prop where
  dev : DevN w0 w D S wv sure wait (-1)
  may : MayAt w M 22 9 vs ms
  own : ∀ b, MB M vs b → w0.heap.size ≤ b
  sep : ∀ b, DevB D S wv b → ¬ MB M vs b
/-- The device of the call's own, and a row of what each block may be. -/
def Su (w0 w : World) (D S M : Nat) (sure : List ByteArray) (wait : List (Nat × ByteArray)) (ms : List (List ByteArray)) : Prop := ∃ wv vs, SuP w0 w D S M wv vs sure wait ms
section
variable {w0 w w' : World} {D S M : Nat} {wv wv' : Value} {vs : List Value} {sure sure' : List ByteArray} {wait wait' : List (Nat × ByteArray)} {ms : List (List ByteArray)}
theorem SuP.stepD (h : SuP w0 w D S M wv vs sure wait ms) (hd : DevN w0 w' D S wv' sure' wait' (-1)) (hm : Moved w wv wv') (hk : Keep (DevB D S wv) w w') : SuP w0 w' D S M wv' vs sure' wait' ms := by
  have hlt := h.may.lt
  refine ⟨hd, h.may.keep hk (fun b hb hx => h.sep b hx hb), h.own, fun b hb hx => ?_⟩
  have hmv : DevB D S wv b ∨ w.heap.size ≤ b := by
    rcases hb with hb | hb | hb
    · exact .inl (.inl hb)
    · exact .inl (.inr (.inl hb))
    · rcases hm with hm | hm
      · exact .inl (.inr (.inr (hm ▸ hb)))
      · exact .inr (hm b hb)
  rcases hmv with h1 | h1
  · exact h.sep b h1 hx
  · have := hlt b hx; omega
theorem SuP.keepN (h : SuP w0 w D S M wv vs sure wait ms) (hk : Keep NoB w w') : SuP w0 w' D S M wv vs sure wait ms :=
  ⟨h.dev.keepN hk, h.may.keep hk (fun _ _ x => x), h.own, h.sep⟩
theorem SuP.upd (h : SuP w0 w D S M wv vs sure wait ms) (k : Nat) (hk : k < 66) (v : Value) (l : List ByteArray) (K : Keep (fun b => (vs.getD k nilS).ownBlock = some b) w w') (own : OwnsN w' 0 9 1 v l.length (strCells l))
    (hv : v.ownBlock = (vs.getD k nilS).ownBlock ∨ ∀ b, v.ownBlock = some b → w.heap.size ≤ b) : SuP w0 (w'.setCell ⟨M, k, none⟩ v) D S M wv (vs.set k v) sure wait (ms.set k l) := by
  have hs0 := h.dev.keep.size
  have hdl := h.dev.lt
  have hmb := mb_upd (M := M) (w := w) h.may.len hk hv
  have hKM : Keep (MB M vs) w (w'.setCell ⟨M, k, none⟩ v) := (K.mono (S' := MB M vs) (fun b _ hb => .inr ⟨k, hk, hb⟩)).setCell (p := ⟨M, k, none⟩) (.inl (.inl rfl)) v
  refine ⟨⟨h.dev.dev.keep hKM (fun b hb hx => h.sep b hb hx), h.dev.own, h.dev.keep.trans hKM (fun i hi hx => by have := h.own i hx; omega)⟩, h.may.upd k hk v l K own hv, fun b hb => ?_, fun b hb hx => ?_⟩
  · rcases hmb b hb with h1 | h1
    · exact h.own b h1
    · omega
  · rcases hmb b hx with h1 | h1
    · exact h.sep b hb h1
    · have := hdl b hb; omega
theorem Su.keepN (h : Su w0 w D S M sure wait ms) (hk : Keep NoB w w') : Su w0 w' D S M sure wait ms := by
  obtain ⟨wv, vs, h⟩ := h
  exact ⟨wv, vs, h.keepN hk⟩
theorem Su.kept (h : Su w0 w D S M sure wait ms) : Keep NoB w0 w := by
  obtain ⟨wv, vs, h⟩ := h
  exact h.dev.keep
theorem Su.lens (h : Su w0 w D S M sure wait ms) : sure.length = 66 ∧ ms.length = 66 := by
  obtain ⟨wv, vs, h⟩ := h
  exact ⟨h.dev.dev.len, h.may.mlen⟩
theorem write_Su (h : Su w0 w D S M sure wait ms) (k : Nat) (s : ByteArray) (hk : k < 66) (hs : s.size ≤ 256) (hw : wait.length < 1000000) :
    Calls Tryd.prog 36 #[.pointer (some ⟨D, 0, none⟩), .int .i64 k, .string s] w fun e w' => e = .returned .nilIface ∧ Su w0 w' D S M sure (wait ++ [(k, padB s)]) ms := by
  obtain ⟨wv, vs, h⟩ := h
  exact (write_N h.dev k s hk hs (by decide) hw).mono fun e w' ⟨he, wv', hd, hm, hK⟩ => ⟨he, wv', vs, h.stepD hd hm hK⟩
theorem sync_Su (h : Su w0 w D S M sure wait ms) :
    Calls Tryd.prog 38 #[.pointer (some ⟨D, 0, none⟩)] w fun e w' => e = .returned .nilIface ∧ Su w0 w' D S M (applyW sure wait) [] ms := by
  obtain ⟨wv, vs, h⟩ := h
  exact (sync_N h.dev (by decide)).mono fun e w' ⟨he, hd, hK⟩ => ⟨he, .slice none 0 0, vs, h.stepD hd (.inr (fun b hb => by cases hb)) hK⟩
theorem crash_Su (h : Su w0 w D S M sure wait ms) (kv : Value) (keeps : List Bool) (B : Bools w0 kv keeps) (hk6 : keeps.length ≤ 1000000) :
    Calls Tryd.prog 40 #[.pointer (some ⟨D, 0, none⟩), kv] w fun e w' => e = .returned (.tuple #[]) ∧ Su w0 w' D S M (crashTo sure wait keeps wait.length) [] ms := by
  obtain ⟨wv, vs, h⟩ := h
  refine (crash_N h.dev kv keeps (B.keep h.dev.keep (fun _ _ x => x)) hk6 (fun h0 b hb hx => ?_)).mono fun e w' ⟨he, hd, hK⟩ => ⟨he, .slice none 0 0, vs, h.stepD hd (.inr (fun b hb => by cases hb)) hK⟩
  have h2 := h.dev.own b hx
  obtain ⟨p, c, rfl⟩ := B.len
  obtain ⟨x, off, rfl, _, hx1, _⟩ := B.at h0
  obtain rfl : x = b := Option.some.inj hb
  omega
theorem read_Su (h : Su w0 w D S M sure wait ms) (k : Nat) (hk : k < 66) :
    Calls Tryd.prog 46 #[.pointer (some ⟨D, 0, none⟩), .int .i64 k] w fun e w' => e = .returned (.tuple #[.string ((applyW sure wait).getD k ⟨#[]⟩), .nilIface]) ∧ Su w0 w' D S M sure wait ms := by
  have h0 := h
  obtain ⟨wv, vs, h⟩ := h
  exact (read_N h.dev k hk).mono fun e w' ⟨he, _, hK⟩ => ⟨he, h0.keepN hK⟩
end
theorem pad_cut (s : ByteArray) (hs : s.size ≤ 256) : (s ++ zeroB).extract 0 256 = padB s := by
  have hz : Bytes (List.replicate 256 0) := fun x hx => by rw [(List.mem_replicate.1 hx).2]; omega
  apply bs_inj
  rw [bs_extract, List.drop_zero, bs_append, padB, bs_append, bs_extract, zeroB_size, zeroB, bs_txt hz, List.drop_replicate, List.take_append, bs_len, List.take_of_length_le (by rw [bs_len]; omega), List.take_replicate, List.take_replicate]
  congr 2
  omega
set_option maxRecDepth 100000 in
theorem full_any (s : ByteArray) (hs : s.size ≤ 256) (w : World) : Calls Tryd.prog 44 #[.string s] w fun e w' => e = .returned (.string (padB s)) ∧ Keep NoB w w' := by
  have hr := fun w => repeat_any 256 256 rfl (by omega) w
  rw [show txt (List.replicate 256 0) = zeroB from rfl] at hr
  have hcat : ¬ (9223372036854775807 < s.size + zeroB.size) := by rw [zeroB_size]; omega
  have hlen : (256 : Int) ≤ s.size + zeroB.size := by rw [zeroB_size]; omega
  have hlen2 : 256 ≤ (s ++ zeroB).size := by rw [ByteArray.size_append, zeroB_size]; omega
  have hpad := pad_cut s hs
  rw [← hpad]
  clear hpad
  go_enter Tryd.func44, Tryd.ntmps44
  go_wp2_with (go_at_call 45; refine (hr _).mono ?_; rintro e w2 ⟨rfl, K2⟩)
  go_ret
  exact ⟨rfl, K2⟩
set_option maxRecDepth 100000 in
set_option maxHeartbeats 2000000 in
theorem index_any (v : Value) (l : List ByteArray) (s : ByteArray) (w : World) (T : Strs w v l) (hl : l.length ≤ 1000000) (hs : s ∈ l) :
    Calls Tryd.prog 92 #[v, .string s] w fun e w' => ∃ k : Nat, e = .returned (.int .i64 k) ∧ w' = w := by
  obtain ⟨a, c, rfl⟩ := T.len
  obtain ⟨n, hn⟩ : ∃ n, n = l.length := ⟨_, rfl⟩
  rw [← hn] at T hl ⊢
  have Hn := Lib.hid hn
  clear hn
  have Hs := Lib.hid hs
  clear hs
  go_enter Tryd.func92, Tryd.ntmps92
  go_wp2_with fail
  go_loopw [8] (fun i wr => ∃ k : Nat, k ≤ n ∧ i = .int .i64 k ∧ (∀ j, j < k → l.getD j ⟨#[]⟩ ≠ s) ∧ wr = w) (fun i _ => n - (intOf i).toNat)
  case atStart => exact ⟨0, by omega, rfl, fun j hj => by omega, rfl⟩
  case round =>
    obtain ⟨k, hk, rfl, hrun, rfl⟩ := hrel
    by_cases hlt : k < n
    · have j1 : (k : Int) < n := by omega
      obtain ⟨b, o, rfl, -, _, hc⟩ := T.at (by have := Hn.out; omega)
      have hx := hc k (by have := Hn.out; omega)
      clear hc
      obtain ⟨x, hxx⟩ : ∃ x, x = l.getD k ⟨#[]⟩ := ⟨_, rfl⟩
      rw [← hxx] at hx
      have Hx := Lib.hid hxx
      clear hxx
      by_cases he : s = x
      · subst he
        have hb : (s.toList == s.toList) = true := by simp
        clear hrun
        go_wp2_with fail
        go_ret
        exact ⟨k, rfl, rfl⟩
      · have hb : (s.toList == x.toList) = false := by
          rw [beq_eq_false_iff_ne, ByteArray.toList_eq, ByteArray.toList_eq]
          exact fun e => he (bs_inj (by rw [bs, bs, e]))
        have hnext : ∀ j, j < k + 1 → l.getD j ⟨#[]⟩ ≠ s := by
          intro j hj
          rcases Nat.lt_succ_iff_lt_or_eq.1 hj with h | rfl
          · exact hrun j h
          · rw [← Hx.out]; exact fun e => he e.symm
        clear hrun
        go_wp2_with fail
        exact ⟨⟨k + 1, by omega, by go_num, hnext, trivial⟩, by simp [intOf]; omega⟩
    · exfalso
      obtain rfl : k = n := by omega
      obtain ⟨j, hj, hjs⟩ := List.getElem_of_mem Hs.out
      apply hrun j (by have := Hn.out; omega)
      rw [List.getD_eq_getElem?_getD, List.getElem?_eq_getElem hj]
      exact hjs
theorem contains_any (v : Value) (l : List ByteArray) (s : ByteArray) (w : World) (T : Strs w v l) (hl : l.length ≤ 1000000) (hs : s ∈ l) :
    Calls Tryd.prog 47 #[v, .string s] w fun e w' => e = .returned (.bool true) ∧ w' = w := by
  have hi := index_any v l s w T hl hs
  obtain ⟨a, c, rfl⟩ := T.len
  clear T hs
  go_enter Tryd.func47, Tryd.ntmps47
  go_wp2_with (go_at_call 92; refine hi.mono ?_; rintro e w2 ⟨k, rfl, hw2⟩; subst w2; have hk0 : (0 : Int) ≤ k := by omega)
  go_ret
  first | exact ⟨rfl, rfl⟩ | exact ⟨congrArg (fun b => Ending.returned (.bool b)) (by simp), rfl⟩
end Go.Proofs.YtndcaaikjcicgaaDoor
