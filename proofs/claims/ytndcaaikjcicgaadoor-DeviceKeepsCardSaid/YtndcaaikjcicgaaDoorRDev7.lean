/-
  DERIVED. Both devices and a counter side by side, and what each call does to them.
-/
import Derived.Test.YtndcaaikjcicgaaDoorRDev6
import Derived.Test.YtndcaaikjcicgaaDoorRests
set_option linter.unusedVariables false
set_option linter.unusedSimpArgs false
namespace Go.Proofs.YtndcaaikjcicgaaDoor
open Go.RowKit Go.Cof
/-- What a device has: its sure blocks, what waits, its fuse. -/
abbrev DSt := List ByteArray × List (Nat × ByteArray) × Int
def wrE (d : DSt) (k : Int) (s : ByteArray) : Int := if 0 ≤ k ∧ k ≤ 65 then (if 256 < s.size then 4 else if d.2.2 = 0 then 14 else 0) else 2
def wrS (d : DSt) (k : Int) (s : ByteArray) : DSt := if 0 ≤ k ∧ k ≤ 65 ∧ s.size ≤ 256 ∧ d.2.2 ≠ 0 then (d.1, d.2.1 ++ [(k.toNat, padB s)], burnt d.2.2) else d
def syE (d : DSt) : Int := if d.2.2 = 0 then 14 else 0
def syS (d : DSt) : DSt := if d.2.2 = 0 then d else (applyW d.1 d.2.1, [], burnt d.2.2)
def fuS (d : DSt) (m : Int) : DSt := (d.1, d.2.1, max m (-1))
def crS (d : DSt) (keeps : List Bool) : DSt := (crashTo d.1 d.2.1 keeps d.2.1.length, [], -1)
def laS (d : DSt) (l : List ByteArray) : DSt := (layP l, [], d.2.2)
def rdE (k : Int) : Int := if 0 ≤ k ∧ k ≤ 65 then 0 else 2
def rdS (d : DSt) (k : Int) : ByteArray := if 0 ≤ k ∧ k ≤ 65 then (applyW d.1 d.2.1).getD k.toNat ⟨#[]⟩ else ⟨#[]⟩
theorem wrS_len (d : DSt) (k : Int) (s : ByteArray) : (wrS d k s).2.1.length ≤ d.2.1.length + 1 := by
  rw [wrS]; split
  · simp
  · omega
theorem syS_len (d : DSt) : (syS d).2.1.length ≤ d.2.1.length := by
  rw [syS]; split <;> simp
structure Parts (w0 w : World) (D E B : Nat) (x : Option (Nat × Obj)) (d r : DSt) (n : Int) (S : Nat) (wv sv av tv : Value) : Prop where
  dev : DevAt w D S wv d.1 d.2.1 d.2.2
  ref : RDev w E sv av tv r.1 r.2.1 r.2.2
  cnt : CountAt w B n
  own : ∀ b, (DevB D S wv b ∨ RB E sv av tv b ∨ b = B) → w0.heap.size ≤ b
  sep : ∀ b, DevB D S wv b → ¬ RB E sv av tv b
  sepB : ¬ DevB D S wv B ∧ ¬ RB E sv av tv B
  keep : Keep NoB w0 w
  /-- One block more, kept as it is. -/
  ex : ∀ X o, x = some (X, o) → w.heap[X]? = some o ∧ ¬ DevB D S wv X ∧ ¬ RB E sv av tv X ∧ X ≠ B
/-- Both devices and the counter, all newer than w0. -/
def St (w0 w : World) (D E B : Nat) (x : Option (Nat × Obj)) (d r : DSt) (n : Int) : Prop := ∃ S wv sv av tv, Parts w0 w D E B x d r n S wv sv av tv
section
variable {w0 w w' : World} {D E B S : Nat} {wv sv av tv wv' av' tv' : Value} {d r d' r' : DSt} {n n' : Int} {x : Option (Nat × Obj)}
theorem RDev.lt (h : RDev w E sv av tv r.1 r.2.1 r.2.2) : ∀ b, RB E sv av tv b → b < w.heap.size := by
  rintro b (rfl | hb | hb | hb)
  · exact lt_of_heap h.head
  · exact (h.row.lt b hb).2
  · exact (h.ats.lt b hb).2
  · exact (h.whats.lt b hb).2
theorem devLt (h : DevAt w D S wv d.1 d.2.1 d.2.2) : ∀ b, DevB D S wv b → b < w.heap.size := by
  rintro b (rfl | rfl | hb)
  · obtain ⟨c, h2, _⟩ := h.head; exact lt_of_heap h2
  · obtain ⟨c, h2, _⟩ := h.row; exact lt_of_heap h2
  · exact (h.waits.lt b hb).2
theorem devMoved (hm : Moved w wv wv') : ∀ b, DevB D S wv' b → DevB D S wv b ∨ w.heap.size ≤ b := by
  rintro b (hb | hb | hb)
  · exact .inl (.inl hb)
  · exact .inl (.inr (.inl hb))
  · rcases hm with hm | hm
    · exact .inl (.inr (.inr (hm ▸ hb)))
    · exact .inr (hm b hb)
theorem refMoved (ha : Mov w av av') (ht : Mov w tv tv') : ∀ b, RB E sv av' tv' b → RB E sv av tv b ∨ w.heap.size ≤ b := by
  rintro b (hb | hb | hb | hb)
  · exact .inl (.inl hb)
  · exact .inl (.inr (.inl hb))
  · rcases ha with ha | ha
    · exact .inl (.inr (.inr (.inl (ha ▸ hb))))
    · exact .inr (ha b hb)
  · rcases ht with ht | ht
    · exact .inl (.inr (.inr (.inr (ht ▸ hb))))
    · exact .inr (ht b hb)
theorem Parts.stepD (h : Parts w0 w D E B x d r n S wv sv av tv) (hd : DevAt w' D S wv' d'.1 d'.2.1 d'.2.2) (hm : Moved w wv wv') (hk : Keep (DevB D S wv) w w') : St w0 w' D E B x d' r n := by
  have hs := h.keep.size
  have hBlt := lt_of_heap h.cnt
  refine ⟨S, wv', sv, av, tv, hd, h.ref.keep hk (fun b hb hx => h.sep b hx hb), h.cnt.keep hk h.sepB.1, ?_, ?_, ⟨?_, h.sepB.2⟩, h.keep.trans hk (fun i hi hx => ?_), ?_⟩
  · rintro b (hb | hb)
    · rcases devMoved hm b hb with hb | hb
      · exact h.own b (.inl hb)
      · omega
    · exact h.own b (.inr hb)
  · intro b hb hx
    rcases devMoved hm b hb with hb | hb
    · exact h.sep b hb hx
    · have := h.ref.lt b hx; omega
  · intro hb
    rcases devMoved hm B hb with hb | hb
    · exact h.sepB.1 hb
    · omega
  · have := h.own i (.inl hx); omega
  · intro X o e
    obtain ⟨x1, x2, x3, x4⟩ := h.ex X o e
    refine ⟨hk.heap x1 x2, fun hb => ?_, x3, x4⟩
    rcases devMoved hm X hb with hb | hb
    · exact x2 hb
    · have := lt_of_heap x1; omega
theorem Parts.stepR (h : Parts w0 w D E B x d r n S wv sv av tv) (hd : RDev w' E sv av' tv' r'.1 r'.2.1 r'.2.2) (ha : Mov w av av') (ht : Mov w tv tv') (hk : Keep (RB E sv av tv) w w') : St w0 w' D E B x d r' n := by
  have hs := h.keep.size
  have hBlt := lt_of_heap h.cnt
  refine ⟨S, wv, sv, av', tv', h.dev.keep hk (fun b hb hx => h.sep b hb hx), hd, h.cnt.keep hk h.sepB.2, ?_, ?_, ⟨h.sepB.1, ?_⟩, h.keep.trans hk (fun i hi hx => ?_), ?_⟩
  · rintro b (hb | hb | hb)
    · exact h.own b (.inl hb)
    · rcases refMoved ha ht b hb with hb | hb
      · exact h.own b (.inr (.inl hb))
      · omega
    · exact h.own b (.inr (.inr hb))
  · intro b hb hx
    rcases refMoved ha ht b hx with hx | hx
    · exact h.sep b hb hx
    · have := devLt h.dev b hb; omega
  · intro hb
    rcases refMoved ha ht B hb with hb | hb
    · exact h.sepB.2 hb
    · omega
  · have := h.own i (.inr (.inl hx)); omega
  · intro X o e
    obtain ⟨x1, x2, x3, x4⟩ := h.ex X o e
    refine ⟨hk.heap x1 x3, x2, fun hb => ?_, x4⟩
    rcases refMoved ha ht X hb with hb | hb
    · exact x3 hb
    · have := lt_of_heap x1; omega
theorem Parts.stepC (h : Parts w0 w D E B x d r n S wv sv av tv) (hc : CountAt w' B n') (hk : Keep (OneB B) w w') : St w0 w' D E B x d r n' :=
  ⟨S, wv, sv, av, tv, h.dev.keep hk (fun b hb hx => h.sepB.1 (hx ▸ hb)), h.ref.keep hk (fun b hb hx => h.sepB.2 (hx ▸ hb)), hc, h.own, h.sep, h.sepB, h.keep.trans hk (fun i hi hx => by have := h.own i (.inr (.inr hx)); omega), fun X o e => by obtain ⟨x1, x2, x3, x4⟩ := h.ex X o e; exact ⟨hk.heap x1 x4, x2, x3, x4⟩⟩
theorem St.keepN (h : St w0 w D E B x d r n) (hk : Keep NoB w w') : St w0 w' D E B x d r n := by
  obtain ⟨S, wv, sv, av, tv, h⟩ := h
  exact ⟨S, wv, sv, av, tv, h.dev.keep hk (fun _ _ x => x), h.ref.keep hk (fun _ _ x => x), h.cnt.keep hk (fun x => x), h.own, h.sep, h.sepB, h.keep.thenN hk, fun X o e => by obtain ⟨x1, x2, x3, x4⟩ := h.ex X o e; exact ⟨hk.heap x1 (fun y => y), x2, x3, x4⟩⟩
theorem range_of {k : Int} (h : ¬ (0 ≤ k ∧ k ≤ 65)) : k < 0 ∨ 66 ≤ k := by omega
theorem write_St (h : St w0 w D E B x d r n) (k : Int) (s : ByteArray) (hw : d.2.1.length < 1000000) :
    Calls Tryd.prog 36 #[.pointer (some ⟨D, 0, none⟩), .int .i64 k, .string s] w fun e w' => e = .returned (errVal (wrE d k s)) ∧ St w0 w' D E B x (wrS d k s) r n := by
  have h0 := h
  obtain ⟨S, wv, sv, av, tv, h⟩ := h
  by_cases hk : 0 ≤ k ∧ k ≤ 65
  · obtain ⟨j, rfl⟩ : ∃ j : Nat, k = (j : Int) := ⟨k.toNat, by omega⟩
    have hj : j < 66 := by omega
    by_cases hs : s.size ≤ 256
    · by_cases hf : d.2.2 = 0
      · have hd := h.dev
        rw [hf] at hd
        refine (write_spent hd j s hj hs).mono fun e w' ⟨he, hd', hK⟩ => ⟨?_, ?_⟩
        · rw [he, wrE, if_pos hk, if_neg (by omega), if_pos hf]; rfl
        · rw [wrS, if_neg (by intro x; exact x.2.2.2 hf)]
          rw [← hf] at hd'
          exact h.stepD hd' (.inl rfl) (one_dev hK)
      · refine (write_ok h.dev j s hj hs hf hw).mono fun e w' ⟨he, ⟨wv', hd', hm⟩, hK⟩ => ⟨?_, ?_⟩
        · rw [he, wrE, if_pos hk, if_neg (by omega), if_neg hf]; rfl
        · rw [wrS, if_pos ⟨hk.1, hk.2, hs, hf⟩]
          exact h.stepD (d' := (d.1, d.2.1 ++ [((j : Int).toNat, padB s)], burnt d.2.2)) hd' hm hK
    · refine (write_limit D j s hj (by omega)).mono fun e w' ⟨he, hw'⟩ => ⟨?_, ?_⟩
      · rw [he, wrE, if_pos hk, if_pos (by omega)]; rfl
      · rw [wrS, if_neg (fun x => hs x.2.2.1), hw']; exact h0
  · refine (write_range D k s (range_of hk)).mono fun e w' ⟨he, hw'⟩ => ⟨?_, ?_⟩
    · rw [he, wrE, if_neg hk]; rfl
    · rw [wrS, if_neg (fun x => hk ⟨x.1, x.2.1⟩), hw']; exact h0
theorem one_ref (h : Keep (OneB E) w w') : Keep (RB E sv av tv) w w' := h.mono fun _ _ hb => Or.inl hb
theorem refWrite_St (h : St w0 w D E B x d r n) (k : Int) (s : ByteArray) (hw : r.2.1.length < 1000000) :
    Calls Tryd.prog 49 #[.pointer (some ⟨E, 0, none⟩), .int .i64 k, .string s] w fun e w' => e = .returned (.int .i64 (wrE r k s)) ∧ St w0 w' D E B x d (wrS r k s) n := by
  have h0 := h
  obtain ⟨S, wv, sv, av, tv, h⟩ := h
  by_cases hk : 0 ≤ k ∧ k ≤ 65
  · obtain ⟨j, rfl⟩ : ∃ j : Nat, k = (j : Int) := ⟨k.toNat, by omega⟩
    have hj : j < 66 := by omega
    by_cases hs : s.size ≤ 256
    · by_cases hf : r.2.2 = 0
      · have hd := h.ref
        rw [hf] at hd
        refine (refWrite_spent hd j s hj hs).mono fun e w' ⟨he, hd', hK⟩ => ⟨?_, ?_⟩
        · rw [he, wrE, if_pos hk, if_neg (by omega), if_pos hf]
        · rw [wrS, if_neg (by intro x; exact x.2.2.2 hf)]
          rw [← hf] at hd'
          exact h.stepR hd' (.inl rfl) (.inl rfl) (one_ref hK)
      · refine (refWrite_ok h.ref j s hj hs hf hw).mono fun e w' ⟨he, ⟨av', tv', hd', ha, ht⟩, hK⟩ => ⟨?_, ?_⟩
        · rw [he, wrE, if_pos hk, if_neg (by omega), if_neg hf]
        · rw [wrS, if_pos ⟨hk.1, hk.2, hs, hf⟩]
          exact h.stepR (r' := (r.1, r.2.1 ++ [((j : Int).toNat, padB s)], burnt r.2.2)) hd' ha ht hK
    · refine (refWrite_limit j s hj (by omega) E w).mono fun e w' ⟨he, hw'⟩ => ⟨?_, ?_⟩
      · rw [he, wrE, if_pos hk, if_pos (by omega)]
      · rw [wrS, if_neg (fun x => hs x.2.2.1), hw']; exact h0
  · refine (refWrite_range k s hk E w).mono fun e w' ⟨he, hw'⟩ => ⟨?_, ?_⟩
    · rw [he, wrE, if_neg hk]
    · rw [wrS, if_neg (fun x => hk ⟨x.1, x.2.1⟩), hw']; exact h0
theorem nilMoved : Moved w wv (.slice none 0 0) := .inr (fun b hb => by cases hb)
theorem nilMov {v : Value} : Mov w v (.slice none 0 0) := .inr (fun b hb => by cases hb)
theorem sync_St (h : St w0 w D E B x d r n) :
    Calls Tryd.prog 38 #[.pointer (some ⟨D, 0, none⟩)] w fun e w' => e = .returned (errVal (syE d)) ∧ St w0 w' D E B x (syS d) r n := by
  obtain ⟨S, wv, sv, av, tv, h⟩ := h
  by_cases hf : d.2.2 = 0
  · have hd := h.dev
    rw [hf] at hd
    refine (sync_spent hd).mono fun e w' ⟨he, hd', hK⟩ => ⟨?_, ?_⟩
    · rw [he, syE, if_pos hf]; rfl
    · rw [syS, if_pos hf]
      rw [← hf] at hd'
      exact h.stepD hd' (.inl rfl) (one_dev hK)
  · refine (sync_ok h.dev hf).mono fun e w' ⟨he, hd', hK⟩ => ⟨?_, ?_⟩
    · rw [he, syE, if_neg hf]; rfl
    · rw [syS, if_neg hf]
      exact h.stepD (d' := (applyW d.1 d.2.1, [], burnt d.2.2)) hd' nilMoved hK
theorem refSync_St (h : St w0 w D E B x d r n) :
    Calls Tryd.prog 50 #[.pointer (some ⟨E, 0, none⟩)] w fun e w' => e = .returned (.int .i64 (syE r)) ∧ St w0 w' D E B x d (syS r) n := by
  obtain ⟨S, wv, sv, av, tv, h⟩ := h
  by_cases hf : r.2.2 = 0
  · have hd := h.ref
    rw [hf] at hd
    refine (refSync_spent hd).mono fun e w' ⟨he, hd', hK⟩ => ⟨?_, ?_⟩
    · rw [he, syE, if_pos hf]
    · rw [syS, if_pos hf]
      rw [← hf] at hd'
      exact h.stepR hd' (.inl rfl) (.inl rfl) (one_ref hK)
  · refine (refSync_ok h.ref hf).mono fun e w' ⟨he, hd', hK⟩ => ⟨?_, ?_⟩
    · rw [he, syE, if_neg hf]
    · rw [syS, if_neg hf]
      exact h.stepR (r' := (applyW r.1 r.2.1, [], burnt r.2.2)) hd' nilMov nilMov hK
theorem fuse_St (h : St w0 w D E B x d r n) (m : Int) (hm : m ≤ 9223372036854775807) :
    Calls Tryd.prog 43 #[.pointer (some ⟨D, 0, none⟩), .int .i64 m] w fun e w' => e = .returned (.tuple #[]) ∧ St w0 w' D E B x (fuS d m) r n := by
  obtain ⟨S, wv, sv, av, tv, h⟩ := h
  exact (fuse_any h.dev m hm).mono fun e w' ⟨he, hd', hK⟩ => ⟨he, h.stepD (d' := fuS d m) hd' (.inl rfl) (one_dev hK)⟩
theorem refFuse_St (h : St w0 w D E B x d r n) (m : Int) (hl : -9223372036854775808 ≤ m) (hm : m ≤ 9223372036854775807) :
    Calls Tryd.prog 51 #[.pointer (some ⟨E, 0, none⟩), .int .i64 m] w fun e w' => e = .returned (.tuple #[]) ∧ St w0 w' D E B x d (fuS r m) n := by
  obtain ⟨S, wv, sv, av, tv, h⟩ := h
  exact (refFuse_any h.ref m hl hm).mono fun e w' ⟨he, hd', hK⟩ => ⟨he, h.stepR (r' := fuS r m) hd' (.inl rfl) (.inl rfl) (one_ref hK)⟩
/-- An argument of the law is older than both devices. -/
theorem bools_lt {w : World} {kv : Value} {keeps : List Bool} (K : Bools w kv keeps) (h0 : 0 < keeps.length) : ∀ b, kv.ownBlock = some b → b < w.heap.size := by
  intro b hb
  obtain ⟨p, c, rfl⟩ := K.len
  obtain ⟨x, off, rfl, _, hx, _⟩ := K.at h0
  obtain rfl : x = b := Option.some.inj hb
  exact hx
theorem crash_St (h : St w0 w D E B x d r n) (kv : Value) (keeps : List Bool) (K : Bools w0 kv keeps) (hk : keeps.length ≤ 1000000) :
    Calls Tryd.prog 40 #[.pointer (some ⟨D, 0, none⟩), kv] w fun e w' => e = .returned (.tuple #[]) ∧ St w0 w' D E B x (crS d keeps) r n := by
  obtain ⟨S, wv, sv, av, tv, h⟩ := h
  refine (crash_any h.dev kv keeps (K.keep h.keep (fun _ _ x => x)) hk (fun h0 b hb hx => ?_)).mono fun e w' ⟨he, hd', hK⟩ => ⟨he, h.stepD (d' := crS d keeps) hd' nilMoved hK⟩
  have h1 := bools_lt K h0 b hb
  have h2 := h.own b (.inl hx)
  omega
theorem refCrash_St (h : St w0 w D E B x d r n) (kv : Value) (keeps : List Bool) (K : Bools w0 kv keeps) (hk : keeps.length ≤ 1000000) :
    Calls Tryd.prog 52 #[.pointer (some ⟨E, 0, none⟩), kv] w fun e w' => e = .returned (.tuple #[]) ∧ St w0 w' D E B x d (crS r keeps) n := by
  obtain ⟨S, wv, sv, av, tv, h⟩ := h
  refine (refCrash_any h.ref kv keeps (K.keep h.keep (fun _ _ x => x)) hk (fun h0 b hb hx => ?_)).mono fun e w' ⟨he, hd', hK⟩ => ⟨he, h.stepR (r' := crS r keeps) hd' nilMov nilMov hK⟩
  have h1 := bools_lt K h0 b hb
  have h2 := h.own b (.inr (.inl hx))
  omega
theorem strs_lt {w : World} {v : Value} {l : List ByteArray} (T : Strs w v l) (h0 : 0 < l.length) : ∀ b, v.ownBlock = some b → b < w.heap.size := by
  intro b hb
  obtain ⟨p, c, rfl⟩ := T.len
  obtain ⟨x, off, rfl, _, hx, _⟩ := T.at h0
  obtain rfl : x = b := Option.some.inj hb
  exact hx
/-- Lay of a list that lies in a block newer than the devices. -/
theorem lay_St {w1 : World} (h : St w0 w1 D E B x d r n) (K1 : Keep NoB w1 w) (v : Value) (l : List ByteArray) (T : Strs w v l) (hl : l.length ≤ 1000000) (hs : ∀ s ∈ l, s.size ≤ 1000000) (hv : ∀ b, v.ownBlock = some b → w1.heap.size ≤ b) :
    Calls Tryd.prog 42 #[.pointer (some ⟨D, 0, none⟩), v] w fun e w' => e = .returned (.tuple #[]) ∧ St w0 w' D E B x (laS d l) r n := by
  obtain ⟨S, wv, sv, av, tv, h⟩ := h
  have hlt := devLt h.dev
  have h2 : Parts w0 w D E B x d r n S wv sv av tv := ⟨h.dev.keep K1 (fun _ _ x => x), h.ref.keep K1 (fun _ _ x => x), h.cnt.keep K1 (fun x => x), h.own, h.sep, h.sepB, h.keep.thenN K1, fun X o e => by obtain ⟨x1, x2, x3, x4⟩ := h.ex X o e; exact ⟨K1.heap x1 (fun y => y), x2, x3, x4⟩⟩
  refine (lay_any h2.dev v l T hl hs (fun b hb hx => ?_)).mono fun e w' ⟨he, hd', hK⟩ => ⟨he, h2.stepD (d' := laS d l) hd' nilMoved hK⟩
  have h3 := hv b hb
  have h4 := hlt b hx
  omega
theorem refLay_St (h : St w0 w D E B x d r n) (v : Value) (l : List ByteArray) (T : Strs w0 v l) (hl : l.length ≤ 1000000) (hs : ∀ s ∈ l, s.size ≤ 1000000) :
    Calls Tryd.prog 53 #[.pointer (some ⟨E, 0, none⟩), v] w fun e w' => e = .returned (.tuple #[]) ∧ St w0 w' D E B x d (laS r l) n := by
  obtain ⟨S, wv, sv, av, tv, h⟩ := h
  refine (refLay_any h.ref v l (T.keep h.keep (fun _ _ x => x)) hl hs (fun h0 b hb hx => ?_)).mono fun e w' ⟨he, hd', hK⟩ => ⟨he, h.stepR (r' := laS r l) hd' nilMov nilMov hK⟩
  have h1 := strs_lt T h0 b hb
  have h2 := h.own b (.inr (.inl hx))
  omega
theorem read_St (h : St w0 w D E B x d r n) (k : Int) :
    Calls Tryd.prog 46 #[.pointer (some ⟨D, 0, none⟩), .int .i64 k] w fun e w' => e = .returned (.tuple #[.string (rdS d k), errVal (rdE k)]) ∧ St w0 w' D E B x d r n ∧ Keep NoB w w' := by
  have h0 := h
  obtain ⟨S, wv, sv, av, tv, h⟩ := h
  by_cases hk : 0 ≤ k ∧ k ≤ 65
  · obtain ⟨j, rfl⟩ : ∃ j : Nat, k = (j : Int) := ⟨k.toNat, by omega⟩
    refine (read_at h.dev j (by omega)).mono fun e w' ⟨he, hK⟩ => ⟨?_, h0.keepN hK, hK⟩
    rw [he, rdS, if_pos hk, rdE, if_pos hk]; rfl
  · refine (read_far D k (range_of hk)).mono fun e w' ⟨he, hK⟩ => ⟨?_, h0.keepN hK, hK⟩
    rw [he, rdS, if_neg hk, rdE, if_neg hk]; rfl
theorem refRead_St (h : St w0 w D E B x d r n) (k : Int) :
    Calls Tryd.prog 55 #[.pointer (some ⟨E, 0, none⟩), .int .i64 k] w fun e w' => e = .returned (.tuple #[.string (rdS r k), .int .i64 (rdE k)]) ∧ w' = w := by
  obtain ⟨S, wv, sv, av, tv, h⟩ := h
  by_cases hk : 0 ≤ k ∧ k ≤ 65
  · obtain ⟨j, rfl⟩ : ∃ j : Nat, k = (j : Int) := ⟨k.toNat, by omega⟩
    refine (refRead_at h.ref j (by omega)).mono fun e w' ⟨he, hK⟩ => ⟨?_, hK⟩
    rw [he, rdS, if_pos hk, rdE, if_pos hk]; rfl
  · refine (refRead_far E k hk w).mono fun e w' ⟨he, hK⟩ => ⟨?_, hK⟩
    rw [he, rdS, if_neg hk, rdE, if_neg hk]
theorem image_St (h : St w0 w D E B x d r n) :
    Calls Tryd.prog 39 #[.pointer (some ⟨D, 0, none⟩)] w fun e w' => ∃ v, e = .returned v ∧ Strs w' v d.1 ∧ St w0 w' D E B x d r n ∧ Keep NoB w w' := by
  have h0 := h
  obtain ⟨S, wv, sv, av, tv, h⟩ := h
  exact (image_any h.dev).mono fun e w' ⟨g, c, he, hs, hg, hK⟩ => ⟨_, he, hs, h0.keepN hK, hK⟩
theorem refImage_St (h : St w0 w D E B x d r n) :
    Calls Tryd.prog 54 #[.pointer (some ⟨E, 0, none⟩)] w fun e w' => ∃ v, e = .returned v ∧ Strs w' v r.1 ∧ St w0 w' D E B x d r n ∧ Keep NoB w w' := by
  have h0 := h
  obtain ⟨S, wv, sv, av, tv, h⟩ := h
  exact (refImage_any h.ref).mono fun e w' ⟨v, he, hs, hK⟩ => ⟨v, he, hs, h0.keepN hK, hK⟩
theorem St.lens (h : St w0 w D E B x d r n) : d.1.length = 66 ∧ r.1.length = 66 := by
  obtain ⟨S, wv, sv, av, tv, h⟩ := h
  exact ⟨h.dev.len, h.ref.len⟩
/-- A block more. -/
theorem St.withX (h : St w0 w D E B x d r n) (o : Obj) : St w0 (w.alloc o) D E B (some (w.heap.size, o)) d r n := by
  have h1 := h.keepN ((Keep.refl NoB w).alloc o)
  obtain ⟨S, wv, sv, av, tv, h⟩ := h
  have hk := (Keep.refl NoB w).alloc o
  have b1 := devLt h.dev
  have b2 := h.ref.lt
  have b3 := lt_of_heap h.cnt
  refine ⟨S, wv, sv, av, tv, h.dev.keep hk (fun _ _ x => x), h.ref.keep hk (fun _ _ x => x), h.cnt.keep hk (fun x => x), h.own, h.sep, h.sepB, h.keep.thenN hk, ?_⟩
  intro X o' e
  cases e
  refine ⟨heap_alloc_new w _, fun hb => ?_, fun hb => ?_, by omega⟩
  · have := b1 _ hb; omega
  · have := b2 _ hb; omega
theorem St.dropX (h : St w0 w D E B x d r n) : St w0 w D E B none d r n := by
  obtain ⟨S, wv, sv, av, tv, h⟩ := h
  exact ⟨S, wv, sv, av, tv, h.dev, h.ref, h.cnt, h.own, h.sep, h.sepB, h.keep, fun X o e => by cases e⟩
theorem St.xat {X : Nat} {o : Obj} (h : St w0 w D E B (some (X, o)) d r n) : w.heap[X]? = some o := by
  obtain ⟨S, wv, sv, av, tv, h⟩ := h
  exact (h.ex X o rfl).1
theorem St.kept (h : St w0 w D E B x d r n) : Keep NoB w0 w := by
  obtain ⟨S, wv, sv, av, tv, h⟩ := h
  exact h.keep
theorem get_St (h : St w0 w D E B x d r n) : Calls Tryd.prog 24 #[.pointer (some ⟨B, 0, none⟩)] w fun e w' => e = .returned (.int .i64 n) ∧ w' = w := by
  obtain ⟨S, wv, sv, av, tv, h⟩ := h
  exact get_any h.cnt
theorem raise_St (h : St w0 w D E B x d r n) (m : Int) :
    Calls Tryd.prog 22 #[.pointer (some ⟨B, 0, none⟩), .int .i64 m] w fun e w' => e = .returned (errVal (if n < m then 0 else 10)) ∧ St w0 w' D E B x d r (if n < m then m else n) := by
  have h0 := h
  obtain ⟨S, wv, sv, av, tv, h⟩ := h
  by_cases hm : n < m
  · refine (raise_yes h.cnt m hm).mono fun e w' ⟨he, hc, hK⟩ => ⟨?_, ?_⟩
    · rw [he, if_pos hm]; rfl
    · rw [if_pos hm]; exact h.stepC hc hK
  · refine (raise_no h.cnt m (by omega)).mono fun e w' ⟨he, hw⟩ => ⟨?_, ?_⟩
    · rw [he, if_neg hm]; rfl
    · rw [if_neg hm, hw]; exact h0
end
end Go.Proofs.YtndcaaikjcicgaaDoor
