/-
  DERIVED. Points: which may be (item.Name, item.Right); a law's own: held, right.
-/
import Derived.Test.YtcjilojkhmondaaDoorTop
import Derived.Shelf.Strings.SlTrimAscii
set_option linter.unusedVariables false
set_option linter.unusedSimpArgs false
namespace Go.Proofs.YtcjilojkhmondaaDoor
open Go.RowKit Go.Cof Go.Sort Go.Shelf
set_option maxRecDepth 100000 in
set_option maxHeartbeats 4000000 in
theorem indexItem_any (g : FuncId) (cb : Array Value) (p : ItemV → Bool) (v : Value) (l : List ItemV) (w : World) (S : RowsK w v 3 encItem l) (hl : l.length ≤ 1000000)
    (hp : ∀ x, x ∈ l → ∀ W, Keep NoB w W → Calls Tryd.prog g (#[.agg (encItem x).toArray] ++ cb) W fun e w' => e = .returned (.bool (p x)) ∧ Keep NoB W w') (eg : ∀ args w, (callFunc g args).run Tryd.prog w = .ok (.enter g args) w) :
    Calls Tryd.prog 46 #[v, .func (.func g) #[] cb] w fun e w' => (∃ i : Int, e = .returned (.int .i64 i) ∧ decide (0 ≤ i) = l.any p) ∧ Keep NoB w w' := by
  obtain ⟨a, c, rfl⟩ := S.len
  obtain ⟨n, hn⟩ : ∃ n, n = l.length := ⟨_, rfl⟩
  rw [← hn] at S hl
  rw [← hn]
  have Hn := Lib.hid hn
  have Hp := Lib.hid hp
  clear hn hp
  go_enter Tryd.func46, Tryd.ntmps46
  go_wp2_with fail
  go_loopw [8] (fun i wr => ∃ k : Nat, k ≤ n ∧ i = .int .i64 k ∧ (l.take k).any p = false ∧ Keep NoB w wr) (fun i _ => n - (intOf i).toNat)
  case atStart => exact ⟨0, by omega, rfl, rfl, Keep.refl _ _⟩
  case round =>
    obtain ⟨k, hk, rfl, hpre, K⟩ := hrel
    by_cases hlt : k < n
    · have j1 : decide (k < n) = true := by simp; omega
      have Sr := S.keep K (fun _ _ x => x)
      obtain ⟨b, off, rfl, -, hb, hcell⟩ := Sr.at (by have := Hn.out; omega)
      obtain ⟨x, hx⟩ : ∃ x, l[k]? = some x := ⟨_, List.getElem?_eq_getElem (by have := Hn.out; omega)⟩
      have hra := hcell k x hx
      have hks : (l.take (k + 1)).any p = p x := by
        rw [List.take_succ_eq_append_getElem (by have := Hn.out; omega), List.any_append, hpre, (List.getElem?_eq_some_iff.1 hx).2]
        simp
      have hxm : x ∈ l := List.mem_of_getElem? hx
      have hcx := Hp.out x hxm wr K
      have Hks := Lib.hid hks
      have Hpre := Lib.hid hpre
      have hj : (k : Int) < n := by omega
      obtain ⟨nm, tg, av, ns⟩ := x
      have c0 : wr.cell? ⟨b, off + k * 3, none⟩ = some (.string nm) := hra 0 _ rfl
      have c1 : wr.cell? ⟨b, off + k * 3 + 1, none⟩ = some (.string tg) := hra 1 _ rfl
      have c2 : wr.cell? ⟨b, off + k * 3 + 2, none⟩ = some av := hra 2 _ rfl
      have Hcx := Lib.hid hcx
      have Hxm := Lib.hid hxm
      clear hcell hra hks hpre hx hcx Sr hxm
      go_wp2_with fail
      refine Hcx.out.mono ?_
      rintro e w' ⟨rfl, K2⟩
      have K3 := K.thenN K2
      cases hps : p ⟨nm, tg, av, ns⟩ with
      | true =>
        rw [hps] at Hks
        have Hps := Lib.hid hps
        clear hps Hcx
        go_wp2_with fail
        go_ret
        refine ⟨⟨(k : Int), rfl, ?_⟩, K3⟩
        have h2 : l.any p = true := List.any_eq_true.2 ⟨_, Hxm.out, Hps.out⟩
        rw [h2]
        simp
      | false =>
        rw [hps] at Hks
        clear hps Hcx
        go_wp2_with fail
        exact ⟨⟨k + 1, by omega, by go_num, Hks.out, K3⟩, by simp [intOf]; omega⟩
    · obtain rfl : k = n := by omega
      have hall : l.any p = false := by rw [← hpre, List.take_of_length_le (by rw [← Hn.out]; exact Nat.le_refl _)]
      have j1 : decide (k < k) = false := by simp
      have Hall := Lib.hid hall
      clear hall hpre
      go_wp2_with fail
      go_ret
      exact ⟨⟨-1, rfl, by rw [Hall.out]; rfl⟩, K⟩
set_option maxRecDepth 100000 in
theorem containsItem_any (g : FuncId) (cb : Array Value) (p : ItemV → Bool) (v : Value) (l : List ItemV) (w : World) (S : RowsK w v 3 encItem l) (hl : l.length ≤ 1000000)
    (hp : ∀ x, x ∈ l → ∀ W, Keep NoB w W → Calls Tryd.prog g (#[.agg (encItem x).toArray] ++ cb) W fun e w' => e = .returned (.bool (p x)) ∧ Keep NoB W w') (eg : ∀ args w, (callFunc g args).run Tryd.prog w = .ok (.enter g args) w) :
    Calls Tryd.prog 41 #[v, .func (.func g) #[] cb] w fun e w' => e = .returned (.bool (l.any p)) ∧ Keep NoB w w' := by
  have hi := indexItem_any g cb p v l w S hl hp eg
  clear hp
  go_enter Tryd.func41, Tryd.ntmps41
  go_wp2_with fail
  refine hi.mono ?_
  rintro e w' ⟨⟨i, rfl, hii⟩, K⟩
  have Hii := Lib.hid hii
  clear hii hi
  go_wp2_with fail
  go_ret
  refine ⟨congrArg (fun b => Ending.returned (.bool b)) ?_, K⟩
  rw [← Hii.out]
/-- Too long to be held. -/
def wideB (x : ItemV) : Bool := decide (40 < x.name.size) || decide (40 < x.tag.size) || decide (12 < x.ns.length)
theorem held1_any (x : ItemV) (w : World) (hx : ∃ p c, x.av = .slice p x.ns.length c) : Calls Tryd.prog 42 #[.agg (encItem x).toArray] w fun e w' => e = .returned (.bool (wideB x)) ∧ Keep NoB w w' := by
  obtain ⟨nm, tg, av, ns⟩ := x
  simp only at hx
  obtain ⟨p, c, rfl⟩ := hx
  simp only [encItem, wideB]
  by_cases h1 : (40 : Int) < nm.size
  · have e1 : decide (40 < nm.size) = true := by simp; omega
    rw [e1]
    clear e1
    go_enter Tryd.func42, Tryd.ntmps42
    go_wp2_with fail
    go_ret
    exact ⟨rfl, (Keep.refl _ _).alloc _⟩
  · have e1 : decide (40 < nm.size) = false := by simp; omega
    have d1 : decide ((40 : Int) < nm.size) = false := by simpa using h1
    rw [e1]
    clear e1 h1
    by_cases h2 : (40 : Int) < tg.size
    · have e1 : decide (40 < tg.size) = true := by simp; omega
      rw [e1]
      clear e1
      go_enter Tryd.func42, Tryd.ntmps42
      go_wp2_with fail
      go_ret
      exact ⟨rfl, (Keep.refl _ _).alloc _⟩
    · have e1 : decide (40 < tg.size) = false := by simp; omega
      have d2 : decide ((40 : Int) < tg.size) = false := by simpa using h2
      rw [e1]
      clear e1 h2
      go_enter Tryd.func42, Tryd.ntmps42
      go_wp2_with fail
      go_ret
      exact ⟨by simp; omega, (Keep.refl _ _).alloc _⟩
def heldB (l : List ItemV) : Bool := decide (l.length ≤ 65) && !l.any wideB
theorem held_any (v : Value) (l : List ItemV) (w : World) (I : Items w v l) (hl : l.length ≤ maxLen) : Calls Tryd.prog 8 #[v] w fun e w' => e = .returned (.bool (heldB l)) ∧ Keep NoB w w' := by
  obtain ⟨p, c, rfl⟩ := I.rows.len
  unfold maxLen at hl
  by_cases h : l.length ≤ 65
  · have hb : heldB l = !l.any wideB := by rw [heldB, decide_eq_true h, Bool.true_and]
    rw [hb]
    have hc := containsItem_any 42 #[] wideB _ l w I.rows (by omega) (fun x hx W K => held1_any x W ((I.nums x hx).len)) (enters_of Tryd.func42 (by kernel_rfl) rfl)
    have d1 : ((l.length : Nat) : Int) ≤ 65 := by omega
    generalize l.any wideB = b at hc ⊢
    clear hb h
    go_enter Tryd.func8, Tryd.ntmps8
    go_wp2_with fail
    refine hc.mono ?_
    rintro e w' ⟨rfl, K⟩
    go_wp2_with fail
    go_ret
    exact ⟨rfl, K⟩
  · have hb : heldB l = false := by rw [heldB, decide_eq_false h, Bool.false_and]
    rw [hb]
    have d1 : ¬ ((l.length : Nat) : Int) ≤ 65 := by omega
    clear hb h
    go_enter Tryd.func8, Tryd.ntmps8
    go_wp2_with fail
    go_ret
    exact ⟨rfl, Keep.refl _ _⟩
/-- What a name is made of. -/
def lettersT : ByteArray := ⟨#[97, 98, 99, 100, 101, 102, 103, 104, 105, 106, 107, 108, 109, 110, 111, 112, 113, 114, 115, 116, 117, 118, 119, 120, 121, 122]⟩
def alnumT : ByteArray := ⟨#[97, 98, 99, 100, 101, 102, 103, 104, 105, 106, 107, 108, 109, 110, 111, 112, 113, 114, 115, 116, 117, 118, 119, 120, 121, 122, 48, 49, 50, 51, 52, 53, 54, 55, 56, 57]⟩
/-- Something may be called so. -/
def nameB (s : ByteArray) : Bool := decide (s ≠ ⟨#[]⟩) && decide (s.size ≤ 10) && decide (0 ≤ Lib.indexByte lettersT.data.toList (s.data.toList.headD 0)) && decide (Lib.trimS s.data.toList alnumT.data.toList = [])
set_option maxRecDepth 100000 in
set_option maxHeartbeats 4000000 in
theorem name_any (s : ByteArray) (w : World) : Calls Tryd.prog 78 #[.string s] w fun e w' => e = .returned (.bool (nameB s)) ∧ Keep NoB w w' := by
  by_cases h0 : s = ⟨#[]⟩
  · subst h0
    go_enter Tryd.func78, Tryd.ntmps78
    go_wp2_with fail
    go_ret
    exact ⟨rfl, Keep.refl _ _⟩
  have hs0 : 0 < s.size := by
    rcases Nat.eq_zero_or_pos s.size with h | h
    · exact absurd (bs_inj (List.eq_nil_of_length_eq_zero ((bs_len s).trans h))) h0
    · exact h
  have i1 : (0 : Int) < s.size := by omega
  have h0' : s.toList.isEmpty = false := by
    cases h : s.toList with
    | nil => exact absurd (toList_inj (by rw [h, ByteArray.toList_eq])) h0
    | cons a l => rfl
  have hn : nameB s = (decide (s.size ≤ 10) && decide (0 ≤ Lib.indexByte lettersT.data.toList (s.data.toList.headD 0)) && decide (Lib.trimS s.data.toList alnumT.data.toList = [])) := by
    rw [nameB, decide_eq_true h0, Bool.true_and]
  rw [hn]
  clear hn
  by_cases h1 : s.size ≤ 10
  · rw [decide_eq_true h1, Bool.true_and]
    have d1 : ((s.size : Nat) : Int) ≤ 10 := by omega
    have hix := fun w => Tryd.strings_IndexByte lettersT (s[0].toNat : Int) w
    have e0 : ((s[0].toNat : Nat) : Int).toNat.toUInt8 = s.data.toList.headD 0 := by
      rw [Int.toNat_natCast]
      have : s.data.toList.headD 0 = s[0] := by
        have h := hs0
        obtain ⟨⟨d⟩⟩ := s
        cases d with
        | nil => simp [ByteArray.size] at h
        | cons a l => rfl
      rw [this]
      exact UInt8.ofNat_toNat
    rw [e0] at hix
    have htr := fun w => Any.strings_Trim_laid Tryd.lays160 (by kernel_rfl) s alnumT w (by omega) (by decide) (ascii_of_all (by decide))
    change ∀ w, Calls Tryd.prog 93 _ _ _ at htr
    obtain ⟨I, hI⟩ : ∃ I, I = Lib.indexByte lettersT.data.toList (s.data.toList.headD 0) := ⟨_, rfl⟩
    obtain ⟨T, hT⟩ : ∃ T, T = Lib.trimS s.data.toList alnumT.data.toList := ⟨_, rfl⟩
    rw [← hI] at hix ⊢
    rw [← hT] at htr ⊢
    simp only [lettersT, alnumT] at hix htr
    have Hix := Lib.hid hix
    have Htr := Lib.hid htr
    clear h0 h1 e0 hI hT hix htr
    by_cases hI : 0 ≤ I
    · rw [decide_eq_true hI, Bool.true_and]
      have hT2 : (⟨T.toArray⟩ : ByteArray).toList.isEmpty = decide (T = []) := by
        rw [ByteArray.toList_eq]
        cases T <;> simp
      go_enter Tryd.func78, Tryd.ntmps78
      go_wp2_with fail
      refine (Hix.out _).mono ?_
      rintro e w' ⟨rfl, hw⟩
      subst w'
      go_wp2_with fail
      refine (Htr.out _).mono ?_
      rintro e w' ⟨rfl, hB⟩
      go_wp2_with fail
      go_ret
      exact ⟨by simp [hT2]; cases T <;> rfl, Keep.ofBelow hB⟩
    · rw [decide_eq_false hI, Bool.false_and]
      go_enter Tryd.func78, Tryd.ntmps78
      go_wp2_with fail
      refine (Hix.out _).mono ?_
      rintro e w' ⟨rfl, hw⟩
      subst w'
      go_wp2_with fail
      go_ret
      exact ⟨rfl, Keep.refl _ _⟩
  · rw [decide_eq_false h1, Bool.false_and, Bool.false_and]
    have d1 : ¬ ((s.size : Nat) : Int) ≤ 10 := by omega
    clear h0 h1
    go_enter Tryd.func78, Tryd.ntmps78
    go_wp2_with fail
    go_ret
    exact ⟨rfl, Keep.refl _ _⟩
/-- A point may be, of so many numbers. -/
def itemB (x : ItemV) (dim : Int) : Bool := nameB x.name && (decide (x.tag = ⟨#[]⟩) || nameB x.tag) && decide (1 ≤ dim) && decide (dim ≤ 8) && decide ((x.ns.length : Int) = dim) && !x.ns.any farB
theorem farI_any (n : Int) (w : World) : Calls Tryd.prog 77 #[.int .i64 n] w fun e w' => e = .returned (.bool (farB n)) ∧ w' = w := by
  by_cases h : n < -1000
  · have hb : farB n = true := by simp [farB, h]
    rw [hb]
    go_enter Tryd.func77, Tryd.ntmps77
    go_wp2_with fail
    go_ret
    exact ⟨rfl, rfl⟩
  · have hb : farB n = decide (1000 < n) := by simp [farB, h]
    rw [hb]
    have hd : decide (n < -1000) = false := by simpa using h
    clear h hb
    go_enter Tryd.func77, Tryd.ntmps77
    go_wp2_with fail
    go_ret
    exact ⟨rfl, rfl⟩
set_option maxRecDepth 100000 in
set_option maxHeartbeats 4000000 in
theorem itemRight_any (x : ItemV) (dim : Int) (w : World) (N : Nums w x.av x.ns) (hl : x.ns.length ≤ 1000000) :
    Calls Tryd.prog 43 #[.agg (encItem x).toArray, .int .i64 dim] w fun e w' => e = .returned (.bool (itemB x dim)) ∧ Keep NoB w w' := by
  obtain ⟨nm, tg, av, ns⟩ := x
  simp only at N hl
  obtain ⟨p, c, rfl⟩ := N.len
  simp only [encItem, itemB]
  have hn1 := fun w => name_any nm w
  have hn2 := fun w => name_any tg w
  have hc := fun (W : World) (K : Keep NoB w W) => containsInt_any 77 farB farI_any (enters_of Tryd.func77 (by kernel_rfl) rfl) _ ns W (N.keep K (fun _ _ x => x)) hl
  obtain ⟨B1, hB1⟩ : ∃ b, b = nameB nm := ⟨_, rfl⟩
  obtain ⟨B2, hB2⟩ : ∃ b, b = nameB tg := ⟨_, rfl⟩
  obtain ⟨B3, hB3⟩ : ∃ b, b = ns.any farB := ⟨_, rfl⟩
  have ht : tg.toList.isEmpty = decide (tg = ⟨#[]⟩) := by
    by_cases h : tg = ⟨#[]⟩
    · rw [decide_eq_true h, h, ByteArray.toList_eq]; rfl
    · rw [decide_eq_false h]
      cases h2 : tg.toList with
      | nil => exact absurd (toList_inj (by rw [h2, ByteArray.toList_eq])) h
      | cons a l => rfl
  obtain ⟨B4, hB4⟩ : ∃ b, b = decide (tg = (⟨#[]⟩ : ByteArray)) := ⟨_, rfl⟩
  rw [← hB1] at hn1
  rw [← hB2] at hn2
  rw [← hB3] at hc
  rw [← hB4] at ht
  rw [← hB1, ← hB2, ← hB3, ← hB4]
  obtain ⟨nl, hnl⟩ : ∃ n, n = ns.length := ⟨_, rfl⟩
  rw [← hnl] at hc ⊢
  have H1 := Lib.hid hn1
  have H2 := Lib.hid hn2
  have HC := Lib.hid hc
  have HT := Lib.hid ht
  clear hn1 hn2 hc ht hB1 hB2 hB3 hB4 hnl N
  have hT := HT.out
  cases B1 with
  | false =>
    simp only [Bool.false_and]
    clear hT
    go_enter Tryd.func43, Tryd.ntmps43
    go_wp2_with fail
    refine (H1.out _).mono ?_
    rintro e w1 ⟨rfl, K1⟩
    go_wp2_with fail
    go_ret
    exact ⟨rfl, ((Keep.refl NoB w).alloc _).thenN K1⟩
  | true =>
    have h4 : (1 ≤ dim ∧ dim ≤ 8 ∧ (nl : Int) = dim) ∨ (¬ 1 ≤ dim) ∨ (1 ≤ dim ∧ ¬ dim ≤ 8) ∨ (1 ≤ dim ∧ dim ≤ 8 ∧ ¬ (nl : Int) = dim) := by omega
    rcases h4 with ⟨d1, d2, d3⟩ | d1 | ⟨d1, d2⟩ | ⟨d1, d2, d3⟩
    · have er : (true && (B4 || B2) && decide (1 ≤ dim) && decide (dim ≤ 8) && decide ((nl : Int) = dim) && !B3) = ((B4 || B2) && !B3) := by
        rw [decide_eq_true d1, decide_eq_true d2, decide_eq_true d3]; simp
      have e3 : ((nl : Int) == dim) = true := by simpa using d3
      rw [er]
      clear er d3
      cases B4 with
      | true =>
        go_enter Tryd.func43, Tryd.ntmps43
        go_wp2_with fail
        refine (H1.out _).mono ?_
        rintro e w1 ⟨rfl, K1⟩
        have K1' := ((Keep.refl NoB w).alloc (.cells #[.string nm, .string tg, .slice p nl c] 34)).thenN K1
        have c1 : w1.cell? ⟨w.heap.size, 1, none⟩ = some (.string tg) := (K1.cell (p := ⟨w.heap.size, 1, none⟩) (by simp) (fun x => x)).trans (by rw [cell_of_row _ _ _ _ 34 (0, 0) (heap_alloc_new w _)]; rfl)
        have c2 : w1.cell? ⟨w.heap.size, 2, none⟩ = some (.slice p nl c) := (K1.cell (p := ⟨w.heap.size, 2, none⟩) (by simp) (fun x => x)).trans (by rw [cell_of_row _ _ _ _ 34 (0, 0) (heap_alloc_new w _)]; rfl)
        have hX1 : w.heap.size < w1.heap.size := by have := K1.size; simp at this; omega
        go_wp2_with fail
        refine (HC.out _ K1').mono ?_
        rintro e w5 ⟨rfl, hw⟩
        subst w5
        go_wp2_with fail
        go_ret
        exact ⟨rfl, K1'⟩
      | false =>
        go_enter Tryd.func43, Tryd.ntmps43
        go_wp2_with fail
        refine (H1.out _).mono ?_
        rintro e w1 ⟨rfl, K1⟩
        have K1' := ((Keep.refl NoB w).alloc (.cells #[.string nm, .string tg, .slice p nl c] 34)).thenN K1
        have c1 : w1.cell? ⟨w.heap.size, 1, none⟩ = some (.string tg) := (K1.cell (p := ⟨w.heap.size, 1, none⟩) (by simp) (fun x => x)).trans (by rw [cell_of_row _ _ _ _ 34 (0, 0) (heap_alloc_new w _)]; rfl)
        have c2 : w1.cell? ⟨w.heap.size, 2, none⟩ = some (.slice p nl c) := (K1.cell (p := ⟨w.heap.size, 2, none⟩) (by simp) (fun x => x)).trans (by rw [cell_of_row _ _ _ _ 34 (0, 0) (heap_alloc_new w _)]; rfl)
        have hX1 : w.heap.size < w1.heap.size := by have := K1.size; simp at this; omega
        go_wp2_with fail
        refine (H2.out _).mono ?_
        rintro e w2 ⟨rfl, K2⟩
        have K2' := K1'.thenN K2
        have c3 : w2.cell? ⟨w.heap.size, 2, none⟩ = some (.slice p nl c) := (K2.cell (p := ⟨w.heap.size, 2, none⟩) hX1 (fun x => x)).trans c2
        cases B2 with
        | false =>
          go_wp2_with fail
          go_ret
          exact ⟨rfl, K2'⟩
        | true =>
          go_wp2_with fail
          refine (HC.out _ K2').mono ?_
          rintro e w5 ⟨rfl, hw⟩
          subst w5
          go_wp2_with fail
          go_ret
          exact ⟨rfl, K2'⟩
    · have er : (true && (B4 || B2) && decide (1 ≤ dim) && decide (dim ≤ 8) && decide ((nl : Int) = dim) && !B3) = false := by
        rw [decide_eq_false d1]; simp
      rw [er]
      clear er
      cases B4 with
      | true =>
        go_enter Tryd.func43, Tryd.ntmps43
        go_wp2_with fail
        refine (H1.out _).mono ?_
        rintro e w1 ⟨rfl, K1⟩
        have K1' := ((Keep.refl NoB w).alloc (.cells #[.string nm, .string tg, .slice p nl c] 34)).thenN K1
        have c1 : w1.cell? ⟨w.heap.size, 1, none⟩ = some (.string tg) := (K1.cell (p := ⟨w.heap.size, 1, none⟩) (by simp) (fun x => x)).trans (by rw [cell_of_row _ _ _ _ 34 (0, 0) (heap_alloc_new w _)]; rfl)
        have c2 : w1.cell? ⟨w.heap.size, 2, none⟩ = some (.slice p nl c) := (K1.cell (p := ⟨w.heap.size, 2, none⟩) (by simp) (fun x => x)).trans (by rw [cell_of_row _ _ _ _ 34 (0, 0) (heap_alloc_new w _)]; rfl)
        have hX1 : w.heap.size < w1.heap.size := by have := K1.size; simp at this; omega
        go_wp2_with fail
        go_ret
        exact ⟨rfl, K1'⟩
      | false =>
        go_enter Tryd.func43, Tryd.ntmps43
        go_wp2_with fail
        refine (H1.out _).mono ?_
        rintro e w1 ⟨rfl, K1⟩
        have K1' := ((Keep.refl NoB w).alloc (.cells #[.string nm, .string tg, .slice p nl c] 34)).thenN K1
        have c1 : w1.cell? ⟨w.heap.size, 1, none⟩ = some (.string tg) := (K1.cell (p := ⟨w.heap.size, 1, none⟩) (by simp) (fun x => x)).trans (by rw [cell_of_row _ _ _ _ 34 (0, 0) (heap_alloc_new w _)]; rfl)
        have c2 : w1.cell? ⟨w.heap.size, 2, none⟩ = some (.slice p nl c) := (K1.cell (p := ⟨w.heap.size, 2, none⟩) (by simp) (fun x => x)).trans (by rw [cell_of_row _ _ _ _ 34 (0, 0) (heap_alloc_new w _)]; rfl)
        have hX1 : w.heap.size < w1.heap.size := by have := K1.size; simp at this; omega
        go_wp2_with fail
        refine (H2.out _).mono ?_
        rintro e w2 ⟨rfl, K2⟩
        have K2' := K1'.thenN K2
        have c3 : w2.cell? ⟨w.heap.size, 2, none⟩ = some (.slice p nl c) := (K2.cell (p := ⟨w.heap.size, 2, none⟩) hX1 (fun x => x)).trans c2
        cases B2 with
        | false =>
          go_wp2_with fail
          go_ret
          exact ⟨rfl, K2'⟩
        | true =>
          go_wp2_with fail
          go_ret
          exact ⟨rfl, K2'⟩
    · have er : (true && (B4 || B2) && decide (1 ≤ dim) && decide (dim ≤ 8) && decide ((nl : Int) = dim) && !B3) = false := by
        rw [decide_eq_false d2]; simp
      rw [er]
      clear er
      cases B4 with
      | true =>
        go_enter Tryd.func43, Tryd.ntmps43
        go_wp2_with fail
        refine (H1.out _).mono ?_
        rintro e w1 ⟨rfl, K1⟩
        have K1' := ((Keep.refl NoB w).alloc (.cells #[.string nm, .string tg, .slice p nl c] 34)).thenN K1
        have c1 : w1.cell? ⟨w.heap.size, 1, none⟩ = some (.string tg) := (K1.cell (p := ⟨w.heap.size, 1, none⟩) (by simp) (fun x => x)).trans (by rw [cell_of_row _ _ _ _ 34 (0, 0) (heap_alloc_new w _)]; rfl)
        have c2 : w1.cell? ⟨w.heap.size, 2, none⟩ = some (.slice p nl c) := (K1.cell (p := ⟨w.heap.size, 2, none⟩) (by simp) (fun x => x)).trans (by rw [cell_of_row _ _ _ _ 34 (0, 0) (heap_alloc_new w _)]; rfl)
        have hX1 : w.heap.size < w1.heap.size := by have := K1.size; simp at this; omega
        go_wp2_with fail
        go_ret
        exact ⟨rfl, K1'⟩
      | false =>
        go_enter Tryd.func43, Tryd.ntmps43
        go_wp2_with fail
        refine (H1.out _).mono ?_
        rintro e w1 ⟨rfl, K1⟩
        have K1' := ((Keep.refl NoB w).alloc (.cells #[.string nm, .string tg, .slice p nl c] 34)).thenN K1
        have c1 : w1.cell? ⟨w.heap.size, 1, none⟩ = some (.string tg) := (K1.cell (p := ⟨w.heap.size, 1, none⟩) (by simp) (fun x => x)).trans (by rw [cell_of_row _ _ _ _ 34 (0, 0) (heap_alloc_new w _)]; rfl)
        have c2 : w1.cell? ⟨w.heap.size, 2, none⟩ = some (.slice p nl c) := (K1.cell (p := ⟨w.heap.size, 2, none⟩) (by simp) (fun x => x)).trans (by rw [cell_of_row _ _ _ _ 34 (0, 0) (heap_alloc_new w _)]; rfl)
        have hX1 : w.heap.size < w1.heap.size := by have := K1.size; simp at this; omega
        go_wp2_with fail
        refine (H2.out _).mono ?_
        rintro e w2 ⟨rfl, K2⟩
        have K2' := K1'.thenN K2
        have c3 : w2.cell? ⟨w.heap.size, 2, none⟩ = some (.slice p nl c) := (K2.cell (p := ⟨w.heap.size, 2, none⟩) hX1 (fun x => x)).trans c2
        cases B2 with
        | false =>
          go_wp2_with fail
          go_ret
          exact ⟨rfl, K2'⟩
        | true =>
          go_wp2_with fail
          go_ret
          exact ⟨rfl, K2'⟩
    · have er : (true && (B4 || B2) && decide (1 ≤ dim) && decide (dim ≤ 8) && decide ((nl : Int) = dim) && !B3) = false := by
        rw [decide_eq_false d3]; simp
      have e3 : ((nl : Int) == dim) = false := by simpa using d3
      rw [er]
      clear er d3
      cases B4 with
      | true =>
        go_enter Tryd.func43, Tryd.ntmps43
        go_wp2_with fail
        refine (H1.out _).mono ?_
        rintro e w1 ⟨rfl, K1⟩
        have K1' := ((Keep.refl NoB w).alloc (.cells #[.string nm, .string tg, .slice p nl c] 34)).thenN K1
        have c1 : w1.cell? ⟨w.heap.size, 1, none⟩ = some (.string tg) := (K1.cell (p := ⟨w.heap.size, 1, none⟩) (by simp) (fun x => x)).trans (by rw [cell_of_row _ _ _ _ 34 (0, 0) (heap_alloc_new w _)]; rfl)
        have c2 : w1.cell? ⟨w.heap.size, 2, none⟩ = some (.slice p nl c) := (K1.cell (p := ⟨w.heap.size, 2, none⟩) (by simp) (fun x => x)).trans (by rw [cell_of_row _ _ _ _ 34 (0, 0) (heap_alloc_new w _)]; rfl)
        have hX1 : w.heap.size < w1.heap.size := by have := K1.size; simp at this; omega
        go_wp2_with fail
        go_ret
        exact ⟨rfl, K1'⟩
      | false =>
        go_enter Tryd.func43, Tryd.ntmps43
        go_wp2_with fail
        refine (H1.out _).mono ?_
        rintro e w1 ⟨rfl, K1⟩
        have K1' := ((Keep.refl NoB w).alloc (.cells #[.string nm, .string tg, .slice p nl c] 34)).thenN K1
        have c1 : w1.cell? ⟨w.heap.size, 1, none⟩ = some (.string tg) := (K1.cell (p := ⟨w.heap.size, 1, none⟩) (by simp) (fun x => x)).trans (by rw [cell_of_row _ _ _ _ 34 (0, 0) (heap_alloc_new w _)]; rfl)
        have c2 : w1.cell? ⟨w.heap.size, 2, none⟩ = some (.slice p nl c) := (K1.cell (p := ⟨w.heap.size, 2, none⟩) (by simp) (fun x => x)).trans (by rw [cell_of_row _ _ _ _ 34 (0, 0) (heap_alloc_new w _)]; rfl)
        have hX1 : w.heap.size < w1.heap.size := by have := K1.size; simp at this; omega
        go_wp2_with fail
        refine (H2.out _).mono ?_
        rintro e w2 ⟨rfl, K2⟩
        have K2' := K1'.thenN K2
        have c3 : w2.cell? ⟨w.heap.size, 2, none⟩ = some (.slice p nl c) := (K2.cell (p := ⟨w.heap.size, 2, none⟩) hX1 (fun x => x)).trans c2
        cases B2 with
        | false =>
          go_wp2_with fail
          go_ret
          exact ⟨rfl, K2'⟩
        | true =>
          go_wp2_with fail
          go_ret
          exact ⟨rfl, K2'⟩
end Go.Proofs.YtcjilojkhmondaaDoor
