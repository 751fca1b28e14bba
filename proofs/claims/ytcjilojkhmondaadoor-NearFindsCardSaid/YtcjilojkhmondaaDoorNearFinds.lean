/-
  DERIVED. NearFinds: the walk.
-/
import Derived.Test.YtcjilojkhmondaaDoorFinds
import Derived.Test.YtcjilojkhmondaaDoorTell
set_option linter.unusedVariables false
set_option linter.unusedSimpArgs false
namespace Go.Proofs.YtcjilojkhmondaaDoor
open Go.RowKit Go.Cof Go.Sort Go.Shelf
/-- What comes of what may not be asked. -/
def askE (b : Bool) : Int := if b then 0 else 1
def askT (b : Bool) (T : List FoundV) : List FoundV := if b then T else []
theorem rows_nil (w : World) (p : Option Addr) (c : Nat) : RowsK w (.slice p 0 c) 2 encF ([] : List FoundV) := .inl ⟨rfl, p, c, rfl⟩
theorem near_both (b : Bool) (dim : Int) (v : Value) (l : List ItemV) (va : Value) (at_ : List Int) (k : Int) (tag : ByteArray) (hb : askB dim at_ k = b) (w : World) (I : Items w v l) (N : Nums w va at_) (hl : l.length ≤ 1000) (ha : at_.length ≤ 1000000) (hns : ∀ x ∈ l, x.ns.length ≤ 1000000) :
    Calls Tryd.prog 18 #[.int .i64 dim, v, va, .int .i64 k, .string tag] w fun e w' => ∃ v', e = .returned (.tuple #[v', errVal (askE b)]) ∧ RowsK w' v' 2 encF (askT b (topV l at_ k tag)) ∧ Keep NoB w w' := by
  cases b with
  | true =>
    refine (top_yes dim v l va at_ k tag w I N hl ha hns hb).mono ?_
    rintro e w' ⟨v', rfl, h1, -, h2⟩
    exact ⟨v', rfl, h1, h2⟩
  | false =>
    refine (top_no dim v va at_ k tag w N ha hb).mono ?_
    rintro e w' ⟨rfl, rfl⟩
    exact ⟨_, rfl, rows_nil _ _ _, Keep.refl _ _⟩
theorem topR_both (b : Bool) (dim : Int) (v : Value) (l : List ItemV) (va : Value) (at_ : List Int) (k : Int) (tag : ByteArray) (hb : askB dim at_ k = b) (w : World) (I : Items w v l) (N : Nums w va at_) (hl : l.length ≤ 1000) (ha : at_.length ≤ 1000000) (hns : ∀ x ∈ l, x.ns.length ≤ 1000000) :
    Calls Tryd.prog 30 #[.int .i64 dim, v, va, .int .i64 k, .string tag] w fun e w' => ∃ v', e = .returned (.tuple #[v', .int .i64 (askE b)]) ∧ RowsK w' v' 2 encF (askT b (topV l at_ k tag)) ∧ Keep NoB w w' := by
  cases b with
  | true =>
    refine (topR_yes dim v l va at_ k tag w I N hl ha hns hb).mono ?_
    rintro e w' ⟨v', rfl, h1, h2⟩
    exact ⟨v', rfl, h1, h2⟩
  | false =>
    refine (topR_no dim v va at_ k tag w N ha hb).mono ?_
    rintro e w' ⟨rfl, rfl⟩
    exact ⟨_, rfl, rows_nil _ _ _, Keep.refl _ _⟩
theorem askB_ok {dim : Nat} {at_ : List Int} {k : Int} (h : askB dim at_ k = true) : numOk at_ ∧ at_.length = dim := by
  simp only [askB, Bool.and_eq_true, decide_eq_true_eq, Bool.not_eq_true'] at h
  exact ⟨numOk_of h.1.1.2, by omega⟩
theorem cells_both (b : Bool) (dim : Nat) (hd : dim ≤ 8) (cb : Nat) (cv : Value) (bs : List (Nat × Value)) (l : List ItemV) (va : Value) (at_ : List Int) (k : Int) (tag : ByteArray) (base : Nat) (hb : askB dim at_ k = b) (w : World) (H : CellsAt w base cb dim cv bs (cellsL l)) (N : Nums w va at_) (hnum : ∀ x ∈ l, Nums w x.av x.ns) (hl : l.length ≤ 1000) (ha : at_.length ≤ 1000000) (hR : ∀ x ∈ l, numOk x.ns ∧ x.ns.length = dim) :
    Calls Tryd.prog 35 #[.pointer (some ⟨cb, 0, none⟩), va, .int .i64 k, .string tag] w fun e w' => ∃ (v' : Value) (looked : Nat), e = .returned (.tuple #[v', .int .i64 looked, errVal (askE b)]) ∧ RowsK w' v' 2 encF (askT b (topV l at_ k tag)) ∧ looked ≤ l.length ∧ Keep NoB w w' := by
  cases b with
  | true =>
    have hok := askB_ok hb
    refine (cellsTop_yes cb dim cv va bs (cellsL l) l at_ k tag base w H (cellsL_ok l) ⟨hok.1, hok.2, hd, hR⟩ N hnum hl hb).mono ?_
    rintro e w' ⟨v', n, rfl, h1, h2, h3⟩
    exact ⟨v', n, rfl, h1, h2, h3⟩
  | false =>
    refine (cellsTop_no cb dim cv va at_ k tag w H.head N ha hb).mono ?_
    rintro e w' ⟨rfl, rfl⟩
    exact ⟨_, 0, rfl, rows_nil _ _ _, Nat.zero_le _, Keep.refl _ _⟩
theorem cmpF_facts (x y : FoundV) : (cmpF x y < 0 ↔ aheadB x y = true) ∧ (cmpF x y = 0 ↔ x = y) := by
  refine ⟨by rw [cmpF_neg, aheadB_iff], ?_⟩
  constructor
  · intro h
    have h1 : ¬ cmpF x y < 0 := by omega
    have h2 : ¬ 0 < cmpF x y := by omega
    rw [cmpF_neg] at h1
    rw [cmpF_pos] at h2
    exact total_cmpF x y ((ltOf_cmpF_false x y).2 h1) ((ltOf_cmpF_false y x).2 h2)
  · rintro rfl
    have h1 : ¬ cmpF x x < 0 := by rw [cmpF_neg]; exact fun h => not_ltF_asymm h h
    have h2 : ¬ 0 < cmpF x x := by rw [cmpF_pos]; exact fun h => not_ltF_asymm h h
    omega
set_option maxRecDepth 100000 in
set_option maxHeartbeats 16000000 in
theorem nearFinds_any (dim : Int) (v : Value) (l : List ItemV) (va : Value) (at_ : List Int) (k : Int) (tag : ByteArray) (a b : FoundV) (w : World) (I : Items w v l) (N : Nums w va at_) (hl : l.length ≤ maxLen) (ha : at_.length ≤ maxLen) (hg : ErrVar w) :
    Calls Tryd.prog 5 #[.int .i64 dim, v, va, .int .i64 k, .string tag, .agg (encF a).toArray, .agg (encF b).toArray] w fun e w' => e = .returned (.bool true) ∧ Keep NoB w w' := by
  have hsh := fun w1 (K : Keep NoB w w1) => short_any v l w1 ⟨I.rows.keep K (fun _ _ x => x), fun x hx => (I.nums x hx).keep K (fun _ _ x => x)⟩ hl
  obtain ⟨bt, hbt⟩ : ∃ bt, bt = decide (60 < tag.size) := ⟨_, rfl⟩
  obtain ⟨ba, hba⟩ : ∃ bt, bt = decide (60 < a.1.size) := ⟨_, rfl⟩
  obtain ⟨bb, hbb⟩ : ∃ bt, bt = decide (60 < b.1.size) := ⟨_, rfl⟩
  have L1 := fun w => long_any tag bt hbt w
  have L2 := fun w => long_any a.1 ba hba w
  have L3 := fun w => long_any b.1 bb hbb w
  have hcmp := fun w => compare_any a b w
  have hfa := cmpF_facts a b
  obtain ⟨n, hn⟩ : ∃ n, n = cmpF a b := ⟨_, rfl⟩
  rw [← hn] at hfa hcmp
  have heq := fun w => eq_found a b w
  obtain ⟨E, hE⟩ : ∃ E, E = decide (a = b) := ⟨_, rfl⟩
  rw [← hE] at heq
  have hE2 : (n == 0) = E := by
    rw [hE, Bool.eq_iff_iff, beq_iff_eq, decide_eq_true_eq]; exact hfa.2
  obtain ⟨an, ad⟩ := a
  obtain ⟨bn, bd⟩ := b
  have heq' : ∀ w, (Op.equalIn 10000 43 (.agg #[.string an, .int .i64 ad]) (.agg #[.string bn, .int .i64 bd])).run Tryd.prog w = .ok E w := heq
  have hcmp' : ∀ w, Calls Tryd.prog 21 #[.agg #[.string an, .int .i64 ad], .agg #[.string bn, .int .i64 bd]] w fun e w' => e = .returned (.int .i64 n) ∧ Gr w w' := hcmp
  have hah : n < 0 ↔ aheadB (an, ad) (bn, bd) = true := hfa.1
  have HSh := Lib.hid hsh
  have HL1 := Lib.hid L1
  have HL2 := Lib.hid L2
  have HL3 := Lib.hid L3
  have Hcmp := Lib.hid hcmp'
  have Hah := Lib.hid hah
  have HI := Lib.hid I
  have HN := Lib.hid N
  have Hg := Lib.hid hg
  obtain ⟨pa, ca, rfl⟩ := N.len
  obtain ⟨m, hm⟩ : ∃ m, m = at_.length := ⟨_, rfl⟩
  rw [← hm] at ha HN
  have Hm := Lib.hid hm
  have hmax : (m : Int) ≤ 9223372036854775807 := by unfold maxLen at ha; omega
  rw [← hm]
  clear hsh L1 L2 L3 hbt hba hbb hcmp hfa hn hcmp' hah hE heq I N hl ha hg hm
  show Calls _ _ #[.int .i64 dim, v, .slice pa m ca, .int .i64 k, .string tag, .agg #[.string an, .int .i64 ad], .agg #[.string bn, .int .i64 bd]] _ _
  have hK0 : Keep NoB w ((w.alloc (.cells #[.string an, .int .i64 ad] 43)).alloc (.cells #[.string bn, .int .i64 bd] 43)) := ((Keep.refl _ _).alloc _).alloc _
  go_enter Tryd.func5, Tryd.ntmps5
  go_wp2_with fail
  refine (HSh.out _ hK0).mono ?_
  rintro e w1 ⟨⟨b1, rfl, hb1⟩, hw1⟩
  subst w1
  have HB1 := Lib.hid hb1
  clear hb1 HSh
  cases b1 with
  | false =>
    go_wp2_with fail
    go_ret
    exact ⟨rfl, hK0⟩
  | true =>
    by_cases h12 : m ≤ 12
    · have h13 : ¬ ((12 : Int) < m) := by omega
      go_wp2_with fail
      refine (HL1.out _).mono ?_
      rintro e w1 ⟨rfl, hw1⟩
      subst w1
      cases bt <;> go_wp2_with fail
      all_goals try (go_ret; exact ⟨rfl, hK0⟩)
      refine (HL2.out _).mono ?_
      rintro e w1 ⟨rfl, hw1⟩
      subst w1
      cases ba <;> go_wp2_with fail
      all_goals try (go_ret; exact ⟨rfl, hK0⟩)
      refine (HL3.out _).mono ?_
      rintro e w1 ⟨rfl, hw1⟩
      subst w1
      cases bb <;> go_wp2_with fail
      all_goals try (go_ret; exact ⟨rfl, hK0⟩)
      have a0 : ((w.alloc (.cells #[.string an, .int .i64 ad] 43)).alloc (.cells #[.string bn, .int .i64 bd] 43)).heap[w.heap.size]? = some (.cells #[.string an, .int .i64 ad] 43 (0, 0)) := by
        rw [Below.heap_alloc _ _ _ (by simp)]; exact heap_alloc_new w _
      have b0 : ((w.alloc (.cells #[.string an, .int .i64 ad] 43)).alloc (.cells #[.string bn, .int .i64 bd] 43)).heap[w.heap.size + 1]? = some (.cells #[.string bn, .int .i64 bd] 43 (0, 0)) := by
        have h := heap_alloc_new (w.alloc (.cells #[.string an, .int .i64 ad] 43)) (.cells #[.string bn, .int .i64 bd] 43)
        rwa [show (w.alloc (.cells #[.string an, .int .i64 ad] 43)).heap.size = w.heap.size + 1 by simp] at h
      refine (Hcmp.out _).mono ?_
      rintro e w2 ⟨rfl, hgr⟩
      have K2 := hK0.thenN hgr.keep
      have a1 := hgr.keep.heap a0 (fun x => x)
      have b1 := hgr.keep.heap b0 (fun x => x)
      obtain ⟨A, hA⟩ : ∃ A, A = w.heap.size := ⟨_, rfl⟩
      rw [← hA] at a1 b1 ⊢
      obtain ⟨B, hB⟩ : ∃ B, B = A + 1 := ⟨_, rfl⟩
      rw [← hB] at b1 ⊢
      have cA0 : w2.cell? ⟨A, 0, none⟩ = some (.string an) := by rw [cell_of_row _ _ _ _ _ (0, 0) a1]; rfl
      have cA1 : w2.cell? ⟨A, 1, none⟩ = some (.int .i64 ad) := by rw [cell_of_row _ _ _ _ _ (0, 0) a1]; rfl
      have cB0 : w2.cell? ⟨B, 0, none⟩ = some (.string bn) := by rw [cell_of_row _ _ _ _ _ (0, 0) b1]; rfl
      have cB1 : w2.cell? ⟨B, 1, none⟩ = some (.int .i64 bd) := by rw [cell_of_row _ _ _ _ _ (0, 0) b1]; rfl
      clear a0 b0 hgr a1 b1 hA hB hK0 Hcmp HL1 HL2 HL3
      have hSO := HB1.out (by first | rfl | trivial)
      have HSO := Lib.hid hSO
      have hm1000 : at_.length ≤ 1000000 := by have := Hm.out; omega
      obtain ⟨ab, hab⟩ : ∃ ab, ab = askB dim at_ k := ⟨_, rfl⟩
      have hr1 := fun w1 (K : Keep NoB w w1) => ask_any dim _ at_ k w1 (HN.out.keep K (fun _ _ x => x)) hm1000
      have hr2 := fun w1 (K : Keep NoB w w1) => rightAsk_any dim _ at_ k w1 (HN.out.keep K (fun _ _ x => x)) hm1000
      rw [← hab] at hr1 hr2
      have Hr1 := Lib.hid (hr1 w2 K2)
      have Hr2 := Lib.hid (hr2 w2 K2)
      have Hab := Lib.hid hab
      have Hm1 := Lib.hid hm1000
      have hgt : Tryd.prog.eqGuardType Tryd.prog.depth 43 = false := by kernel_rfl
      clear hSO hr1 hr2 hab HB1 hm1000
      go_upto_region 4 with (fail)
      go_cut [87] (fun bv wx => bv = .bool false ∧ wx = w2)
      case first =>
        have ht := Hah.out
        by_cases h1 : ad < bd
        · have hn : n < 0 := ht.2 (by simp [aheadB, h1])
          clear ht
          go_wp2_with fail
          refine Hr1.out.mono ?_
          rintro e w3 ⟨rfl, hw3⟩
          subst w3
          go_wp2_with fail
          refine Hr2.out.mono ?_
          rintro e w3 ⟨rfl, hw3⟩
          subst w3
          go_wp2_with fail
          go_meet
          case rel => exact ⟨rfl, rfl⟩
        · by_cases h2 : ad = bd
          · subst h2
            obtain ⟨S, hS⟩ : ∃ S, S = Op.bytesLess an.toList bn.toList := ⟨_, rfl⟩
            have hS' := hS.symm
            cases S with
            | true =>
              have hn : n < 0 := ht.2 (by simp [aheadB, hS'])
              clear ht hS
              go_wp2_with fail
              refine Hr1.out.mono ?_
              rintro e w3 ⟨rfl, hw3⟩
              subst w3
              go_wp2_with fail
              refine Hr2.out.mono ?_
              rintro e w3 ⟨rfl, hw3⟩
              subst w3
              go_wp2_with fail
              go_meet
              case rel => exact ⟨rfl, rfl⟩
            | false =>
              have hn : ¬ n < 0 := fun h => by have := ht.1 h; simp [aheadB, hS'] at this
              clear ht hS
              go_wp2_with fail
              refine Hr1.out.mono ?_
              rintro e w3 ⟨rfl, hw3⟩
              subst w3
              go_wp2_with fail
              refine Hr2.out.mono ?_
              rintro e w3 ⟨rfl, hw3⟩
              subst w3
              go_wp2_with fail
              go_meet
              case rel => exact ⟨rfl, rfl⟩
          · have hn : ¬ n < 0 := fun h => by have := ht.1 h; simp [aheadB, h1, h2] at this
            have h3 : (ad == bd) = false := by simpa using h2
            clear ht
            go_wp2_with fail
            refine Hr1.out.mono ?_
            rintro e w3 ⟨rfl, hw3⟩
            subst w3
            go_wp2_with fail
            refine Hr2.out.mono ?_
            rintro e w3 ⟨rfl, hw3⟩
            subst w3
            go_wp2_with fail
            go_meet
            case rel => exact ⟨rfl, rfl⟩
      case rest =>
        obtain ⟨rfl, rfl⟩ := hcut
        obtain ⟨w2, rfl⟩ : ∃ w2, w2 = wc := ⟨_, rfl⟩
        clear cA0 cA1 cB0 cB1 Hr1 Hr2 hE2 heq' hgt Hah h13
        have hI2 := fun w1 (K : Keep NoB w w1) => (⟨HI.out.rows.keep K (fun _ _ x => x), fun x hx => (HI.out.nums x hx).keep K (fun _ _ x => x)⟩ : Items w1 v l)
        have hl1000 : l.length ≤ 1000 := by have := HSO.out.len; omega
        have hns : ∀ x ∈ l, x.ns.length ≤ 1000000 := fun x hx => by have := (HSO.out.each x hx).2.2; omega
        obtain ⟨pv, cv, rfl⟩ := HI.out.rows.len
        obtain ⟨nl, hnl⟩ : ∃ nl, nl = l.length := ⟨_, rfl⟩
        rw [← hnl] at HI hI2 hl1000 ⊢
        have Hnl := Lib.hid hnl
        have hri := rightL_any dim _ l w2 (hI2 w2 K2) HSO.out
        have hT := fun w1 (K : Keep NoB w w1) => near_both ab dim _ l _ at_ k tag Hab.out.symm w1 (hI2 w1 K) (HN.out.keep K (fun _ _ x => x)) (by rw [← hnl]; exact hl1000) Hm1.out hns
        have hTR := fun w1 (K : Keep NoB w w1) => topR_both ab dim _ l _ at_ k tag Hab.out.symm w1 (hI2 w1 K) (HN.out.keep K (fun _ _ x => x)) (by rw [← hnl]; exact hl1000) Hm1.out hns
        obtain ⟨T, hTe⟩ : ∃ T, T = askT ab (topV l at_ k tag) := ⟨_, rfl⟩
        rw [← hTe] at hT hTR
        have HTe := Lib.hid hTe
        have hTl : T.length ≤ 1000000 := by
          rw [hTe]
          cases ab with
          | true =>
            show (topV l at_ k tag).length ≤ _
            rw [topV, List.length_take, sortF_len]
            have := foundL_len l at_ tag
            omega
          | false => exact Nat.zero_le _
        have hbare := fun w1 (K : Keep NoB w w1) => bare_any (askE ab) (askE ab) w1 (Hg.out.keep K (fun x => x))
        simp only [beq_self_eq_true] at hbare
        obtain ⟨er, her⟩ : ∃ er, er = errVal (askE ab) := ⟨_, rfl⟩
        rw [← her] at hT hbare
        have Hbare := Lib.hid hbare
        have HT := Lib.hid hT
        have HTR := Lib.hid hTR
        have Hri := Lib.hid hri
        have HI2 := Lib.hid hI2
        have Her := Lib.hid her
        clear hI2 hri hT hTR hTe hbare her hnl
        go_wp2_with fail
        refine Hri.out.mono ?_
        rintro e w3 ⟨⟨b3, rfl, hb3⟩, K3'⟩
        have K3 := K2.thenN K3'
        cases b3 with
        | false =>
          go_wp2_with fail
          go_ret
          exact ⟨rfl, K3⟩
        | true =>
          have hROk := hb3 (by first | rfl | trivial)
          have HRO := Lib.hid hROk
          clear hb3 hROk
          go_wp2_with fail
          refine (HTR.out _ K3).mono ?_
          rintro e w4 ⟨vR, rfl, R4, K4'⟩
          have K4 := K3.thenN K4'
          have HR4 := Lib.hid R4
          clear R4
          go_wp2_with fail
          refine (HT.out _ K4).mono ?_
          rintro e w5 ⟨vN, rfl, R5, K5'⟩
          have K5 := K4.thenN K5'
          have HR5 := Lib.hid R5
          clear R5
          go_wp2_with fail
          refine (Hbare.out _ K5).mono ?_
          rintro e w6 ⟨rfl, K6'⟩
          have K6 := K5.thenN K6'
          have hsf := sameFound_any vN vR T w6 (HR5.out.keep K6' (fun _ _ x => x)) (HR4.out.keep (K5'.thenN K6') (fun _ _ x => x)) hTl
          have Hsf := Lib.hid hsf
          clear hsf
          go_wp2_with fail
          refine Hsf.out.mono ?_
          rintro e w7 ⟨rfl, q7, hw7⟩
          have K7 : Keep NoB w w7 := by rw [hw7]; exact K6.drewN q7
          have K67 : Keep NoB w6 w7 := by rw [hw7]; exact (Keep.refl _ _).drewN q7
          have HR7 := Lib.hid (HR4.out.keep ((K5'.thenN K6').thenN K67) (fun _ _ x => x))
          clear hw7 Hsf
          go_upto_region 12 with (fail)
          go_cut [141] (fun bv wx => bv = .bool false ∧ Keep NoB w7 wx)
          case first =>
            cases ab with
            | false =>
              have he : askE false = 1 := rfl
              go_quiet (fail)
              go_wp2_with fail
              go_meet
              case rel => exact ⟨rfl, (Keep.refl _ _).drewN _⟩
            | true =>
              have he : askE true = 0 := rfl
              by_cases hnz : nl = 0
              · subst hnz
                go_quiet (fail)
                go_wp2_with fail
                go_meet
                case rel => exact ⟨rfl, (Keep.refl _ _).drewN _⟩
              · have hnz1 : (0 : Int) < nl := by omega
                have hnz2 : 0 < nl := by omega
                have I7 := HI2.out w7 K7
                obtain ⟨b, off, rfl, -, hb, hcell⟩ := I7.rows.at (by have := Hnl.out; omega)
                obtain ⟨x, hx⟩ : ∃ x, l[0]? = some x := ⟨_, List.getElem?_eq_getElem (by have := Hnl.out; omega)⟩
                have c2 : w7.cell? ⟨b, off + 0 * 3 + 2, none⟩ = some x.av := hcell 0 x hx 2 _ rfl
                rw [Nat.zero_mul, Nat.add_zero] at c2
                have hxm : x ∈ l := List.mem_of_getElem? hx
                have hf1 := fun q => far_any x.av (.slice pa m ca) x.ns at_ (w7.drewN q) ((I7.nums x hxm).keep ((Keep.refl _ _).drewN q) (fun _ _ x => x)) (HN.out.keep (K7.drewN q) (fun _ _ x => x)) (hns x hxm) Hm1.out
                have hf2 := fun q => farRef_any x.av (.slice pa m ca) x.ns at_ (w7.drewN q) ((I7.nums x hxm).keep ((Keep.refl _ _).drewN q) (fun _ _ x => x)) (HN.out.keep (K7.drewN q) (fun _ _ x => x)) (hns x hxm) Hm1.out
                obtain ⟨av, hav⟩ : ∃ av, av = x.av := ⟨_, rfl⟩
                obtain ⟨fd, hfd⟩ : ∃ fd, fd = farW x.ns at_ := ⟨_, rfl⟩
                rw [← hav, ← hfd] at hf1 hf2
                rw [← hav] at c2
                have Hf1 := Lib.hid hf1
                have Hf2 := Lib.hid hf2
                clear hcell hf1 hf2 hav hfd hx hxm I7 hns
                go_quiet (first | (go_at_call 22; exact Calls.quiet_of (Hf1.out _)) | (go_at_call 33; exact Calls.quiet_of (Hf2.out _)))
                go_wp2_with fail
                go_meet
                case rel => exact ⟨rfl, (Keep.refl _ _).drewN _⟩
          case rest =>
            obtain ⟨rfl, K8'⟩ := hcut
            obtain ⟨w8, rfl⟩ : ∃ w8, w8 = wc := ⟨_, rfl⟩
            have K8 := K7.thenN K8'
            have HR8 := Lib.hid (HR7.out.keep K8' (fun _ _ x => x))
            by_cases hd1 : 1 ≤ dim
            · by_cases hd8 : dim ≤ 8
              · have d1 : ¬ dim < 1 := by omega
                have d2 : ¬ 8 < dim := by omega
                obtain ⟨D, rfl⟩ : ∃ D : Nat, dim = D := ⟨dim.toNat, by omega⟩
                have hR : ∀ x ∈ l, numOk x.ns ∧ x.ns.length = D := fun x hx => ⟨(HRO.out x hx).num, by have := (HRO.out x hx).len; omega⟩
                have hnew := newCells_any D _ l w8 (HI2.out w8 K8) (by rw [← Hnl.out]; exact hl1000) (fun x hx => ⟨(hR x hx).1, by have := (hR x hx).2; omega⟩)
                have hcb := fun (C : Nat) (cvv : Value) (bs : List (Nat × Value)) (w9 : World) (K9 : Keep NoB w8 w9) (H : CellsAt w9 w8.heap.size C D cvv bs (cellsL l)) => cells_both ab D (by omega) C cvv bs l (.slice pa m ca) at_ k tag w8.heap.size Hab.out.symm w9 H (HN.out.keep (K8.thenN K9) (fun _ _ x => x)) (fun x hx => ((HI2.out w8 K8).nums x hx).keep K9 (fun _ _ x => x)) (by rw [← Hnl.out]; exact hl1000) Hm1.out hR
                rw [← HTe.out, ← Her.out] at hcb
                have Hnew := Lib.hid hnew
                have Hcb := Lib.hid hcb
                clear hnew hcb hR
                go_wp2_with fail
                refine Hnew.out.mono ?_
                rintro e w9 ⟨C, cvv, bs, rfl, HC, K9'⟩
                have K9 := K8.thenN K9'
                have Htop := Lib.hid (Hcb.out C cvv bs w9 K9' HC)
                clear HC
                go_wp2_with fail
                refine Htop.out.mono ?_
                rintro e wa ⟨vC, looked, rfl, Ra, hlook, Ka'⟩
                have Ka := K9.thenN Ka'
                have HRa := Lib.hid Ra
                have hlk1 : (looked : Int) ≤ nl := by have := Hnl.out; omega
                have hlk0 : (0 : Int) ≤ looked := by omega
                clear Ra hlook Htop
                go_wp2_with fail
                refine (Hbare.out _ Ka).mono ?_
                rintro e wb ⟨rfl, Kb'⟩
                have hsf := sameFound_any vC vR T wb (HRa.out.keep Kb' (fun _ _ x => x)) (HR8.out.keep ((K9'.thenN Ka').thenN Kb') (fun _ _ x => x)) hTl
                have Hsf := Lib.hid hsf
                clear hsf
                go_wp2_with fail
                refine Hsf.out.mono ?_
                rintro e wc2 ⟨rfl, qc, rfl⟩
                go_wp2_with fail
                go_ret
                exact ⟨rfl, (Ka.thenN Kb').drewN qc⟩
              · have d1 : ¬ dim < 1 := by omega
                have d2 : 8 < dim := by omega
                go_wp2_with fail
                go_ret
                exact ⟨rfl, K8⟩
            · have d1 : dim < 1 := by omega
              go_wp2_with fail
              go_ret
              exact ⟨rfl, K8⟩
    · have h13 : (12 : Int) < m := by omega
      go_wp2_with fail
      go_ret
      exact ⟨rfl, hK0⟩
end Go.Proofs.YtcjilojkhmondaaDoor
