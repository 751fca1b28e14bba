/-
  DERIVED. The walks of the reference's root, primes.
-/
import Derived.Test.YtndcaaikjcicgaaDoorAbove
set_option linter.unusedVariables false
set_option linter.unusedSimpArgs false
namespace Go.Cof
open Go.RowKit
/-- What the halving comes to. -/
def bisTop (p k : Nat) : Nat := bis p k 1099511627776 0 1099511627776
theorem rootD_top (p k : Nat) : rootD p k = bisTop p k % 4294967296 := rfl
theorem bis_go (p k f low high : Nat) (h : low + 1 < high) : bis p k (f + 1) low high = if aboveD ((low + high) / 2) k p then bis p k f low ((low + high) / 2) else bis p k f ((low + high) / 2) high := by
  rw [bis, if_pos h]
theorem bis_stop (p k f low high : Nat) (h : ¬ low + 1 < high) : bis p k f low high = low := by
  cases f with
  | zero => rfl
  | succ f => rw [bis, if_neg h]
theorem primesTo_step (j : Nat) : primesTo (j + 1) = if (primesTo j).all (fun p => (2 + j) % p != 0) then primesTo j ++ [2 + j] else primesTo j := rfl
theorem primesTo_pos (j : Nat) : ∀ p ∈ primesTo j, 0 < p ∧ p < 2 + j := by
  induction j with
  | zero => intro p hp; simp [primesTo] at hp
  | succ j ih =>
    intro p hp
    rw [primesTo_step] at hp
    split at hp
    · rcases List.mem_append.1 hp with hp | hp
      · have := ih p hp; omega
      · obtain rfl := List.mem_singleton.1 hp; omega
    · have := ih p hp; omega
theorem all_take_succ (l : List Nat) (f : Nat → Bool) (i : Nat) (hi : i < l.length) : (l.take (i + 1)).all f = ((l.take i).all f && f (l.getD i 0)) := by
  rw [List.take_succ_eq_append_getElem hi, List.all_append, List.getD_eq_getElem?_getD, List.getElem?_eq_getElem hi]
  simp
theorem own_form {w : World} {base : Nat} {e : TypeId} {size : Nat} {v : Value} {n : Nat} {xs : List Value} (h : w.ownsRow base e size v n xs) : ∃ p c, v = .slice p n c := by
  rcases h.2 with ⟨hv, h0⟩ | ⟨g, cap, cur, hv, _⟩
  · exact ⟨_, _, by rw [hv, h0]⟩
  · exact ⟨_, _, hv⟩
end Go.Cof
namespace Go.Proofs.YtndcaaikjcicgaaDoor
open Go.RowKit Go.Cof
set_option maxRecDepth 100000 in
set_option maxHeartbeats 4000000 in
theorem root_any (p k : Nat) (hk3 : k ≤ 3) (w : World) :
    Calls Tryd.prog 67 #[.int .u64 p, .int .i64 k] w fun e w' => e = .returned (.int .u32 (rootD p k)) ∧ Keep NoB w w' := by
  obtain ⟨T, hT⟩ : ∃ T, T = bisTop p k := ⟨_, rfl⟩
  rw [rootD_top, ← hT]
  obtain ⟨F, hF⟩ : ∃ F : Nat, F = 1099511627776 := ⟨_, rfl⟩
  have hT2 : Hid (bis p k F 0 1099511627776 = T) := by rw [hF, hT]; rfl
  have hF2 : 1099511627776 ≤ F := by omega
  clear hT hF
  go_enter Tryd.func67, Tryd.ntmps67
  go_wp2_with fail
  go_loopw [5, 6] (fun lo hi wr => ∃ low high f : Nat, lo = .int .u64 low ∧ hi = .int .u64 high ∧ low ≤ high ∧ high ≤ 1099511627776 ∧ high - low ≤ f ∧ Hid (bis p k f low high = T) ∧ Keep NoB w wr) (fun lo hi _ => (intOf hi - intOf lo).toNat)
  case atStart => exact ⟨0, 1099511627776, F, rfl, rfl, by omega, by omega, hF2, hT2, Keep.refl _ _⟩
  case round =>
    clear hT2 hF2 F
    obtain ⟨low, high, f, rfl, rfl, h1, h2, h3, hb, K⟩ := hrel
    have b1 : (low : Int) ≤ 1099511627776 := by omega
    have b2 : (high : Int) ≤ 1099511627776 := by omega
    by_cases hlt : low + 1 < high
    · have j1 : (low : Int) + 1 < high := by omega
      obtain ⟨f', rfl⟩ : ∃ f', f = f' + 1 := ⟨f - 1, by omega⟩
      obtain ⟨m, hm⟩ : ∃ m, m = (low + high) / 2 := ⟨_, rfl⟩
      have e1 : ((low : Int) + (high : Int)) / 2 = (m : Int) := by omega
      have hm1 : m ≤ 1099511627776 := by omega
      have hb2 := hb.out
      rw [bis_go _ _ _ _ _ hlt, ← hm] at hb2
      have Hb2 := Lib.hid hb2
      have Hm := Lib.hid hm
      clear hb hb2 hm
      go_wp2_with fail
      refine (above_any m k p hm1 hk3 _).mono ?_
      by_cases ha : aboveD m k p = true
      · rw [ha]
        rintro e w2 ⟨rfl, K2⟩
        have hn : Hid (bis p k f' low m = T) := by
          have := Hb2.out
          rw [if_pos ha] at this
          exact this
        clear ha Hb2
        go_wp2_with fail
        have := Hm.out
        exact ⟨⟨low, m, f', rfl, rfl, by omega, hm1, by omega, hn, K.thenN K2⟩, by simp [intOf]; omega⟩
      · have ha : aboveD m k p = false := by simpa using ha
        rw [ha]
        rintro e w2 ⟨rfl, K2⟩
        have hn : Hid (bis p k f' m high = T) := by
          have := Hb2.out
          rw [if_neg (by rw [ha]; decide)] at this
          exact this
        clear ha Hb2
        go_wp2_with fail
        have := Hm.out
        exact ⟨⟨m, high, f', rfl, rfl, by omega, h2, by omega, hn, K.thenN K2⟩, by simp [intOf]; omega⟩
    · have j1 : decide ((low : Int) + 1 < high) = false := by simp; omega
      have hfin : low = T := by rw [← hb.out]; exact (bis_stop _ _ _ _ _ hlt).symm
      clear hlt hb
      subst hfin
      go_wp2_with fail
      go_ret
      exact ⟨by simp, K⟩
theorem info_int : (Tryd.prog.info? 3).map (fun i => (i.zero, i.size, i.bytes)) = some (some (.int .i64 0), 1, 8) := by kernel_rfl
set_option maxRecDepth 100000 in
set_option maxHeartbeats 4000000 in
theorem primes_any (w : World) : Calls Tryd.prog 66 #[.int .i64 64] w (RetOwn 3 .i64 primes64 w) := by
  obtain ⟨i0, hi0, hz0, hz1, hz2⟩ := info_parts info_int
  go_enter Tryd.func66, Tryd.ntmps66
  go_wp2_with fail
  go_loopw [3, 4] (fun v i wr => ∃ j : Nat, j ≤ 310 ∧ i = .int .i64 (2 + (j : Int)) ∧ wr.ownsRow w.heap.size 3 1 v (primesTo j).length (cellsOf .i64 (primesTo j)) ∧ Keep NoB w wr) (fun _ i _ => 320 - (intOf i).toNat)
  case atStart => exact ⟨0, by omega, rfl, World.ownsRow_nil _ _ _ _, Keep.refl _ _⟩
  case round =>
    obtain ⟨j, hj, rfl, hown, K⟩ := hrel
    obtain ⟨l, hl⟩ : ∃ l, l = primesTo j := ⟨_, rfl⟩
    rw [← hl] at hown
    obtain ⟨n, hn⟩ : ∃ n, n = l.length := ⟨_, rfl⟩
    rw [← hn] at hown
    have Hl := Lib.hid hl
    have Hn := Lib.hid hn
    by_cases hlt : n < 64
    · have hj2 : j < 310 := primes_go j (by rw [← hl, ← hn]; exact hlt)
      clear hl hn
      have j1 : (n : Int) < 64 := by omega
      obtain ⟨q, hq⟩ : ∃ q, q = 2 + j := ⟨_, rfl⟩
      have e1 : 2 + (j : Int) = (q : Int) := by omega
      have hq2 : (q : Int) ≤ 320 := by omega
      rw [e1]
      have Hq := Lib.hid hq
      clear hq e1
      obtain ⟨pp, c, rfl⟩ := own_form hown
      go_wp2_with fail
      refine wp_world (fun w1 => w1.ownsRow w.heap.size 3 1 (.slice pp n c) n (cellsOf .i64 l) ∧ Keep NoB w w1) ⟨hown, K⟩ ?_
      clear hown K
      intro w3 hw3
      go_loopw [5, 16] (fun s i wr => ∃ t : Nat, t ≤ n ∧ i = .int .i64 t ∧ s = .bool ((l.take t).all (fun p => q % p != 0)) ∧ wr.ownsRow w.heap.size 3 1 (.slice pp n c) n (cellsOf .i64 l) ∧ Keep NoB w wr) (fun _ i _ => n - (intOf i).toNat)
      case atStart => exact ⟨0, by omega, rfl, rfl, hw3⟩
      case round =>
        clear hw3 w3
        obtain ⟨t, ht, rfl, rfl, hown, K⟩ := hrel
        by_cases hlt2 : t < n
        · have j2 : (t : Int) < n := by omega
          obtain ⟨g, cap, hv, _⟩ := own_some hown (by omega)
          cases hv
          have R : PRow wr g 3 .i64 l := PRow.ofOwn (l := l) (by rw [← Hn.out]; exact hown)
          have ct := R.cell t (by rw [← Hn.out]; exact hlt2)
          obtain ⟨d, hd⟩ : ∃ d, d = l.getD t 0 := ⟨_, rfl⟩
          rw [← hd] at ct
          have hdp : 0 < d ∧ d < q := by
            have hm : d ∈ primesTo j := by
              rw [← Hl.out, hd, List.getD_eq_getElem?_getD, List.getElem?_eq_getElem (by rw [← Hn.out]; exact hlt2)]
              exact List.getElem_mem _
            rw [Hq.out]
            exact primesTo_pos j d hm
          have hd0 : (0 : Int) < d := by omega
          have hd1 : (d : Int) < q := by omega
          have hst := all_take_succ l (fun p => q % p != 0) t (by rw [← Hn.out]; exact hlt2)
          rw [← hd] at hst
          have Hst := Lib.hid hst
          have Hd := Lib.hid hd
          clear hst hd R hdp
          obtain ⟨b, hb⟩ : ∃ b, b = (l.take t).all (fun p => q % p != 0) := ⟨_, rfl⟩
          rw [← hb]
          have Hb := Lib.hid hb
          clear hb
          cases b with
          | false =>
            have hn : (l.take (t + 1)).all (fun p => q % p != 0) = false := by rw [Hst.out, ← Hb.out]; rfl
            have Hn2 := Lib.hid hn
            clear hn
            go_wp2_with fail
            exact ⟨⟨t + 1, by omega, by go_num, by rw [Hn2.out], hown, K⟩, by simp [intOf]; omega⟩
          | true =>
            by_cases hm : q % d = 0
            · have j3 : ((q : Int) % (d : Int) != 0) = false := by
                have : (q : Int) % (d : Int) = ((q % d : Nat) : Int) := by simp
                rw [this, hm]; rfl
              have hn : (l.take (t + 1)).all (fun p => q % p != 0) = false := by rw [Hst.out, ← Hb.out, hm]; rfl
              have Hn2 := Lib.hid hn
              clear hn hm
              go_wp2_with fail
              exact ⟨⟨t + 1, by omega, by go_num, by rw [Hn2.out], hown, K⟩, by simp [intOf]; omega⟩
            · have j3 : ((q : Int) % (d : Int) != 0) = true := by
                have : (q : Int) % (d : Int) = ((q % d : Nat) : Int) := by simp
                rw [this]; simp; omega
              have hn : (l.take (t + 1)).all (fun p => q % p != 0) = true := by rw [Hst.out, ← Hb.out]; simpa using hm
              have Hn2 := Lib.hid hn
              clear hn hm
              go_wp2_with fail
              exact ⟨⟨t + 1, by omega, by go_num, by rw [Hn2.out], hown, K⟩, by simp [intOf]; omega⟩
        · have htn : t = n := by omega
          have hall : l.take t = l := List.take_of_length_le (by rw [← Hn.out]; omega)
          rw [hall, htn]
          have hp := primesTo_step j
          rw [← Hl.out, ← Hq.out] at hp
          have hnn : n ≤ 63 := by omega
          clear hall htn ht hlt2
          by_cases hall : l.all (fun p => q % p != 0) = true
          · rw [hall]
            rw [if_pos hall] at hp
            have Hp := Lib.hid hp
            clear hp hall
            go_wp2_with (first | (at_builtin; refine wpList_append_own _ rfl _ _ 30 rfl w.heap.size 3 i0 (.int .i64 0) 1 8 Tryd.underlying30 hi0 hz0 hz1 hz2 rfl (by decide) _ n _ rfl (hown.alloc _) ⟨wr.heap.size, 0, none⟩ 1 1 _ rfl rfl (cells_new _ _ _) (ones1 _ _) (by unfold maxLen; omega) (by omega) (by have := K.size; simp; omega) ?_; intro v' w' hown' hgrow _))
            rw [cellsOf_snoc .i64 l q _ rfl, ← Hp.out, show n + 1 = (primesTo (j + 1)).length by rw [Hp.out, List.length_append, ← Hn.out]; rfl] at hown'
            have K2 : Keep NoB w w' := (K.alloc _).grown hgrow (fun b hb => .inr (hown.lt b hb).1)
            have e3 : (q : Int) + 1 = 2 + ((j + 1 : Nat) : Int) := by rw [Hq.out]; omega
            clear hgrow hown
            exact ⟨⟨j + 1, by omega, by rw [e3], hown', K2⟩, by simp [intOf]; omega⟩
          · have hall2 : l.all (fun p => q % p != 0) = false := by simpa using hall
            rw [hall2]
            rw [if_neg hall] at hp
            have Hp := Lib.hid hp
            clear hp hall hall2
            go_wp2_with fail
            have e3 : (q : Int) + 1 = 2 + ((j + 1 : Nat) : Int) := by rw [Hq.out]; omega
            exact ⟨⟨j + 1, by omega, by rw [e3], by rw [Hp.out, ← Hn.out]; exact hown, K⟩, by simp [intOf]; omega⟩
    · have hfin : l = primes64 := by rw [hl]; exact primes_end j (by rw [← hl, ← hn]; omega) hj
      obtain ⟨pp, c, rfl⟩ := own_form hown
      have j1 : decide ((n : Int) < 64) = false := by simp; omega
      have hn64 : n = primes64.length := by rw [hn, hfin]
      rw [hfin, hn64] at hown
      rw [hn64] at j1
      rw [hn64]
      clear hl hn hn64 hfin hlt Hl Hn
      go_wp2_with fail
      go_ret
      exact ⟨_, rfl, hown, K⟩
end Go.Proofs.YtndcaaikjcicgaaDoor
