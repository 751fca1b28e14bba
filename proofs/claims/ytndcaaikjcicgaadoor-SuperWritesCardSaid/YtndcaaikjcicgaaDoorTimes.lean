/-
  DERIVED. The walks of the reference's times, above, root, primes.
-/
import Derived.Test.YtndcaaikjcicgaaDoorMark
import Derived.Test.YtndcaaikjcicgaaDoorRoots
set_option linter.unusedVariables false
set_option linter.unusedSimpArgs false
namespace Go.Cof
open Go.RowKit
/-- A call returns a slice of its own that holds these numbers. -/
def RetOwn (T : TypeId) (k : IntKind) (l : List Nat) (w : World) (e : Ending) (w' : World) : Prop :=
  ∃ v', e = .returned v' ∧ w'.ownsRow w.heap.size T 1 v' l.length (cellsOf k l) ∧ Keep NoB w w'
theorem cellsOf_snoc (k : IntKind) (l : List Nat) (n : Nat) (m : Int) (h : m = n) : cellsOf k l ++ [Value.int k m] = cellsOf k (l ++ [n]) := by
  rw [cellsOf_append, h]; rfl
theorem tRun_go (v : List Nat) (x f i c : Nat) (out : List Nat) (h : i < v.length ∨ 0 < c) : tRun v x (f + 1) i c out = tRun v x f (i + 1) ((c + v.getD i 0 * x) / 65536) (out ++ [(c + v.getD i 0 * x) % 65536]) := by
  rw [tRun, if_pos h]
theorem tRun_stop (v : List Nat) (x f i c : Nat) (out : List Nat) (h : ¬ (i < v.length ∨ 0 < c)) : tRun v x f i c out = out := by
  cases f with
  | zero => rfl
  | succ f => rw [tRun, if_neg h]
/-- What is over is small, and gone soon. -/
def TOver (v : List Nat) (x i c : Nat) : Prop := c ≤ x ∧ (v.length ≤ i → c * 65536 ^ (i - v.length) ≤ x)
theorem TOver.start (v : List Nat) (x : Nat) : TOver v x 0 0 := ⟨Nat.zero_le _, fun _ => by rw [Nat.zero_mul]; exact Nat.zero_le _⟩
theorem TOver.step1 {v : List Nat} {x i c d : Nat} (h : TOver v x i c) (hi : i < v.length) (hd : d < 65536) : TOver v x (i + 1) ((c + d * x) / 65536) := by
  have h1 : (c + d * x) / 65536 ≤ x := by
    have h2 : d * x ≤ 65535 * x := Nat.mul_le_mul_right _ (by omega)
    have := h.1
    omega
  refine ⟨h1, fun h2 => ?_⟩
  rw [show i + 1 - v.length = 0 by omega, Nat.pow_zero, Nat.mul_one]
  exact h1
theorem TOver.step2 {v : List Nat} {x i c : Nat} (h : TOver v x i c) (hi : v.length ≤ i) : TOver v x (i + 1) (c / 65536) := by
  refine ⟨Nat.le_trans (Nat.div_le_self _ _) h.1, fun _ => ?_⟩
  rw [show i + 1 - v.length = (i - v.length) + 1 by omega, Nat.pow_succ, Nat.mul_comm (65536 ^ _), ← Nat.mul_assoc]
  exact Nat.le_trans (Nat.mul_le_mul_right _ (Nat.div_mul_le_self c 65536)) (h.2 hi)
theorem TOver.fuel {v : List Nat} {x i c f : Nat} (h : TOver v x i c) (hx : x ≤ 1099511627776) (hi : v.length ≤ i) (hc : 0 < c) (hf : i + f = v.length + 4) : 0 < f := by
  apply Nat.pos_of_ne_zero
  intro h0
  have h1 := h.2 hi
  rw [show i - v.length = 4 by omega] at h1
  omega
theorem tRun_len (v : List Nat) (x f : Nat) : ∀ (i c : Nat) (out : List Nat), i + f ≤ v.length + 4 → out.length ≤ i → (tRun v x f i c out).length ≤ v.length + 4 := by
  induction f with
  | zero => intro i c out h1 h2; rw [tRun]; omega
  | succ f ih =>
    intro i c out h1 h2
    rw [tRun]
    split
    · exact ih _ _ _ (by omega) (by simp; omega)
    · omega
theorem timesD_len (v : List Nat) (x : Nat) : (timesD v x).length ≤ v.length + 4 := tRun_len _ _ _ _ _ _ (by omega) (by simp)
theorem tRun_digits (v : List Nat) (x f : Nat) : ∀ (i c : Nat) (out : List Nat), (∀ y ∈ out, y < 65536) → ∀ y ∈ tRun v x f i c out, y < 65536 := by
  induction f with
  | zero => intro i c out h; exact h
  | succ f ih =>
    intro i c out h
    rw [tRun]
    split
    · refine ih _ _ _ ?_
      intro y hy
      rcases List.mem_append.1 hy with hy | hy
      · exact h y hy
      · obtain rfl := List.mem_singleton.1 hy
        exact Nat.mod_lt _ (by omega)
    · exact h
theorem timesD_digits (v : List Nat) (x : Nat) : ∀ y ∈ timesD v x, y < 65536 := tRun_digits _ _ _ _ _ _ (by simp)
theorem tRun_ge (v : List Nat) (x f : Nat) : ∀ (i c : Nat) (out : List Nat), out.length ≤ (tRun v x f i c out).length := by
  induction f with
  | zero => intro i c out; exact Nat.le_refl _
  | succ f ih =>
    intro i c out
    rw [tRun]
    split
    · exact Nat.le_trans (by simp) (ih _ _ _)
    · exact Nat.le_refl _
theorem timesD_pos (v : List Nat) (x : Nat) (hv : 0 < v.length) : 0 < (timesD v x).length := by
  rw [timesD, tRun_go _ _ _ _ _ _ (.inl hv)]
  exact Nat.lt_of_lt_of_le (by simp) (tRun_ge _ _ _ _ _ _)
end Go.Cof
namespace Go.Proofs.YtndcaaikjcicgaaDoor
open Go.RowKit Go.Cof

theorem info_u64 : (Tryd.prog.info? 103).map (fun i => (i.zero, i.size, i.bytes)) = some (some (.int .u64 0), 1, 8) := by kernel_rfl
set_option maxRecDepth 100000 in
set_option maxHeartbeats 4000000 in
theorem times_any (g cap : Nat) (v : List Nat) (x : Nat) (hv0 : 0 < v.length) (hv1 : v.length ≤ 1000) (hd : ∀ i, v.getD i 0 < 65536) (hx : x ≤ 1099511627776) (w : World) (R : PRow w g 103 .u64 v) :
    Calls Tryd.prog 131 #[.slice (some ⟨g, 0, none⟩) v.length cap, .int .u64 x] w (RetOwn 103 .u64 (timesD v x) w) := by
  obtain ⟨i0, hi0, hz0, hz1, hz2⟩ := info_parts info_u64
  obtain ⟨n, hn⟩ : ∃ n, n = v.length := ⟨_, rfl⟩
  rw [← hn]
  rw [← hn] at hv0 hv1
  have Hn := Lib.hid hn
  clear hn
  have Hd := Lib.hid hd
  clear hd
  go_enter Tryd.func131, Tryd.ntmps131
  go_wp2_with fail
  go_loopw [5, 6, 7] (fun o c i wr => ∃ (k C f : Nat) (out : List Nat), k + f = n + 4 ∧ i = .int .i64 k ∧ c = .int .u64 C ∧ Hid (tRun v x f k C out = timesD v x) ∧ Hid (out.length = k) ∧ TOver v x k C ∧ wr.ownsRow w.heap.size 103 1 o k (cellsOf .u64 out) ∧ Keep NoB w wr) (fun _ _ i _ => n + 4 - (intOf i).toNat)
  case atStart => exact ⟨0, 0, n + 4, [], by omega, rfl, rfl, by show _ = _; rw [timesD, ← Hn.out], rfl, TOver.start _ _, World.ownsRow_nil _ _ _ _, Keep.refl _ _⟩
  case round =>
    obtain ⟨k, C, f, out, hkf, rfl, rfl, hrun, hlen, hover, hown, K⟩ := hrel
    have hC : (C : Int) ≤ 1099511627776 := by have := hover.1; omega
    by_cases hA : k < n
    · have j1 : (k : Int) < n := by omega
      have hck := (R.keep K (fun x => x)).cell k (by rw [← Hn.out]; exact hA)
      obtain ⟨d, hdd⟩ : ∃ d, d = v.getD k 0 := ⟨_, rfl⟩
      have hd1 : d < 65536 := by rw [hdd]; exact Hd.out k
      rw [← hdd] at hck
      obtain ⟨m, hm⟩ : ∃ m, m = d * x := ⟨_, rfl⟩
      have hm1 : m ≤ 65536 * 1099511627776 := by rw [hm]; exact Nat.mul_le_mul (by omega) hx
      have hm2 : (d : Int) * (x : Int) = (m : Int) := by rw [hm]; simp
      have hm3 : (C : Int) + (m : Int) ≤ 72060000000000000000 := by omega
      have hm4 : (m : Int) ≤ 72057594037927936 := by omega
      have Hm := Lib.hid hm
      have Hdd := Lib.hid hdd
      clear hm hdd hd1
      go_wp2_with (first | (at_builtin; refine wpList_append_own _ rfl _ _ 188 rfl w.heap.size 103 i0 (.int .u64 0) 1 8 Tryd.underlying188 hi0 hz0 hz1 hz2 rfl (by decide) _ k _ rfl (hown.alloc _) ⟨wr.heap.size, 0, none⟩ 1 1 _ rfl rfl (cells_new _ _ _) (ones1 _ _) (by unfold maxLen; omega) (by omega) (by have := K.size; simp; omega) ?_; intro v' w' hown' hgrow _))
      have hf : 0 < f := by omega
      obtain ⟨f', rfl⟩ : ∃ f', f = f' + 1 := ⟨f - 1, by omega⟩
      have e1 : ((C : Int) + (m : Int)) / 65536 = ((((C + v.getD k 0 * x) / 65536 : Nat)) : Int) := by rw [← Hdd.out, ← Hm.out]; omega
      have e2 : cellsOf .u64 out ++ [Value.int .u64 (((C : Int) + (m : Int)) % 65536)] = cellsOf .u64 (out ++ [(C + v.getD k 0 * x) % 65536]) :=
        cellsOf_snoc _ _ _ _ (by rw [← Hdd.out, ← Hm.out]; omega)
      rw [e2] at hown'
      have hrun2 : Hid (tRun v x f' (k + 1) ((C + v.getD k 0 * x) / 65536) (out ++ [(C + v.getD k 0 * x) % 65536]) = timesD v x) := by
        have := hrun.out
        rw [tRun_go _ _ _ _ _ _ (.inl (by rw [← Hn.out]; exact hA))] at this
        exact this
      have hlen2 : Hid ((out ++ [(C + v.getD k 0 * x) % 65536]).length = k + 1) := by show _ = _; rw [List.length_append, hlen.out]; rfl
      have hover2 := hover.step1 (by rw [← Hn.out]; exact hA) (Hd.out k)
      have K2 : Keep NoB w w' := (K.alloc _).grown hgrow (fun b hb => .inr (hown.lt b hb).1)
      exact ⟨⟨k + 1, _, f', _, by omega, by go_num, by rw [e1], hrun2, hlen2, hover2, hown', K2⟩, by simp [intOf]; omega⟩
    · have hA2 : v.length ≤ k := by rw [← Hn.out]; omega
      by_cases hB : 0 < C
      · have hf : 0 < f := hover.fuel hx hA2 hB (by rw [← Hn.out]; exact hkf)
        have j1 : decide (k < n) = false := by simp; omega
        have j2 : (0 : Int) < C := by omega
        go_wp2_with (first | (at_builtin; refine wpList_append_own _ rfl _ _ 188 rfl w.heap.size 103 i0 (.int .u64 0) 1 8 Tryd.underlying188 hi0 hz0 hz1 hz2 rfl (by decide) _ k _ rfl (hown.alloc _) ⟨wr.heap.size, 0, none⟩ 1 1 _ rfl rfl (cells_new _ _ _) (ones1 _ _) (by unfold maxLen; omega) (by omega) (by have := K.size; simp; omega) ?_; intro v' w' hown' hgrow _))
        obtain ⟨f', rfl⟩ : ∃ f', f = f' + 1 := ⟨f - 1, by omega⟩
        have h0 : v.getD k 0 = 0 := by rw [List.getD_eq_getElem?_getD, List.getElem?_eq_none hA2]; rfl
        have e1 : (C : Int) / 65536 = ((C / 65536 : Nat) : Int) := by omega
        have e2 : cellsOf .u64 out ++ [Value.int .u64 ((C : Int) % 65536)] = cellsOf .u64 (out ++ [C % 65536]) := cellsOf_snoc _ _ _ _ (by omega)
        rw [e2] at hown'
        have hrun2 : Hid (tRun v x f' (k + 1) (C / 65536) (out ++ [C % 65536]) = timesD v x) := by
          have := hrun.out
          rw [tRun_go _ _ _ _ _ _ (.inr hB), h0, Nat.zero_mul, Nat.add_zero] at this
          exact this
        have hlen2 : Hid ((out ++ [C % 65536]).length = k + 1) := by show _ = _; rw [List.length_append, hlen.out]; rfl
        have hover2 := hover.step2 hA2
        have K2 : Keep NoB w w' := (K.alloc _).grown hgrow (fun b hb => .inr (hown.lt b hb).1)
        clear h0
        exact ⟨⟨k + 1, _, f', _, by omega, by go_num, by rw [e1], hrun2, hlen2, hover2, hown', K2⟩, by simp [intOf]; omega⟩
      · have j1 : decide (k < n) = false := by simp; omega
        obtain rfl : C = 0 := by omega
        have hfin : timesD v x = out := by rw [← hrun.out]; exact tRun_stop _ _ _ _ _ _ (by omega)
        have Hfin := Lib.hid hfin
        clear hfin hA hA2 hB hC
        go_wp2_with fail
        go_ret
        exact ⟨_, rfl, by rw [Hfin.out, hlen.out]; exact hown, K⟩
end Go.Proofs.YtndcaaikjcicgaaDoor
