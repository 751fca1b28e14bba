/-
  DERIVED. The walks of the reference's device: lose, Sync, Crash, Image.
-/
import Derived.Test.YtndcaaikjcicgaaDoorRDev2
import Derived.Test.YtndcaaikjcicgaaDoorStrs
set_option linter.unusedVariables false
set_option linter.unusedSimpArgs false
namespace Go.Cof
open Go.RowKit
/-- Blocks, behind the first k writes, those that p tells. -/
def loseTo (sure : List ByteArray) (wait : List (Nat × ByteArray)) (p : Nat → Bool) : Nat → List ByteArray
  | 0 => sure
  | k + 1 => if p k then (loseTo sure wait p k).set (wait.getD k (0, ⟨#[]⟩)).1 (wait.getD k (0, ⟨#[]⟩)).2 else loseTo sure wait p k
theorem loseTo_crash (sure : List ByteArray) (wait : List (Nat × ByteArray)) (keeps : List Bool) (k : Nat) : loseTo sure wait (fun i => keeps.getD i false) k = crashTo sure wait keeps k := by
  induction k with
  | zero => rfl
  | succ k ih => rw [loseTo, crashTo, ih]
theorem loseTo_sync (sure : List ByteArray) (wait : List (Nat × ByteArray)) (k : Nat) (hk : k ≤ wait.length) : loseTo sure wait (fun _ => true) k = applyW sure (wait.take k) := by
  induction k with
  | zero => simp [loseTo, applyW]
  | succ k ih => rw [loseTo, if_pos rfl, ih (by omega), applyW_take sure wait k (by omega)]
end Go.Cof
namespace Go.Proofs.YtndcaaikjcicgaaDoor
open Go.RowKit Go.Cof
section
variable {w : World} {D : Nat} {sv av tv : Value} {sure : List ByteArray} {wait : List (Nat × ByteArray)} {fuse : Int}
theorem RDev.setSure (h : RDev w D sv av tv sure wait fuse) {S : Nat} (hS : sv.ownBlock = some S) (i : Nat) (hi : i < 66) (s : ByteArray) : RDev (w.setCell ⟨S, i, none⟩ (.string s)) D sv av tv (sure.set i s) wait fuse := by
  have K : Keep (OneB S) w (w.setCell ⟨S, i, none⟩ (.string s)) := (Keep.refl _ _).set1 _ _
  have h1 := h.row.store hS i hi (.string s)
  refine ⟨K.heap h.head (fun e => h.apart0 S (.inl hS) e.symm), ?_, h.ats.keep K (fun b hb e => (h.apart1 S hS).1 (e ▸ hb)), h.whats.keep K (fun b hb e => (h.apart1 S hS).2 (e ▸ hb)), h.apart0, h.apart1, h.apart2, by rw [List.length_set]; exact h.len, h.lo, h.hi, h.small, h.inb⟩
  rw [strCells, List.map_set]
  exact h1
theorem RDev.cleared (h : RDev w D sv av tv sure wait fuse) : RDev ((w.setCell ⟨D, 1, none⟩ (.slice none 0 0)).setCell ⟨D, 2, none⟩ (.slice none 0 0)) D sv (.slice none 0 0) (.slice none 0 0) sure [] fuse := by
  have K : Keep (OneB D) w ((w.setCell ⟨D, 1, none⟩ (.slice none 0 0)).setCell ⟨D, 2, none⟩ (.slice none 0 0)) := ((Keep.refl _ w).set1 _ _).set1 _ _
  refine ⟨by rw [setCell_heap (setCell_heap h.head _)]; rfl, h.row.keep K (fun b hb => h.apart0 b (.inl hb)), OwnsN.nil _ _ _ _, OwnsN.nil _ _ _ _, ?_, (fun b hb => ⟨(fun e => by cases e), (fun e => by cases e)⟩), (fun b hb => by cases hb), h.len, h.lo, h.hi, Nat.zero_le _, (fun p hp => by cases hp)⟩
  rintro b (hb | hb | hb)
  · exact h.apart0 b (.inl hb)
  · cases hb
  · cases hb
set_option maxRecDepth 100000 in
set_option maxHeartbeats 4000000 in
theorem lose_any (h : RDev w D sv av tv sure wait fuse) (g : FuncId) (lb : Array Value) (p : Nat → Bool) (eg : ∀ args w, (callFunc g args).run Tryd.prog w = .ok (.enter g args) w)
    (hg : ∀ wr, Keep (RB D sv av tv) w wr → ∀ i : Nat, i < wait.length → Calls Tryd.prog g (#[.int .i64 i] ++ lb) wr fun e w' => e = .returned (.bool (p i)) ∧ w' = wr) :
    Calls Tryd.prog 95 #[.pointer (some ⟨D, 0, none⟩), .func (.func g) #[] lb] w fun e w' => e = .returned (.tuple #[]) ∧ RDev w' D sv (.slice none 0 0) (.slice none 0 0) (loseTo sure wait p wait.length) [] fuse ∧ Keep (RB D sv av tv) w w' := by
  obtain ⟨n, hn⟩ : ∃ n, n = wait.length := ⟨_, rfl⟩
  have hn6 : n ≤ 1000000 := by rw [hn]; exact h.small
  obtain ⟨pa, cpa, rfl⟩ : ∃ p c, av = .slice p n c := by
    rcases h.ats.2 with ⟨hv, h0⟩ | ⟨g, cap, cur, fz, hv, _⟩
    · exact ⟨_, _, by rw [hv, hn, h0]⟩
    · exact ⟨_, _, by rw [hv, hn]⟩
  obtain ⟨S, cS, rfl, _, _, _⟩ := h.row.at (by omega)
  rw [← hn] at hg
  rw [← hn]
  obtain ⟨_, ca, _, _, _⟩ := h.cellsD
  have Hn := Lib.hid hn
  clear hn
  go_enter Tryd.func95, Tryd.ntmps95
  go_wp2_with fail
  clear ca
  go_loopw [11] (fun i wr => ∃ k : Nat, k ≤ n ∧ i = .int .i64 k ∧ RDev wr D (.slice (some ⟨S, 0, none⟩) 66 cS) (.slice pa n cpa) tv (loseTo sure wait p k) wait fuse ∧ Keep (RB D (.slice (some ⟨S, 0, none⟩) 66 cS) (.slice pa n cpa) tv) w wr) (fun i _ => n - (intOf i).toNat)
  case atStart => exact ⟨0, by omega, rfl, h, Keep.refl _ _⟩
  case round =>
    obtain ⟨k, hk, rfl, hd, K⟩ := hrel
    by_cases hlt : k < n
    · have j1 : decide (k < n) = true := by simp; omega
      have j2 : (k : Int) < n := by omega
      have ha := hd.ats
      have ht := hd.whats
      rw [← Hn.out] at ha ht
      obtain ⟨ga, _, hga, _, hcA, _⟩ := ha.at (by omega)
      cases hga
      obtain ⟨gt, ct', rfl, _, hcT, _⟩ := ht.at (by omega)
      obtain ⟨x, hx⟩ : ∃ x, x = wait.getD k (0, ⟨#[]⟩) := ⟨_, rfl⟩
      have hxe : wait[k]? = some x := by rw [hx, List.getD_eq_getElem?_getD, List.getElem?_eq_getElem (by have := Hn.out; omega)]; rfl
      have hxi : x.1 < 66 := hd.inb x (List.mem_of_getElem? hxe)
      have hxj : (x.1 : Int) < 66 := by omega
      have c1 := hcA k (.int .i64 (x.1 : Int)) (by rw [atCells, List.getElem?_map, hxe]; rfl)
      have c2 := hcT k (.string x.2) (by rw [whatCells, List.getElem?_map, hxe]; rfl)
      have hcall := hg wr K k hlt
      have hstep : loseTo sure wait p (k + 1) = if p k then (loseTo sure wait p k).set x.1 x.2 else loseTo sure wait p k := by rw [loseTo, ← hx]
      have Hst := Lib.hid hstep
      obtain ⟨_, _, hSS, _, _, hfS⟩ := hd.row.at (by omega)
      cases hSS
      have fS := hfS x.1 hxi
      have hsc := hd.row.cells (g := S) rfl x.1 (.string ((loseTo sure wait p k).getD x.1 ⟨#[]⟩)) (by rw [strCells, List.getElem?_map, List.getD_eq_getElem?_getD, List.getElem?_eq_getElem (by rw [hd.len]; exact hxi)]; rfl)
      have hadd : (⟨S, 0, none⟩ : Addr).add x.1 = ⟨S, x.1, none⟩ := by unfold Addr.add; split <;> simp_all
      rw [hadd] at hsc
      obtain ⟨csD, _, ctD, _, _⟩ := hd.cellsD
      clear hadd hfS hstep hx hxe hcA hcT
      go_wp2_with fail
      refine hcall.mono ?_
      clear hcall
      rintro e w' ⟨rfl, hw'⟩
      subst w'
      cases hp : p k with
      | true =>
        have hnew : loseTo sure wait p (k + 1) = (loseTo sure wait p k).set x.1 x.2 := by rw [Hst.out, hp]; rfl
        have Hnew := Lib.hid hnew
        clear hnew hp Hst
        go_wp2_with fail
        refine wp_region_qt_drew 13 (by kernel_rfl) (by kernel_rfl) ?_
        simp only [List.take_succ_cons, List.take_zero, List.drop_succ_cons, List.drop_zero]
        repeat (quiet_step (fail))
        refine wpQuiet_nil ?_
        intro nq
        have hd2 := (hd.keep ((Keep.refl NoB wr).drewN nq) (fun _ _ x => x)).setSure (S := S) rfl x.1 hxi x.2
        rw [← Hnew.out] at hd2
        have K2 : Keep (RB D (.slice (some ⟨S, 0, none⟩) 66 cS) (.slice (some ⟨ga, 0, none⟩) n cpa) (.slice (some ⟨gt, 0, none⟩) n ct')) w ((wr.drewN nq).setCell ⟨S, x.1, none⟩ (.string x.2)) := (K.drewN nq).setCell (p := ⟨S, x.1, none⟩) (.inl (Or.inr (Or.inl rfl))) _
        go_wp2_with fail
        exact ⟨⟨k + 1, by omega, by go_num, hd2, K2⟩, by simp [intOf]; omega⟩
      | false =>
        have hnew : loseTo sure wait p (k + 1) = loseTo sure wait p k := by rw [Hst.out, hp]; rfl
        rw [← hnew] at hd
        clear hnew hp Hst
        go_wp2_with fail
        exact ⟨⟨k + 1, by omega, by go_num, hd, K⟩, by simp [intOf]; omega⟩
    · obtain rfl : k = n := by omega
      have j1 : decide (k < k) = false := by simp
      have hd2 := hd.cleared
      obtain ⟨_, c1, c2, _, ff⟩ := hd.cellsD
      have f1 := ff 1
      have f2 := ff 2
      clear ff
      go_wp2_with fail
      go_end0
      exact ⟨rfl, hd2, (K.setCell (p := ⟨D, 1, none⟩) (.inl (Or.inl rfl)) _).setCell (p := ⟨D, 2, none⟩) (.inl (Or.inl rfl)) _⟩
theorem sync1_any (i : Nat) (w : World) : Calls Tryd.prog 96 (#[.int .i64 i] ++ #[]) w fun e w' => e = .returned (.bool true) ∧ w' = w := by
  show Calls Tryd.prog 96 #[.int .i64 i] w _
  go_enter Tryd.func96, Tryd.ntmps96
  go_wp2
  go_ret
  exact ⟨rfl, rfl⟩
theorem refSync_ok (h : RDev w D sv av tv sure wait fuse) (hf : fuse ≠ 0) :
    Calls Tryd.prog 50 #[.pointer (some ⟨D, 0, none⟩)] w fun e w' => e = .returned (.int .i64 0) ∧ RDev w' D sv (.slice none 0 0) (.slice none 0 0) (applyW sure wait) [] (burnt fuse) ∧ Keep (RB D sv av tv) w w' := by
  have hb := spent_any h
  rw [show decide (fuse = 0) = false by simpa using hf] at hb
  have hl : loseTo sure wait (fun _ => true) wait.length = applyW sure wait := by rw [loseTo_sync _ _ _ (Nat.le_refl _), List.take_of_length_le (Nat.le_refl _)]
  have Hl := Lib.hid hl
  clear hl
  go_enter Tryd.func50, Tryd.ntmps50
  go_wp2_with fail
  refine hb.mono ?_
  clear hb
  rintro e w1 ⟨rfl, h1, K1⟩
  have hlo := lose_any h1 96 #[] (fun _ => true) (enters_of Tryd.func96 (by kernel_rfl) rfl) (fun wr _ i _ => sync1_any i wr)
  rw [Hl.out] at hlo
  go_wp2_with fail
  refine hlo.mono ?_
  clear hlo
  rintro e w2 ⟨rfl, h2, K2⟩
  go_wp2_with fail
  go_ret
  exact ⟨rfl, h2, (K1.mono (fun b _ hb => Or.inl hb)).then K2⟩
theorem refSync_spent (h : RDev w D sv av tv sure wait 0) :
    Calls Tryd.prog 50 #[.pointer (some ⟨D, 0, none⟩)] w fun e w' => e = .returned (.int .i64 14) ∧ RDev w' D sv av tv sure wait 0 ∧ Keep (OneB D) w w' := by
  have hb := spent_any h
  rw [show decide ((0 : Int) = 0) = true from rfl, show burnt 0 = 0 from rfl] at hb
  go_enter Tryd.func50, Tryd.ntmps50
  go_wp2_with fail
  refine hb.mono ?_
  rintro e w1 ⟨rfl, h1, K1⟩
  go_wp2_with fail
  go_ret
  exact ⟨rfl, h1, K1⟩
/-- keeps' own function: its box holds keeps. -/
theorem crash1_any (Bk : Nat) (kv : Value) (keeps : List Bool) (i : Nat) (w : World) (hc : w.cell? ⟨Bk, 0, none⟩ = some kv) (B : Bools w kv keeps) (hk : keeps.length ≤ 1000000) (hi : i ≤ 1000000) :
    Calls Tryd.prog 97 (#[.int .i64 i] ++ #[.pointer (some ⟨Bk, 0, none⟩)]) w fun e w' => e = .returned (.bool (keeps.getD i false)) ∧ w' = w := by
  show Calls Tryd.prog 97 #[.int .i64 i, .pointer (some ⟨Bk, 0, none⟩)] w _
  obtain ⟨p, c, rfl⟩ := B.len
  obtain ⟨m, hm⟩ : ∃ m, m = keeps.length := ⟨_, rfl⟩
  rw [← hm] at B hc hk
  by_cases hlt : i < m
  · obtain ⟨b, off, rfl, _, _, hcell⟩ := B.at (by omega)
    have hck := hcell i (by omega)
    have j1 : (i : Int) < m := by omega
    obtain ⟨q, hq⟩ : ∃ q, q = keeps.getD i false := ⟨_, rfl⟩
    rw [← hq] at hck
    rw [← hq]
    clear hcell hm hq
    go_enter Tryd.func97, Tryd.ntmps97
    go_wp2_with fail
    go_ret
    exact ⟨rfl, rfl⟩
  · have j1 : decide ((i : Int) < m) = false := by simp; omega
    have hq : keeps.getD i false = false := by rw [List.getD_eq_getElem?_getD, List.getElem?_eq_none (by omega)]; rfl
    rw [hq]
    clear hq hm
    go_enter Tryd.func97, Tryd.ntmps97
    go_wp2_with fail
    go_ret
    exact ⟨rfl, rfl⟩
theorem refCrash_any (h : RDev w D sv av tv sure wait fuse) (kv : Value) (keeps : List Bool) (B : Bools w kv keeps) (hk : keeps.length ≤ 1000000) (hB : 0 < keeps.length → ∀ b, kv.ownBlock = some b → ¬ RB D sv av tv b) :
    Calls Tryd.prog 52 #[.pointer (some ⟨D, 0, none⟩), kv] w fun e w' => e = .returned (.tuple #[]) ∧ RDev w' D sv (.slice none 0 0) (.slice none 0 0) (crashTo sure wait keeps wait.length) [] (-1) ∧ Keep (RB D sv av tv) w w' := by
  have h1 := h.keep ((Keep.refl NoB w).alloc (.cells #[kv] 53)) (fun _ _ x => x)
  have hlt : ∀ b, RB D sv av tv b → b < w.heap.size := by
    rintro b (rfl | hb | hb | hb)
    · exact lt_of_heap h.head
    · exact (h.row.lt b hb).2
    · exact (h.ats.lt b hb).2
    · exact (h.whats.lt b hb).2
  have hlo := lose_any h1 97 #[.pointer (some ⟨w.heap.size, 0, none⟩)] (fun i => keeps.getD i false) (enters_of Tryd.func97 (by kernel_rfl) rfl) (fun wr hK i hi => by
    have hnb : ¬ RB D sv av tv w.heap.size := fun hx => by have := hlt _ hx; omega
    have hc : wr.cell? ⟨w.heap.size, 0, none⟩ = some kv := (hK.cell (p := ⟨w.heap.size, 0, none⟩) (by simp) hnb).trans (by simp)
    have hKw : Keep (RB D sv av tv) w wr := ((Keep.refl NoB w).alloc (.cells #[kv] 53)).ofN.then hK
    have B' : Bools wr kv keeps := by
      by_cases h0 : 0 < keeps.length
      · exact B.keep hKw (hB h0)
      · have hnil : keeps = [] := List.eq_nil_of_length_eq_zero (by omega)
        subst hnil
        obtain ⟨p, c, rfl⟩ := B.len
        exact .inl ⟨rfl, _, _, rfl⟩
    exact crash1_any w.heap.size kv keeps i wr hc B' hk (by have := h.small; omega))
  rw [loseTo_crash] at hlo
  obtain ⟨p, c, rfl⟩ := B.len
  clear hB
  go_enter Tryd.func52, Tryd.ntmps52
  go_wp2_with fail
  refine hlo.mono ?_
  clear hlo
  rintro e w2 ⟨rfl, h2, K2⟩
  obtain ⟨_, _, _, c3, ff⟩ := h2.cellsD
  have f3 := ff 3
  have h3 := h2.setFuse (-1) (by omega) (by omega)
  clear ff
  go_wp2_with fail
  go_end0
  exact ⟨rfl, h3, (((Keep.refl NoB w).alloc _).ofN.then K2).setCell (p := ⟨D, 3, none⟩) (.inl (Or.inl rfl)) _⟩
end
end Go.Proofs.YtndcaaikjcicgaaDoor
