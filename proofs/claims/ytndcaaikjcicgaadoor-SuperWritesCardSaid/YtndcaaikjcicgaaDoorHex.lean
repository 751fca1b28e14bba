/-
  DERIVED. The walk of sum.Hex.
-/
import Derived.Test.YtndcaaikjcicgaaDoorProg
import Derived.WalkLawsBesides
import Derived.WalkSpells
import Derived.LoopTactic
import Derived.RegionTactic
import Derived.Deep.QuietTactic
import Derived.BigQuiet
import Derived.OwnWalk
import Derived.Lib.Hide
import Derived.Test.YtndcaaikjcicgaaDoorBase
set_option linter.unusedVariables false
set_option linter.unusedSimpArgs false
namespace Go.Proofs.YtndcaaikjcicgaaDoor
open Go.RowKit Go.Cof

theorem info_u8 : (Tryd.prog.info? 5).map (fun i => (i.zero, i.size, i.bytes)) = some (some (.int .u8 0), 1, 1) := by kernel_rfl
/-- A small hexadecimal digit. -/
def hexDigit (x : Nat) : Nat := if x < 10 then 48 + x else 87 + x
def hexTo (l : List Nat) : Nat → List Nat
  | 0 => []
  | k + 1 => hexTo l k ++ [hexDigit (l.getD k 0 / 16), hexDigit (l.getD k 0 % 16)]
/-- Two small hexadecimal digits a byte. -/
def hex (l : List Nat) : List Nat := hexTo l l.length
theorem digit_at (n : Nat) (h : n < 16) : (bs ⟨#[48, 49, 50, 51, 52, 53, 54, 55, 56, 57, 97, 98, 99, 100, 101, 102]⟩).getD n 0 = hexDigit n := by
  have : ∀ i : Fin 16, (bs ⟨#[48, 49, 50, 51, 52, 53, 54, 55, 56, 57, 97, 98, 99, 100, 101, 102]⟩).getD i.val 0 = hexDigit i.val := by decide
  exact this ⟨n, h⟩
theorem and15 (n : Nat) (h : n < 256) : bits .and .u8 (n : Int) 15 = ((n % 16 : Nat) : Int) := by
  have h8 : ∀ c : Nat, c < 256 → (BitVec.ofInt 8 (c : Int)).toNat = c := fun c hc => by
    rw [BitVec.ofInt_natCast, BitVec.toNat_ofNat]; exact Nat.mod_eq_of_lt (by omega)
  show IntKind.u8.wrap ((BitVec.ofInt 8 (n : Int) &&& BitVec.ofInt 8 ((15 : Nat) : Int)).toNat : Int) = _
  rw [BitVec.toNat_and, h8 n h, h8 15 (by omega), IntKind.wrap_u8]
  have : n &&& 15 = n % 16 := Nat.and_two_pow_sub_one_eq_mod n 4
  omega
theorem hexTo_len (l : List Nat) (k : Nat) : (hexTo l k).length = 2 * k := by
  induction k with
  | zero => rfl
  | succ k ih => rw [hexTo, List.length_append, ih]; simp only [List.length_cons, List.length_nil]; omega
set_option maxRecDepth 100000 in
set_option maxHeartbeats 4000000 in
theorem hex_any (s : ByteArray) (hs : s.size ≤ 1000000) (w : World) :
    Calls Tryd.prog 15 #[.string s] w fun e w' => e = .returned (.string (txt (hex (bs s)))) ∧ Keep NoB w w' := by
  obtain ⟨i0, hi0, hz0, hz1, hz2⟩ := info_parts info_u8
  go_enter Tryd.func15, Tryd.ntmps15
  go_wp2
  have hB : w.heap.size ≤ w.heap.size := Nat.le_refl _
  go_loopw [3, 7] (fun v i wr => ∃ k : Nat, k ≤ s.size ∧ i = .int .i64 k ∧ Keep NoB w wr ∧ wr.ownsRow w.heap.size 5 1 v (hexTo (bs s) k).length (u8s (hexTo (bs s) k))) (fun _ i _ => s.size - (intOf i).toNat)
  case atStart => exact ⟨0, by omega, rfl, Keep.refl _ _, World.ownsRow_nil _ _ _ _⟩
  case round =>
    obtain ⟨k, hk, rfl, K, hown⟩ := hrel
    by_cases hlt : k < s.size
    · have j1 : (k:Int) < s.size := by omega
      have hb : s[k].toNat < 256 := s[k].toNat_lt
      have e15 : bits BinOp.and IntKind.u8 (s[k].toNat : Int) 15 = ((s[k].toNat % 16 : Nat) : Int) := and15 _ hb
      have hx1 := fun wx => run_index_text (P := Tryd.prog) Tryd.underlying9 ⟨#[48, 49, 50, 51, 52, 53, 54, 55, 56, 57, 97, 98, 99, 100, 101, 102]⟩ .u8 ((s[k].toNat : Int) / 16) (s[k].toNat / 16) (by omega) (by show _ < 16; omega) wx
      have hx2 := fun wx => run_index_text (P := Tryd.prog) Tryd.underlying9 ⟨#[48, 49, 50, 51, 52, 53, 54, 55, 56, 57, 97, 98, 99, 100, 101, 102]⟩ .u8 ((s[k].toNat : Int) % 16) (s[k].toNat % 16) (by omega) (by show _ < 16; omega) wx
      rw [digit_at _ (by omega)] at hx1 hx2
      rw [show ((s[k].toNat % 16 : Nat) : Int) = (s[k].toNat : Int) % 16 by omega] at e15
      clear hb
      go_wp2_with fail
      refine wp_region_pqt_drew 11 [0, 1, 2, 3, 4, 5, 6, 7, 8, 9, 10] (by kernel_rfl) (by kernel_rfl) (fun c a d v w h => by cases d <;> exact h) ?_
      rw [show restOf 11 [0, 1, 2, 3, 4, 5, 6, 7, 8, 9, 10] = [] from rfl]
      simp only [pickL, List.getElem?_toArray, List.getElem?_cons_succ, List.getElem?_cons_zero, List.drop_succ_cons, List.drop_zero]
      repeat (refine wpEarly_step (fun K hK => ?_); go_simp; refine hK _ ?_; clear hK K)
      refine wpEarly_nil ?_
      refine wpQuiet_nil ?_
      intro nq
      have hlen : (hexTo (bs s) k).length = 2 * k := hexTo_len _ _
      have Hlen := Lib.hid hlen
      clear hlen hx1 hx2 e15
      have hownN : (wr.drewN nq).ownsRow w.heap.size 5 1 u3 (hexTo (bs s) k).length (u8s (hexTo (bs s) k)) := hown
      go_wp2_with (first | (at_builtin; refine wpList_append_own _ rfl _ _ 104 rfl w.heap.size 5 i0 (.int .u8 0) 1 1 Tryd.underlying104 hi0 hz0 hz1 hz2 rfl (by decide) u3 _ _ rfl (hownN.alloc _) ⟨(wr.drewN nq).heap.size, 0, none⟩ 2 2 _ rfl rfl (cells_new _ _ _) (ones2 _ _ _) (by rw [Hlen.out]; unfold maxLen; omega) (by rw [Hlen.out]; omega) (by have := K.size; simp; omega) ?_; intro v' w' hown' hgrow _))
      have e2 : u8s (hexTo (bs s) k) ++ [Value.int .u8 (hexDigit (s[k].toNat / 16) : Nat), Value.int .u8 (hexDigit (s[k].toNat % 16) : Nat)] = u8s (hexTo (bs s) (k + 1)) := by
        rw [hexTo, u8s_append, bs_getD s k hlt]; rfl
      have e3 : (hexTo (bs s) k).length + 2 = (hexTo (bs s) (k + 1)).length := by rw [hexTo, List.length_append]; rfl
      rw [e2, e3] at hown'
      have K2 : Keep NoB w w' := ((K.drewN nq).alloc _).grown hgrow (fun b hb => .inr (hown.lt b hb).1)
      clear e2 e3 hgrow hown hownN
      go_roundw
      case rel => first | exact ⟨k + 1, by omega, by go_num, K2, hown'⟩ | ((repeat apply Exists.intro); exact ⟨⟨k + 1, by omega, by go_num, K2, hown'⟩, rfl⟩)
      case measure => simp [intOf]; omega
    · obtain rfl : k = s.size := by omega
      have hcv := run_string_own (P := Tryd.prog) hown Tryd.underlying104 Tryd.underlying5 Tryd.underlying9
      have hfin : hexTo (bs s) s.size = hex (bs s) := by rw [hex, bs_len]
      rw [hfin] at hcv
      clear hfin
      go_wp2
      go_ret
      exact ⟨rfl, K⟩
end Go.Proofs.YtndcaaikjcicgaaDoor
