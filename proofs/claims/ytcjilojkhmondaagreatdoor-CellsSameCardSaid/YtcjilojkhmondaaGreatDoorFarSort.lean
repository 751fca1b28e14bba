/-
  DERIVED. slices.SortStableFunc of what is far, the row owned behind it, be it empty or not.
-/
import Derived.Test.YtcjilojkhmondaaGreatDoorTopP
import Derived.Test.YtcjilojkhmondaaGreatDoorOwnRow
set_option linter.unusedVariables false
set_option linter.unusedSimpArgs false
namespace Go.Proofs.YtcjilojkhmondaaGreatDoor
open Go.RowKit Go.Cof Go.Sort Go.Shelf
theorem insFar_nil (w : World) : Calls Tryz.prog 59 #[.slice none 0 0, .int .i64 0, .int .i64 0, .func (.func 27) #[] #[]] w fun e w' => e = .returned (.tuple #[]) ∧ w' = w := by
  go_enter Tryz.func59, Tryz.ntmps59
  go_wp2_with fail
  go_loopw [8] (fun iv wr => iv = .int .i64 1 ∧ wr = w) (fun _ _ => 0)
  case atStart => exact ⟨rfl, rfl⟩
  case round =>
    obtain ⟨rfl, rfl⟩ := hrel
    go_wp2_with fail
    go_end0
    exact ⟨rfl, rfl⟩
theorem stable_nil (w : World) : Calls Tryz.prog 39 #[.slice none 0 0, .int .i64 0, .func (.func 27) #[] #[]] w fun e w' => e = .returned (.tuple #[]) ∧ w' = w := by
  go_enter Tryz.func39, Tryz.ntmps39
  go_wp2_with fail
  go_loopw [7, 8] (fun av bv wr => av = .int .i64 0 ∧ bv = .int .i64 20 ∧ wr = w) (fun _ _ _ => 0)
  case atStart => exact ⟨rfl, rfl, rfl⟩
  case round =>
    obtain ⟨rfl, rfl, rfl⟩ := hrel
    have h := fun w => insFar_nil w
    go_wp2_with fail
    refine (h _).mono ?_
    rintro e w1 ⟨rfl, rfl⟩
    go_wp2_with fail
    go_loopw [6] (fun bv wr => bv = .int .i64 20 ∧ wr = w1) (fun _ _ => 0)
    case atStart => exact ⟨rfl, rfl⟩
    case round =>
      obtain ⟨rfl, rfl⟩ := hrel
      go_wp2_with fail
      go_end0
      exact ⟨rfl, rfl⟩
theorem sortFarN_any (v : Value) (d : List FarV) (base : Nat) (w : World) (h : OwnsN w base 65 2 v d.length (d.flatMap encFar)) (hl : d.length ≤ 1000000) :
    Calls Tryz.prog 26 #[v, .func (.func 27) #[] #[]] w fun e w' => e = .returned (.tuple #[]) ∧ ∃ d' : Array FarV, (PermIn 0 d.length d.toArray d' ∧ SortedIn (ltOf cmpFar) 0 d.length d') ∧ OwnsN w' base 65 2 v d.length (d'.toList.flatMap encFar) ∧ Keep (fun b => base ≤ b) w w' := by
  have h0 := h
  obtain ⟨hlen, h⟩ := h
  rcases h with ⟨rfl, hn⟩ | ⟨g, cap, cur, fz, rfl, hb, hg, _⟩
  · obtain rfl : d = [] := List.eq_nil_of_length_eq_zero hn
    have h1 := stable_nil w
    go_enter Tryz.func26, Tryz.ntmps26
    go_wp2_with fail
    refine h1.mono ?_
    rintro e w' ⟨rfl, rfl⟩
    go_wp2_with fail
    go_end0
    exact ⟨rfl, #[], ⟨⟨rfl, fun i h => rfl, by simp⟩, fun i j _ _ h => absurd h (by simp)⟩, h0, Keep.refl _ _⟩
  · have hH := HoldsK.ofN encFar_len h0
    have hgl := lt_of_heap hg
    have hs : d.toArray.size = d.length := by simp
    have hcon := sortStable_any g cap d.toArray w (by omega) hH hgl
    rw [hs] at hcon
    refine hcon.mono ?_
    rintro e w' ⟨he, d', hd, n, os, rfl⟩
    refine ⟨he, d', hd, ?_, ?_⟩
    · exact own_sorted (m := n) (os := os) encFar_len h0 (by have := hd.1.1; omega)
    · exact (sorted_keep (enc := encFar) (k := 2) (m := n) (os := os) (d' := d') hgl).mono fun i _ hi => by rw [show i = g from hi]; exact hb
end Go.Proofs.YtcjilojkhmondaaGreatDoor
