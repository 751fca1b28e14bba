/-
  DERIVED. Items as text, in plain Lean: how they are written, how a text is cut, and that what was written is read so.
-/
import Derived.Test.YtcjilojkhmondaaDoorItem
import Derived.Lib.SplitLaws
import Derived.Lib.AtoiAllCases
import Derived.Lib.AtoiTie
import Derived.Lib.ItoaNum
set_option linter.unusedVariables false
set_option linter.unusedSimpArgs false
namespace Go.Cof
open Go.Lib Go.Proofs.YtcjilojkhmondaaDoor
/-- A text, cut at each byte of a kind. -/
def pieces (c : UInt8) : List UInt8 → List (List UInt8)
  | [] => [[]]
  | b :: l => if b = c then [] :: pieces c l else match pieces c l with
    | [] => [[b]]
    | p :: r => (b :: p) :: r
theorem pieces_ne (c : UInt8) : ∀ l, pieces c l ≠ []
  | [] => by simp [pieces]
  | b :: l => by
    rw [pieces]
    split
    · simp
    · split <;> simp
theorem splitK_pieces (c : UInt8) : ∀ l : List UInt8, splitK [c] 0 (count l [c]) l = pieces c l
  | [] => by rw [count_one]; rfl
  | b :: l => by
    have ih := splitK_pieces c l
    by_cases h : b = c
    · subst h
      have hix : index (b :: l) [b] = 0 := by rw [index]; simp [List.isPrefixOf]
      rw [count_cons_eq, Nat.add_comm, splitK, hix, pieces, if_pos rfl]
      simpa using ih
    · have hp : ([c] : List UInt8).isPrefixOf (b :: l) = false := by simp [List.isPrefixOf, Ne.symm h]
      have hix : index (b :: l) [c] = if index l [c] == -1 then -1 else index l [c] + 1 := by rw [index, hp]; simp
      rw [count_cons_ne b c l h, pieces, if_neg h]
      cases hk : count l [c] with
      | zero =>
        rw [hk, splitK] at ih
        rw [splitK, ← ih]
      | succ k =>
        have hm : index l [c] ≠ -1 := fun e => by rw [count_miss e] at hk; cases hk
        have hge := index_ge l [c]
        obtain ⟨j, hj⟩ : ∃ j : Nat, index l [c] = j := ⟨(index l [c]).toNat, by omega⟩
        have hix' : index (b :: l) [c] = ((j + 1 : Nat) : Int) := by rw [hix, if_neg (fun e => hm (beq_iff_eq.1 e)), hj]; omega
        rw [hk, splitK, hj, if_neg (by simp)] at ih
        rw [splitK, hix', if_neg (by simp; omega), ← ih]
        have e1 : ((j + 1 : Nat) : Int).toNat + 0 = j + 1 := by omega
        have e2 : ((j : Nat) : Int).toNat + 0 = j := by omega
        have e3 : ((j + 1 : Nat) : Int).toNat + [c].length = j + 1 + 1 := rfl
        have e4 : ((j : Nat) : Int).toNat + [c].length = j + 1 := rfl
        rw [e1, e2, e3, e4]
        rfl
/-- What strings.Split makes of a text at a byte. -/
theorem splitB_pieces (c : UInt8) (s : ByteArray) : (splitB ⟨#[c]⟩ 0 (countB s ⟨#[c]⟩) s).map (·.data.toList) = pieces c s.data.toList := by
  rw [splitB_data]
  exact splitK_pieces c s.data.toList
theorem pieces_len (c : UInt8) (l : List UInt8) : (pieces c l).length = l.count c + 1 := by
  induction l with
  | nil => rfl
  | cons b l ih =>
    rw [pieces]
    by_cases h : b = c
    · rw [if_pos h, List.length_cons, ih, h, List.count_cons_self]
    · rw [if_neg h, List.count_cons_of_ne (by simpa using h), ← ih]
      have := pieces_ne c l
      split
      · rename_i e; exact absurd e this
      · rename_i e; rw [e]; rfl
theorem pieces_self (c : UInt8) : ∀ l : List UInt8, c ∉ l → pieces c l = [l]
  | [], _ => rfl
  | b :: l, h => by
    rw [pieces, if_neg (fun e => h (by rw [e]; exact List.mem_cons_self)), pieces_self c l (fun e => h (List.mem_cons_of_mem _ e))]
theorem pieces_cut (c : UInt8) (r : List UInt8) : ∀ p : List UInt8, c ∉ p → pieces c (p ++ c :: r) = p :: pieces c r
  | [], _ => by rw [List.nil_append, pieces, if_pos rfl]
  | b :: p, h => by
    rw [List.cons_append, pieces, if_neg (fun e => h (by rw [e]; exact List.mem_cons_self)), pieces_cut c r p (fun e => h (List.mem_cons_of_mem _ e))]
theorem pieces_rows (c : UInt8) : ∀ (ls : List (List UInt8)) (r : List UInt8), (∀ p ∈ ls, c ∉ p) → pieces c (ls.flatMap (fun p => p ++ [c]) ++ r) = ls ++ pieces c r
  | [], r, _ => rfl
  | p :: ls, r, h => by
    rw [List.flatMap_cons, List.append_assoc, List.append_assoc, List.singleton_append, pieces_cut c _ p (h p List.mem_cons_self), pieces_rows c ls r (fun q hq => h q (List.mem_cons_of_mem _ hq))]
    rfl
theorem pieces_behind (c : UInt8) : ∀ (ls : List (List UInt8)) (p : List UInt8), c ∉ p → (∀ q ∈ ls, c ∉ q) → pieces c (p ++ ls.flatMap (fun q => c :: q)) = p :: ls
  | [], p, hp, _ => by rw [List.flatMap_nil, List.append_nil, pieces_self c p hp]
  | q :: ls, p, hp, h => by
    rw [List.flatMap_cons, List.cons_append, pieces_cut c _ p hp, pieces_behind c ls q (h q List.mem_cons_self) (fun x hx => h x (List.mem_cons_of_mem _ hx))]
/-! Numbers. -/
/-- A number without a nought ahead. -/
def numT (s : List UInt8) : Option Int := match atoiAll s with
  | .ok v => if itoa v = s then some v else none
  | _ => none
theorem numT_itoa {s : List UInt8} {v : Int} (h : numT s = some v) : itoa v = s := by
  unfold numT at h
  split at h
  · split at h
    · rename_i e; rw [← Option.some.inj h]; exact e
    · cases h
  · cases h
theorem decFrom_app : ∀ (l r : List UInt8) (a : Nat), decFrom a (l ++ r) = (decFrom a l).bind fun m => decFrom m r
  | [], r, a => rfl
  | b :: l, r, a => by
    rw [List.cons_append, decFrom, decFrom]
    cases digitVal b with
    | none => rfl
    | some d => exact decFrom_app l r _
theorem digitVal_of (d : Nat) (h : d < 10) : digitVal (UInt8.ofNat (48 + d)) = some d := by
  have e : (UInt8.ofNat (48 + d)).toNat = 48 + d := by rw [UInt8.toNat_ofNat']; omega
  rw [digitVal, e, if_pos (by omega)]
  congr 1
  omega
theorem decFrom_digits : ∀ (u : Nat), decFrom 0 (decDigits u) = some u := by
  intro u
  induction u using Nat.strongRecOn with
  | ind u ih =>
    rw [decDigits]
    split
    · rename_i h
      rw [decFrom, digitVal_of u h]
      show some (0 * 10 + u) = some u
      rw [Nat.zero_mul, Nat.zero_add]
    · rename_i h
      rw [decFrom_app, ih (u / 10) (by omega)]
      show decFrom (u / 10) _ = _
      rw [decFrom, digitVal_of (u % 10) (by omega)]
      show some (u / 10 * 10 + u % 10) = some u
      congr 1
      omega
theorem digits_mem : ∀ (u : Nat), ∀ c ∈ decDigits u, 48 ≤ c.toNat ∧ c.toNat ≤ 57 := by
  intro u
  induction u using Nat.strongRecOn with
  | ind u ih =>
    intro c hc
    have one : ∀ d, d < 10 → c = UInt8.ofNat (48 + d) → 48 ≤ c.toNat ∧ c.toNat ≤ 57 := by
      rintro d hd rfl
      rw [UInt8.toNat_ofNat']; omega
    rw [decDigits] at hc
    split at hc
    · rename_i h
      exact one u h (List.mem_singleton.1 hc)
    · rename_i h
      rcases List.mem_append.1 hc with hc | hc
      · exact ih (u / 10) (by omega) c hc
      · exact one _ (by omega) (List.mem_singleton.1 hc)
theorem digits_ne (u : Nat) : decDigits u ≠ [] := by
  rw [decDigits]
  split <;> simp
theorem digits_len (u : Nat) (h : u < 10000) : (decDigits u).length ≤ 4 := by
  have h1 : ∀ u, u < 10 → (decDigits u).length = 1 := fun u h => by rw [decDigits, dif_pos h]; rfl
  have h2 : ∀ u, u < 100 → (decDigits u).length ≤ 2 := fun u h => by
    by_cases h0 : u < 10
    · have := h1 u h0; omega
    · rw [decDigits, dif_neg h0, List.length_append, h1 _ (by omega)]; simp
  have h3 : ∀ u, u < 1000 → (decDigits u).length ≤ 3 := fun u h => by
    by_cases h0 : u < 10
    · have := h1 u h0; omega
    · have := h2 (u / 10) (by omega)
      rw [decDigits, dif_neg h0, List.length_append]; simp; omega
  by_cases h0 : u < 10
  · have := h1 u h0; omega
  · have := h3 (u / 10) (by omega)
    rw [decDigits, dif_neg h0, List.length_append]; simp; omega
theorem itoa_mem (n : Int) : ∀ c ∈ itoa n, (48 ≤ c.toNat ∧ c.toNat ≤ 57) ∨ c.toNat = 45 := by
  intro c hc
  unfold itoa at hc
  split at hc
  · rcases List.mem_cons.1 hc with rfl | hc
    · exact .inr rfl
    · exact .inl (digits_mem _ c hc)
  · exact .inl (digits_mem _ c hc)
theorem itoa_len (n : Int) (h : -10000 < n ∧ n < 10000) : (itoa n).length ≤ 5 := by
  unfold itoa
  split
  · have := digits_len n.natAbs (by omega)
    simp; omega
  · have := digits_len n.toNat (by omega)
    omega
theorem atoi_itoa (n : Int) (h : -10000 < n ∧ n < 10000) : atoiAll (itoa n) = .ok n := by
  have hl := itoa_len n h
  have hd : ∀ u, decNat (decDigits u) = some u := fun u => by
    have hne := digits_ne u
    rw [decNat, decFrom_digits]
    cases hx : decDigits u with
    | nil => exact absurd hx hne
    | cons a l => rfl
  have key : atoi (itoa n) = some n := by
    unfold itoa
    by_cases hn : n < 0
    · rw [if_pos hn, atoi, if_pos (by rfl), hd]
      show some (-(n.natAbs : Int)) = some n
      congr 1
      omega
    · rw [if_neg hn]
      have hm := digits_mem n.toNat
      have hdd := hd n.toNat
      cases hx : decDigits n.toNat with
      | nil => exact absurd hx (digits_ne _)
      | cons a l =>
        rw [hx] at hm hdd
        have ha := hm a List.mem_cons_self
        rw [atoi, if_neg (by intro e; have := beq_iff_eq.1 e; subst this; exact absurd ha.1 (by decide)), if_neg (by intro e; have := beq_iff_eq.1 e; subst this; exact absurd ha.1 (by decide)), hdd]
        show some ((n.toNat : Nat) : Int) = some n
        congr 1
        omega
  rw [atoiAll_short _ (by omega), key]
  rfl
theorem numT_of (n : Int) (h : -10000 < n ∧ n < 10000) : numT (itoa n) = some n := by
  rw [numT, atoi_itoa n h]
  show (if itoa n = itoa n then some n else none) = some n
  rw [if_pos rfl]
/-! Names. -/
abbrev alnumC (c : UInt8) : Prop := (97 ≤ c.toNat ∧ c.toNat ≤ 122) ∨ (48 ≤ c.toNat ∧ c.toNat ≤ 57)
theorem alnum_of {c : UInt8} (h : alnumT.data.toList.contains c = true) : alnumC c := by
  have key : ∀ i : Fin 256, alnumT.data.toList.contains (UInt8.ofNat i.val) = true → alnumC (UInt8.ofNat i.val) := by decide +kernel
  have := key ⟨c.toNat, c.toNat_lt⟩
  rw [UInt8.ofNat_toNat] at this
  exact this h
theorem drop_nil (p : UInt8 → Bool) : ∀ l : List UInt8, l.dropWhile p = [] → ∀ c ∈ l, p c = true
  | [], _, c, hc => by cases hc
  | b :: l, h, c, hc => by
    rw [List.dropWhile_cons] at h
    split at h
    · rename_i hb
      rcases List.mem_cons.1 hc with rfl | hc
      · exact hb
      · exact drop_nil p l h c hc
    · cases h
theorem drop_head (p : UInt8 → Bool) : ∀ l : List UInt8, l.dropWhile p = [] ∨ ∃ b r, l.dropWhile p = b :: r ∧ p b = false
  | [] => .inl rfl
  | b :: l => by
    rw [List.dropWhile_cons]
    split
    · exact drop_head p l
    · rename_i hb; exact .inr ⟨b, l, rfl, by simpa using hb⟩
theorem name_mem {s : ByteArray} (h : nameB s = true) : ∀ c ∈ s.data.toList, alnumC c := by
  simp only [nameB, Bool.and_eq_true, decide_eq_true_eq] at h
  have ht := h.2
  unfold trimS trimLeftS trimRightS at ht
  intro c hc
  rcases drop_head (alnumT.data.toList.contains ·) s.data.toList.reverse with h2 | ⟨b, r, h2, hb⟩
  · exact alnum_of (drop_nil _ _ h2 c (List.mem_reverse.2 hc))
  · have h3 := drop_nil _ _ ht b (List.mem_reverse.2 (by rw [h2]; exact List.mem_cons_self))
    rw [hb] at h3
    cases h3
/-! Items. -/
/-- An item without where it lies. -/
abbrev PItem := ByteArray × ByteArray × List Int
def plainI (x : ItemV) : PItem := (x.name, x.tag, x.ns)
def pitemB (x : PItem) (dim : Int) : Bool := nameB x.1 && (decide (x.2.1 = ⟨#[]⟩) || nameB x.2.1) && decide (1 ≤ dim) && decide (dim ≤ 8) && decide ((x.2.2.length : Int) = dim) && !x.2.2.any farB
theorem pitemB_of (x : ItemV) (dim : Int) : pitemB (plainI x) dim = itemB x dim := rfl
def bodyT (x : PItem) : List UInt8 := x.1.data.toList ++ (x.2.1.data.toList :: x.2.2.map itoa).flatMap (fun q => 32 :: q)
def lineT (x : PItem) : List UInt8 := bodyT x ++ [10]
def dimT : List UInt8 := [100, 105, 109, 32]
def printT (dim : Int) (l : List PItem) : List UInt8 := (dimT ++ itoa dim ++ [10]) ++ l.flatMap lineT
/-- Which rise by name. -/
def risesB : List PItem → Bool
  | [] => true
  | x :: r => (match r with
    | [] => true
    | y :: _ => decide (x.1.data.toList < y.1.data.toList)) && risesB r
def printOk (dim : Int) (l : List PItem) : Bool := decide (1 ≤ dim) && decide (dim ≤ 8) && decide (l.length ≤ 60) && l.all (pitemB · dim) && risesB l
def allNums : List (List UInt8) → Option (List Int)
  | [] => some []
  | t :: r => match numT t with
    | none => none
    | some n => (allNums r).map (n :: ·)
def oneT (t : List UInt8) : Option PItem := match pieces 32 t with
  | a :: b :: c :: r => (allNums (c :: r)).map fun ns => (⟨a.toArray⟩, ⟨b.toArray⟩, ns)
  | _ => none
def allOnes : List (List UInt8) → Option (List PItem)
  | [] => some []
  | t :: r => match oneT t with
    | none => none
    | some x => (allOnes r).map (x :: ·)
def linesOf (s : List UInt8) : List (List UInt8) := (pieces 10 s).tail.dropLast
def headOf (s : List UInt8) : List UInt8 := (pieces 10 s).headD []
def parseT (s : List UInt8) : Option (Int × List PItem) :=
  if hasPrefix (headOf s) dimT then
    match numT (trimPrefix (headOf s) dimT) with
    | none => none
    | some dim => match allOnes (linesOf s) with
      | none => none
      | some l => if printOk dim l = true ∧ printT dim l = s then some (dim, l) else none
  else none
theorem parseT_back {s : List UInt8} {dim : Int} {l : List PItem} (h : parseT s = some (dim, l)) : printOk dim l = true ∧ printT dim l = s := by
  unfold parseT at h
  split at h
  · split at h
    · cases h
    · split at h
      · cases h
      · split at h
        · rename_i e
          simp only [Option.some.injEq, Prod.mk.injEq] at h
          rw [h.1, h.2] at e
          exact e
        · cases h
  · cases h
theorem allNums_of : ∀ ns : List Int, (∀ n ∈ ns, -10000 < n ∧ n < 10000) → allNums (ns.map itoa) = some ns
  | [], _ => rfl
  | n :: ns, h => by
    rw [List.map_cons, allNums, numT_of n (h n List.mem_cons_self), allNums_of ns (fun m hm => h m (List.mem_cons_of_mem _ hm))]
    rfl
theorem far_bound {ns : List Int} (h : ns.any farB = false) : ∀ n ∈ ns, -10000 < n ∧ n < 10000 := by
  intro n hn
  rw [List.any_eq_false] at h
  have := h n hn
  simp only [farB, Bool.or_eq_true, decide_eq_true_eq, not_or] at this
  omega
structure ItemOk (x : PItem) : Prop where
  name : ∀ c ∈ x.1.data.toList, alnumC c
  tag : ∀ c ∈ x.2.1.data.toList, alnumC c
  ns : ∀ n ∈ x.2.2, -10000 < n ∧ n < 10000
  some : x.2.2 ≠ []
theorem itemOk_of {x : PItem} {dim : Int} (h : pitemB x dim = true) : ItemOk x := by
  simp only [pitemB, Bool.and_eq_true, Bool.or_eq_true, decide_eq_true_eq, Bool.not_eq_true'] at h
  obtain ⟨⟨⟨⟨⟨h1, h2⟩, h3⟩, h4⟩, h5⟩, h6⟩ := h
  refine ⟨name_mem h1, ?_, far_bound h6, fun e => by rw [e] at h5; simp at h5; omega⟩
  rcases h2 with h2 | h2
  · rw [h2]; intro c hc; cases hc
  · exact name_mem h2
theorem itoa_no {c : UInt8} (n : Int) (hc : c.toNat = 10 ∨ c.toNat = 32) : c ∉ itoa n := by
  intro h
  have := itoa_mem n c h
  omega
theorem alnum_no {c : UInt8} {l : List UInt8} (h : ∀ c ∈ l, alnumC c) (hc : c.toNat = 10 ∨ c.toNat = 32) : c ∉ l := by
  intro hm
  have := h c hm
  unfold alnumC at this
  omega
theorem body_pieces {x : PItem} (h : ItemOk x) : pieces 32 (bodyT x) = x.1.data.toList :: x.2.1.data.toList :: x.2.2.map itoa := by
  rw [bodyT, pieces_behind 32 _ _ (alnum_no h.name (.inr rfl))]
  intro q hq
  rcases List.mem_cons.1 hq with rfl | hq
  · exact alnum_no h.tag (.inr rfl)
  · obtain ⟨n, _, rfl⟩ := List.mem_map.1 hq
    exact itoa_no n (.inr rfl)
theorem body_no {x : PItem} (h : ItemOk x) : (10 : UInt8) ∉ bodyT x := by
  rw [bodyT, List.mem_append, not_or]
  refine ⟨alnum_no h.name (.inl rfl), fun hm => ?_⟩
  obtain ⟨q, hq, hm⟩ := List.mem_flatMap.1 hm
  rcases List.mem_cons.1 hm with e | hm
  · exact absurd e (by decide)
  rcases List.mem_cons.1 hq with rfl | hq
  · exact alnum_no h.tag (.inl rfl) hm
  · obtain ⟨n, _, rfl⟩ := List.mem_map.1 hq
    exact itoa_no n (.inl rfl) hm
theorem one_body {x : PItem} (h : ItemOk x) : oneT (bodyT x) = some x := by
  rw [oneT, body_pieces h]
  cases hns : x.2.2 with
  | nil => exact absurd hns h.some
  | cons n ns =>
    rw [List.map_cons]
    show Option.map _ (allNums ((n :: ns).map itoa)) = _
    rw [← hns, allNums_of x.2.2 h.ns]
    rfl
theorem ones_bodies : ∀ l : List PItem, (∀ x ∈ l, ItemOk x) → allOnes (l.map bodyT) = some l
  | [], _ => rfl
  | x :: l, h => by
    rw [List.map_cons, allOnes, one_body (h x List.mem_cons_self), ones_bodies l (fun y hy => h y (List.mem_cons_of_mem _ hy))]
    rfl
theorem dim_no (dim : Int) : (10 : UInt8) ∉ dimT ++ itoa dim := by
  rw [List.mem_append, not_or]
  exact ⟨by decide, itoa_no dim (.inl rfl)⟩
theorem print_pieces {dim : Int} {l : List PItem} (h : ∀ x ∈ l, ItemOk x) : pieces 10 (printT dim l) = (dimT ++ itoa dim) :: (l.map bodyT ++ [[]]) := by
  have e : printT dim l = (((dimT ++ itoa dim) :: l.map bodyT).flatMap fun p => p ++ [10]) ++ [] := by
    rw [List.append_nil, List.flatMap_cons, List.flatMap_map]
    rfl
  rw [e, pieces_rows 10 _ _ ?_]
  · rfl
  · intro p hp
    rcases List.mem_cons.1 hp with rfl | hp
    · exact dim_no dim
    · obtain ⟨x, hx, rfl⟩ := List.mem_map.1 hp
      exact body_no (h x hx)
/-- What was written is read so. -/
theorem parse_print {dim : Int} {l : List PItem} (h : printOk dim l = true) : parseT (printT dim l) = some (dim, l) := by
  have h0 := h
  simp only [printOk, Bool.and_eq_true, decide_eq_true_eq] at h
  obtain ⟨⟨⟨⟨h1, h2⟩, h3⟩, h4⟩, h5⟩ := h
  have hok : ∀ x ∈ l, ItemOk x := fun x hx => itemOk_of (List.all_eq_true.1 h4 x hx)
  have hh : headOf (printT dim l) = dimT ++ itoa dim := by rw [headOf, print_pieces hok]; rfl
  have hl : linesOf (printT dim l) = l.map bodyT := by
    rw [linesOf, print_pieces hok, List.tail_cons, List.dropLast_append_of_ne_nil (by simp)]
    simp
  have hp : hasPrefix (dimT ++ itoa dim) dimT = true := by
    simp [hasPrefix, dimT]
  have ht : trimPrefix (dimT ++ itoa dim) dimT = itoa dim := by
    unfold trimPrefix
    rw [hp]
    simp [dimT]
  rw [parseT, hh, hp, if_pos rfl, ht, numT_of dim (by omega)]
  simp only [hl, ones_bodies l hok]
  exact if_pos ⟨h0, trivial⟩
theorem risesB_take : ∀ (l : List PItem) (k : Nat), risesB l = true → risesB (l.take k) = true
  | [], k, _ => by rw [List.take_nil]; rfl
  | x :: r, 0, _ => rfl
  | [x], k + 1, h => by rw [List.take_succ_cons, List.take_nil]; rfl
  | x :: y :: r, k + 1, h => by
    rw [risesB, Bool.and_eq_true] at h
    have ih := risesB_take (y :: r) k h.2
    cases k with
    | zero => rfl
    | succ k =>
      rw [List.take_succ_cons] at ih
      rw [List.take_succ_cons, List.take_succ_cons, risesB, Bool.and_eq_true]
      exact ⟨h.1, ih⟩
theorem printOk_take {dim : Int} {l : List PItem} (h : printOk dim l = true) (k : Nat) : printOk dim (l.take k) = true := by
  simp only [printOk, Bool.and_eq_true, decide_eq_true_eq] at h ⊢
  obtain ⟨⟨⟨⟨h1, h2⟩, h3⟩, h4⟩, h5⟩ := h
  refine ⟨⟨⟨⟨h1, h2⟩, by rw [List.length_take]; omega⟩, ?_⟩, risesB_take l k h5⟩
  exact List.all_eq_true.2 fun x hx => List.all_eq_true.1 h4 x (List.mem_of_mem_take hx)
/-! Cut off. -/
theorem print_rows (dim : Int) (l : List PItem) : printT dim l = ((dimT ++ itoa dim) :: l.map bodyT).flatMap fun p => p ++ [10] := by
  rw [List.flatMap_cons, List.flatMap_map]
  rfl
/-- Rows, cut off behind a row's end. -/
theorem rows_cut (c : UInt8) : ∀ (ls : List (List UInt8)) (k : Nat), (∀ p ∈ ls, c ∉ p) → ((ls.flatMap fun p => p ++ [c]).take k = [] ∨ ((ls.flatMap fun p => p ++ [c]).take k).getLast? = some c) →
    (ls.flatMap fun p => p ++ [c]).take k = (ls.take (((ls.flatMap fun p => p ++ [c]).take k).count c)).flatMap fun p => p ++ [c]
  | [], k, _, _ => by simp
  | p :: ls, k, h, hl => by
    have hp := h p List.mem_cons_self
    rw [List.flatMap_cons] at hl ⊢
    by_cases hk : k ≤ p.length
    · have e : (p ++ [c] ++ ls.flatMap fun p => p ++ [c]).take k = p.take k := by
        rw [List.append_assoc, List.take_append_of_le_length hk]
      rw [e] at hl ⊢
      rcases hl with hl | hl
      · rw [hl]; simp
      · exact absurd (List.mem_of_mem_take (List.mem_of_getLast? hl)) hp
    · have hk2 : p.length + 1 ≤ k := by omega
      have hn : k = (p ++ [c]).length + (k - (p.length + 1)) := by rw [List.length_append, List.length_singleton]; omega
      obtain ⟨m, hm⟩ : ∃ m, m = k - (p.length + 1) := ⟨_, rfl⟩
      rw [← hm] at hn
      have e : (p ++ [c] ++ ls.flatMap fun p => p ++ [c]).take k = (p ++ [c]) ++ (ls.flatMap fun p => p ++ [c]).take m := by
        rw [hn, List.take_length_add_append]
      rw [e] at hl ⊢
      have h2 : (ls.flatMap fun p => p ++ [c]).take m = [] ∨ ((ls.flatMap fun p => p ++ [c]).take m).getLast? = some c := by
        by_cases he : (ls.flatMap fun p => p ++ [c]).take m = []
        · exact .inl he
        · right
          rcases hl with hl | hl
          · simp at hl
          · rw [List.getLast?_append] at hl
            cases hx : ((ls.flatMap fun p => p ++ [c]).take m).getLast? with
            | none => exact absurd (List.getLast?_eq_none_iff.1 hx) he
            | some y => rw [hx] at hl; exact hl
      have ih := rows_cut c ls m (fun q hq => h q (List.mem_cons_of_mem _ hq)) h2
      have hc : (p ++ [c] ++ (ls.flatMap fun p => p ++ [c]).take m).count c = ((ls.flatMap fun p => p ++ [c]).take m).count c + 1 := by
        rw [List.count_append, List.count_append, List.count_eq_zero_of_not_mem hp, List.count_singleton_self]; omega
      rw [hc, List.take_succ_cons, List.flatMap_cons, ← ih]
theorem print_cut {dim : Int} {l : List PItem} (h : printOk dim l = true) (cut k : Nat) (hk : ((printT dim l).take cut).count 10 = k + 1) (hlast : ((printT dim l).take cut).getLast? = some 10) : parseT ((printT dim l).take cut) = some (dim, l.take k) := by
  have h0 := h
  simp only [printOk, Bool.and_eq_true, decide_eq_true_eq] at h
  have hok : ∀ x ∈ l, ItemOk x := fun x hx => itemOk_of (List.all_eq_true.1 h.1.2 x hx)
  have e := rows_cut 10 ((dimT ++ itoa dim) :: l.map bodyT) cut (by
    intro p hp
    rcases List.mem_cons.1 hp with rfl | hp
    · exact dim_no dim
    · obtain ⟨x, hx, rfl⟩ := List.mem_map.1 hp
      exact body_no (hok x hx)) (.inr (by rw [← print_rows]; exact hlast))
  rw [← print_rows, hk, List.take_succ_cons, ← List.map_take, ← print_rows] at e
  rw [e]
  exact parse_print (printOk_take h0 k)
theorem parse_no {s : List UInt8} (h : s.count 10 = 0 ∨ s.getLast? ≠ some 10) : parseT s = none := by
  cases hp : parseT s with
  | none => rfl
  | some y =>
    exfalso
    obtain ⟨dim, l⟩ := y
    have e := (parseT_back hp).2
    have hne : ∀ (p : List UInt8) (ls : List (List UInt8)), ((p :: ls).flatMap fun p => p ++ [10]).getLast? = some (10 : UInt8) := by
      intro p ls
      induction ls generalizing p with
      | nil => simp
      | cons q ls ih =>
        rw [List.flatMap_cons, List.getLast?_append, ih q]
        rfl
    rw [print_rows] at e
    have h1 := hne (dimT ++ itoa dim) (l.map bodyT)
    rw [e] at h1
    rcases h with h | h
    · exact absurd (List.mem_of_getLast? h1) (List.count_eq_zero.1 h)
    · exact h h1
end Go.Cof
