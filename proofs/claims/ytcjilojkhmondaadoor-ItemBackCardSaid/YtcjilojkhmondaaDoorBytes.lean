/-
  DERIVED. A text's bytes as numbers.
-/
set_option linter.unusedVariables false
namespace Go.Cof

/-- A text's bytes as numbers. -/
def bs (s : ByteArray) : List Nat := s.data.toList.map UInt8.toNat
/-- The text of bytes. -/
def txt (l : List Nat) : ByteArray := ⟨(l.map UInt8.ofNat).toArray⟩
def Bytes (l : List Nat) : Prop := ∀ x ∈ l, x < 256

theorem bs_len (s : ByteArray) : (bs s).length = s.size := by
  rw [bs, List.length_map, Array.length_toList]; rfl
theorem bs_bytes (s : ByteArray) : Bytes (bs s) := by
  intro x hx
  simp only [bs, List.mem_map] at hx
  obtain ⟨u, _, rfl⟩ := hx
  exact u.toNat_lt
theorem txt_bs (s : ByteArray) : txt (bs s) = s := by
  have : (bs s).map UInt8.ofNat = s.data.toList := by
    simp only [bs, List.map_map]
    conv => rhs; rw [← List.map_id s.data.toList]
    apply List.map_congr_left
    intro a _
    simp
  simp [txt, this]
theorem bs_txt {l : List Nat} (h : Bytes l) : bs (txt l) = l := by
  simp only [bs, txt, List.map_map]
  conv => rhs; rw [← List.map_id l]
  apply List.map_congr_left
  intro a ha
  have := h a ha
  simp [Nat.mod_eq_of_lt this]
theorem bs_inj {s t : ByteArray} (h : bs s = bs t) : s = t := by rw [← txt_bs s, ← txt_bs t, h]
theorem txt_size (l : List Nat) : (txt l).size = l.length := by
  rw [← bs_len, bs, List.length_map, txt]; simp
theorem bs_getD (s : ByteArray) (i : Nat) (h : i < s.size) : (bs s).getD i 0 = s[i].toNat := by
  have h' : i < s.data.size := h
  have e : s[i] = s.data[i] := rfl
  rw [e, List.getD_eq_getElem?_getD, bs, List.getElem?_map, Array.getElem?_toList, Array.getElem?_eq_getElem h']
  rfl
theorem bs_lt (s : ByteArray) (i : Nat) : (bs s).getD i 0 < 256 := by
  by_cases h : i < s.size
  · rw [bs_getD s i h]; exact s[i].toNat_lt
  · rw [List.getD_eq_getElem?_getD, List.getElem?_eq_none (by rw [bs_len]; omega)]; simp
theorem bs_extract (s : ByteArray) (a b : Nat) : bs (s.extract a b) = ((bs s).drop a).take (b - a) := by
  have : (s.extract a b).data.toList = (s.data.toList.drop a).take (b - a) := by
    rw [ByteArray.data_extract, Array.toList_extract]
  rw [bs, this, List.map_take, List.map_drop]; rfl
theorem bs_append (s t : ByteArray) : bs (s ++ t) = bs s ++ bs t := by simp [bs]

theorem bytes_getD {l : List Nat} (h : Bytes l) (i : Nat) : l.getD i 0 < 256 := by
  rw [List.getD_eq_getElem?_getD]
  cases hx : l[i]? with
  | none => simp
  | some x => exact h x (List.mem_of_getElem? hx)
theorem txt_append (a b : List Nat) : txt a ++ txt b = txt (a ++ b) := by
  apply ByteArray.ext
  simp [txt]
theorem bs_eq_txt {s : ByteArray} {l : List Nat} (h : bs s = l) : s = txt l := by rw [← h, txt_bs]
theorem bytes_take {l : List Nat} (h : Bytes l) (n : Nat) : Bytes (l.take n) := fun x hx => h x (List.mem_of_mem_take hx)
theorem bytes_drop {l : List Nat} (h : Bytes l) (n : Nat) : Bytes (l.drop n) := fun x hx => h x (List.mem_of_mem_drop hx)
theorem bytes_append {a b : List Nat} (h : Bytes a) (k : Bytes b) : Bytes (a ++ b) := fun x hx => (List.mem_append.1 hx).elim (h x) (k x)

end Go.Cof
