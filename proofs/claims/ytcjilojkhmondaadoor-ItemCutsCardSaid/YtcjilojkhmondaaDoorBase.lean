/-
  DERIVED. What a call leaves of the memory that it met: the words of all our contracts.
-/
import Derived.Below
import Derived.WalkKit
import Derived.WalkSmall
import Derived.Deep.WholeRow
import Derived.Laws.BytesArg
import Derived.Laws.AppendOwn
import Derived.Lib.ConvBytes
import Derived.Test.YtcjilojkhmondaaDoorBytes
import Derived.Test.YtcjilojkhmondaaDoorQt
set_option linter.unusedVariables false
set_option linter.unusedSimpArgs false
namespace Go.Cof
open Go.RowKit

/-- w' is w, but for the blocks of S, new blocks, and draws. -/
structure Keep (S : Nat → Prop) (w w' : World) : Prop where
  os : w'.os = w.os
  tape : w'.tape = w.tape
  output : w'.output = w.output
  size : w.heap.size ≤ w'.heap.size
  block : ∀ k, k < w.heap.size → ¬ S k → w'.heap[k]? = w.heap[k]?

/-- No block. -/
def NoB : Nat → Prop := fun _ => False
/-- OneB block. -/
def OneB (b : Nat) : Nat → Prop := fun k => k = b

theorem Keep.refl (S : Nat → Prop) (w : World) : Keep S w w := ⟨rfl, rfl, rfl, Nat.le_refl _, fun _ _ _ => rfl⟩
theorem Keep.trans {S S' : Nat → Prop} {a b c : World} (h : Keep S a b) (k : Keep S' b c) (hs : ∀ i, i < a.heap.size → S' i → S i) : Keep S a c :=
  ⟨k.os.trans h.os, k.tape.trans h.tape, k.output.trans h.output, Nat.le_trans h.size k.size, fun i hi hn =>
    (k.block i (Nat.lt_of_lt_of_le hi h.size) (fun s => hn (hs i hi s))).trans (h.block i hi hn)⟩
theorem Keep.then {S : Nat → Prop} {a b c : World} (h : Keep S a b) (k : Keep S b c) : Keep S a c := h.trans k (fun _ _ s => s)
theorem Keep.thenN {S : Nat → Prop} {a b c : World} (h : Keep S a b) (k : Keep NoB b c) : Keep S a c := h.trans k (fun _ _ s => s.elim)
theorem Keep.mono {S S' : Nat → Prop} {a b : World} (h : Keep S a b) (hs : ∀ i, i < a.heap.size → S i → S' i) : Keep S' a b :=
  ⟨h.os, h.tape, h.output, h.size, fun i hi hn => h.block i hi (fun s => hn (hs i hi s))⟩
theorem Keep.ofN {S : Nat → Prop} {a b : World} (h : Keep NoB a b) : Keep S a b := h.mono (fun _ _ s => s.elim)
theorem Keep.drew {S : Nat → Prop} {a w : World} (h : Keep S a w) : Keep S a w.drew := ⟨h.os, h.tape, h.output, h.size, h.block⟩
theorem Keep.drewN {S : Nat → Prop} {a w : World} (h : Keep S a w) (n : Nat) : Keep S a (w.drewN n) := ⟨h.os, h.tape, h.output, h.size, h.block⟩
theorem Keep.alloc {S : Nat → Prop} {a w : World} (h : Keep S a w) (o : Obj) : Keep S a (w.alloc o) :=
  h.thenN ⟨rfl, rfl, rfl, by simp, fun k hk _ => Below.heap_alloc _ _ _ hk⟩
theorem Keep.setCell {S : Nat → Prop} {a w : World} (h : Keep S a w) {p : Addr} (hp : S p.block ∨ a.heap.size ≤ p.block) (u : Value) : Keep S a (w.setCell p u) := by
  refine ⟨h.os, h.tape, h.output, ?_, ?_⟩
  · have := h.size
    simpa [World.setCell] using this
  · intro k hk hn
    rw [Below.heap_setCell _ _ _ _ (fun e => by rcases hp with hp | hp; exact hn (e ▸ hp); omega)]
    exact h.block k hk hn
theorem Keep.set1 {a w : World} {B : Nat} (h : Keep (OneB B) a w) (i : Nat) (u : Value) : Keep (OneB B) a (w.setCell ⟨B, i, none⟩ u) := h.setCell (p := ⟨B, i, none⟩) (.inl rfl) u
theorem Keep.cell {S : Nat → Prop} {w w' : World} (h : Keep S w w') {p : Addr} (hp : p.block < w.heap.size) (hn : ¬ S p.block) : w'.cell? p = w.cell? p :=
  World.cell?_of_block (w := w) (h.block p.block hp hn)
theorem Keep.frozen {S : Nat → Prop} {w w' : World} (h : Keep S w w') {p : Addr} (hp : p.block < w.heap.size) (hn : ¬ S p.block) : w'.frozen? p = w.frozen? p :=
  World.frozen?_of_block (w := w) (h.block p.block hp hn)
theorem lt_of_heap {w : World} {b : Nat} {o : Obj} (h : w.heap[b]? = some o) : b < w.heap.size := by
  rcases Nat.lt_or_ge b w.heap.size with h' | h'
  · exact h'
  · simp [Array.getElem?_eq_none h'] at h
theorem Keep.heap {S : Nat → Prop} {w w' : World} (h : Keep S w w') {b : Nat} {o : Obj} (hb : w.heap[b]? = some o) (hn : ¬ S b) : w'.heap[b]? = some o :=
  (h.block b (lt_of_heap hb) hn).trans hb
theorem Keep.toBelow {w w' : World} (h : Keep NoB w w') : Below w.heap.size w w' := ⟨h.os, h.tape, h.output, h.size, fun k hk => h.block k hk (fun x => x)⟩
theorem Keep.ofBelow {w w' : World} (h : Below w.heap.size w w') : Keep NoB w w' := ⟨h.os, h.tape, h.output, h.size, fun k hk _ => h.block k hk⟩
/-- A world that is w but for new blocks and draws, as a term that the walk sees through. -/
def Ext (w : World) : Type := { w' : World // Keep NoB w w' }
def _root_.Go.World.ext (w : World) (x : Ext w) : World := x.1
theorem ext_keep (w : World) (x : Ext w) : Keep NoB w (w.ext x) := x.2
theorem ext_of {w w' : World} (h : Keep NoB w w') : ∃ x : Ext w, w' = w.ext x := ⟨⟨w', h⟩, rfl⟩
@[go_sem] theorem cell?_ext (w : World) (x : Ext w) (b o : Nat) (hb : b < w.heap.size) : (w.ext x).cell? ⟨b, o, none⟩ = w.cell? ⟨b, o, none⟩ := (ext_keep w x).cell (p := ⟨b, o, none⟩) hb (fun x => x)
@[go_sem] theorem frozen?_ext (w : World) (x : Ext w) (b o : Nat) (hb : b < w.heap.size) : (w.ext x).frozen? ⟨b, o, none⟩ = w.frozen? ⟨b, o, none⟩ := (ext_keep w x).frozen (p := ⟨b, o, none⟩) hb (fun x => x)

/-- A block of numbers. -/
def ints (k : IntKind) (l : List Nat) : Array Value := (l.map fun (n : Nat) => Value.int k (n : Int)).toArray
def Row (w : World) (B : Nat) (k : IntKind) (T : TypeId) (l : List Nat) : Prop := w.heap[B]? = some (.cells (ints k l) T (0, 0))
theorem Row.lt {w : World} {B : Nat} {k : IntKind} {T : TypeId} {l : List Nat} (h : Row w B k T l) : B < w.heap.size := lt_of_heap h
theorem Row.cell {w : World} {B : Nat} {k : IntKind} {T : TypeId} {l : List Nat} (h : Row w B k T l) (i : Nat) (hi : i < l.length) : w.cell? ⟨B, i, none⟩ = some (.int k ((l.getD i 0 : Nat) : Int)) := by
  unfold Row at h
  simp [World.cell?, h, ints, hi]
theorem Row.free {w : World} {B : Nat} {k : IntKind} {T : TypeId} {l : List Nat} (h : Row w B k T l) (i : Nat) : w.frozen? ⟨B, i, none⟩ = false := by
  unfold Row at h
  simp [World.frozen?, h]
theorem Row.drewN {w : World} {B : Nat} {k : IntKind} {T : TypeId} {l : List Nat} (h : Row w B k T l) (n : Nat) : Row (w.drewN n) B k T l := h
theorem Row.store {w : World} {B : Nat} {k : IntKind} {T : TypeId} {l : List Nat} (h : Row w B k T l) (i : Nat) {v : Int} {n : Nat} (hv : v = (n : Int)) :
    Row (w.setCell ⟨B, i, none⟩ (.int k v)) B k T (l.set i n) := by
  have hlt := h.lt
  unfold Row at h ⊢
  have h' : w.heap[B] = .cells (ints k l) T (0, 0) := by simpa [Array.getElem?_eq_getElem hlt] using h
  show (w.heap.modify B _)[B]? = _
  rw [Array.getElem?_eq_getElem (by simpa using hlt), Array.getElem_modify_self, h', hv]
  simp [ints]
theorem Row.keep {w w' : World} {B : Nat} {k : IntKind} {T : TypeId} {l : List Nat} (h : Row w B k T l) {S : Nat → Prop} (hk : Keep S w w') (hn : ¬ S B) : Row w' B k T l := hk.heap h hn

theorem Row.alloc {w : World} {B : Nat} {k : IntKind} {T : TypeId} {l : List Nat} (h : Row w B k T l) (o : Obj) : Row (w.alloc o) B k T l := (Below.heap_alloc w o B h.lt).trans h
theorem Row.grown {w w' : World} {B : Nat} {k : IntKind} {T : TypeId} {l : List Nat} (h : Row w B k T l) {row : Option Nat} (hg : w.grownBy w' row) (hn : some B ≠ row) : Row w' B k T l := (hg.block B h.lt hn).trans h
/-- A whole row into a block that has as many cells. -/
theorem wpList_store_whole {P : Program} {ops : Array Oper} {rest : List Oper} {o : Oper} {a : Act} {w : World} {Q : Exit → Act → World → Prop} (hgd : o.guard = none) (ty : TypeId) (x y : Operand) (ho : o.op = .store ty x y)
    (g : Nat) (t : TypeId) (cs c' : Array Value) (hx : a.eval x = .pointer (some ⟨g, 0, none⟩)) (hy : a.eval y = .agg c') (hg : w.heap[g]? = some (.cells cs t (0, 0)))
    (hi : (P.info? ty).map (·.size) = some c'.size) (n : Nat) (hn : cs.size = n) (hn' : c'.size = n) (h1 : c'.all (·.oneCell') = true)
    (h : wpList P ops Q rest (a.put o.dst undef) (w.setRow g c')) : wpList P ops Q (o :: rest) a w :=
  wpList_plain hgd fun K hK => by
    unfold Oper.wp execOp
    simp only [ho, hx, hy, Instr.storeAt, Instr.sureAddr, Sem.run_bind, Sem.run_pure, Result.andThen_ok, run_storeVar_row w g t ty cs c' hg hi (hn.trans hn'.symm) h1]
    exact hK _ _ h
theorem heap_setRow {w : World} {g : Nat} {cs c' : Array Value} {t : TypeId} (hg : w.heap[g]? = some (.cells cs t (0, 0))) : (w.setRow g c').heap[g]? = some (.cells c' t (0, 0)) := setRow_heap w g cs c' t _ hg
theorem Keep.setRow {S : Nat → Prop} {a w : World} (h : Keep S a w) {g : Nat} (hg : S g ∨ a.heap.size ≤ g) (c : Array Value) : Keep S a (w.setRow g c) := by
  refine ⟨h.os, h.tape, h.output, ?_, ?_⟩
  · have := h.size
    simpa [World.setRow] using this
  · intro k hk hn
    rw [setRow_other w g k _ (fun e => by subst e; rcases hg with hg | hg; exact hn hg; omega)]
    exact h.block k hk hn
theorem Keep.grown {S : Nat → Prop} {a w w' : World} {row : Option Nat} (h : Keep S a w) (hg : w.grownBy w' row) (hr : ∀ k, row = some k → S k ∨ a.heap.size ≤ k) : Keep S a w' :=
  ⟨hg.os.trans h.os, hg.tape.trans h.tape, hg.output.trans h.output, Nat.le_trans h.size hg.size, fun k hk hn =>
    (hg.block k (Nat.lt_of_lt_of_le hk h.size) (fun e => by rcases hr k e.symm with s | s; exact hn s; omega)).trans (h.block k hk hn)⟩
theorem ints_size (k : IntKind) (l : List Nat) : (ints k l).size = l.length := by simp [ints]
theorem ints_one (k : IntKind) (l : List Nat) : (ints k l).all (·.oneCell') = true := by
  rw [Array.all_eq_true_iff_forall_mem]
  intro v hv
  simp only [ints, List.mem_toArray, List.mem_map] at hv
  obtain ⟨n, _, rfl⟩ := hv
  rfl

/-- An array of numbers, as a value, at an index. -/
theorem run_index_ints {P : Program} {T E : TypeId} {len : Nat} {kd k1 : IntKind} {d : TypeDesc} (hu : P.underlying T = some (.array len E)) (hE : P.underlying E = some d) (hd : d = .int k1) (hs : (P.info? E).map (·.size) = some 1)
    (l : List Nat) (i : Nat) (hl : l.length = len) (hi : i < len) (w : World) : (Instr.index T (.agg (ints kd l)) (.int .i64 i)).run P w = .ok (.int kd ((l.getD i 0 : Nat) : Int)) w := by
  subst hd
  cases hq : P.info? E with
  | none => simp [hq] at hs
  | some inf =>
    have h1 : inf.size = 1 := by simpa [hq] using hs
    have hi' : i < l.length := by omega
    have hc : (ints kd l)[i]? = some (.int kd ((l.getD i 0 : Nat) : Int)) := by simp [ints, hi']
    have hii : (i : Int) < (len : Int) := by omega
    simp [Instr.index, asIntOf, run_underlying hu, run_underlying hE, sizeOf, typeInfo, hq, h1, part, isAgg, hc, hi]

/-- The cells of a block that has just been made. -/
theorem cells_new (w : World) (news : List Value) (t : TypeId) : ∀ (j : Nat) (u : Value), news[j]? = some u → (w.alloc (.cells news.toArray t)).cell? ((⟨w.heap.size, 0, none⟩ : Addr).add j) = some u := by
  intro j u hu
  have hadd : (⟨w.heap.size, 0, none⟩ : Addr).add j = ⟨w.heap.size, j, none⟩ := by unfold Addr.add; split <;> simp_all
  rw [hadd, cell_of_row _ _ j _ t (0, 0) (heap_alloc_new w _)]
  simpa using hu
theorem ones4 (k : IntKind) (a b c d : Int) : ∀ u ∈ [Value.int k a, Value.int k b, Value.int k c, Value.int k d], u.oneCell' = true := by
  intro u hu
  simp only [List.mem_cons, List.not_mem_nil, or_false] at hu
  rcases hu with rfl | rfl | rfl | rfl <;> rfl
theorem ones2 (k : IntKind) (a b : Int) : ∀ u ∈ [Value.int k a, Value.int k b], u.oneCell' = true := by
  intro u hu
  simp only [List.mem_cons, List.not_mem_nil, or_false] at hu
  rcases hu with rfl | rfl <;> rfl
theorem ones1 (k : IntKind) (a : Int) : ∀ u ∈ [Value.int k a], u.oneCell' = true := by
  intro u hu
  simp only [List.mem_cons, List.not_mem_nil, or_false] at hu
  subst hu; rfl

/-- The cells of bytes. -/
def u8s (l : List Nat) : List Value := l.map fun (x : Nat) => Value.int .u8 (x : Int)
theorem u8s_len (l : List Nat) : (u8s l).length = l.length := by simp [u8s]
theorem u8s_append (a b : List Nat) : u8s (a ++ b) = u8s a ++ u8s b := by simp [u8s]
theorem strOf_txt (l : List Nat) : strOfNums (l.map fun (x : Nat) => (x : Int)) = txt l := by
  unfold strOfNums txt
  rw [List.map_map]
  rfl
/-- 'string(b)' at a row of the call's own. -/
theorem run_string_own {P : Program} {w : World} {base : Nat} {E : TypeId} {v : Value} {l : List Nat} {src dst : TypeId} (h : w.ownsRow base E 1 v l.length (u8s l))
    (hs : P.underlying src = some (.slice E)) (he : P.underlying E = some (.int .u8)) (hd : P.underlying dst = some .string) : (convert src dst v).run P w = .ok (.string (txt l)) w := by
  rcases h.2 with ⟨rfl, hn⟩ | ⟨g, cap, cur, rfl, _, hg, _, _, _, htake⟩
  · have : l = [] := List.eq_nil_of_length_eq_zero hn
    subst this
    exact run_convert_bytes_nil w src E hs he 0 0 dst hd
  · rw [run_convert_bytes_arg w src E hs he g 0 l.length cap (l.map fun (x : Nat) => (x : Int)) (by simp) ?_ dst hd, strOf_txt]
    intro i hi
    rw [Nat.zero_add, cell_of_row w g i cur E (0, 0) hg]
    have h1 : (cur.toList.take (l.length * 1))[i]? = (u8s l)[i]? := by rw [htake]
    rw [List.getElem?_take, if_pos (by omega)] at h1
    simp only [Array.getElem?_toList] at h1
    rw [h1]
    simp [u8s, hi]

/-- A block whose first cells are these bytes, none of them frozen. -/
def BRow (w : World) (B : Nat) (E : TypeId) (l : List Nat) : Prop :=
  ∃ cur fr, w.heap[B]? = some (.cells cur E fr) ∧ cur.toList.take l.length = u8s l ∧ ∀ i, i < l.length → (decide (fr.1 ≤ i) && decide (i < fr.2)) = false
theorem BRow.lt {w : World} {B : Nat} {E : TypeId} {l : List Nat} (h : BRow w B E l) : B < w.heap.size := by
  obtain ⟨cur, fr, hb, _⟩ := h
  exact lt_of_heap hb
theorem take_at {cur : Array Value} {l : List Nat} (h : cur.toList.take l.length = u8s l) (i : Nat) (hi : i < l.length) : cur[i]? = some (.int .u8 ((l.getD i 0 : Nat) : Int)) := by
  have h1 : (cur.toList.take l.length)[i]? = (u8s l)[i]? := by rw [h]
  rw [List.getElem?_take, if_pos hi] at h1
  simp only [Array.getElem?_toList] at h1
  rw [h1]
  simp [u8s, hi]
theorem BRow.cell {w : World} {B : Nat} {E : TypeId} {l : List Nat} (h : BRow w B E l) (i : Nat) (hi : i < l.length) : w.cell? ⟨B, i, none⟩ = some (.int .u8 ((l.getD i 0 : Nat) : Int)) := by
  obtain ⟨cur, fr, hb, ht, _⟩ := h
  rw [cell_of_row w B i cur E fr hb]
  exact take_at ht i hi
theorem BRow.free {w : World} {B : Nat} {E : TypeId} {l : List Nat} (h : BRow w B E l) (i : Nat) (hi : i < l.length) : w.frozen? ⟨B, i, none⟩ = false := by
  obtain ⟨cur, fr, hb, _, hf⟩ := h
  obtain ⟨lo, hi'⟩ := fr
  simpa [World.frozen?, hb] using hf i hi
theorem BRow.drewN {w : World} {B : Nat} {E : TypeId} {l : List Nat} (h : BRow w B E l) (n : Nat) : BRow (w.drewN n) B E l := h
theorem BRow.store {w : World} {B : Nat} {E : TypeId} {l : List Nat} (h : BRow w B E l) (i : Nat) (hi : i < l.length) {v : Int} {n : Nat} (hv : v = (n : Int)) : BRow (w.setCell ⟨B, i, none⟩ (.int .u8 v)) B E (l.set i n) := by
  obtain ⟨cur, fr, hb, ht, hf⟩ := h
  have hlt := lt_of_heap hb
  refine ⟨cur.setIfInBounds i (.int .u8 v), fr, ?_, ?_, ?_⟩
  · have h' : w.heap[B] = .cells cur E fr := by simpa [Array.getElem?_eq_getElem hlt] using hb
    show (w.heap.modify B _)[B]? = _
    rw [Array.getElem?_eq_getElem (by simpa using hlt), Array.getElem_modify_self, h']
    rfl
  · rw [List.length_set, Array.toList_setIfInBounds, List.take_set, ht, hv]
    simp [u8s, List.map_set]
  · intro j hj
    exact hf j (by simpa using hj)
theorem BRow.keep {w w' : World} {B : Nat} {E : TypeId} {l : List Nat} (h : BRow w B E l) {S : Nat → Prop} (hk : Keep S w w') (hn : ¬ S B) : BRow w' B E l := by
  obtain ⟨cur, fr, hb, r⟩ := h
  exact ⟨cur, fr, hk.heap hb hn, r⟩
theorem BRow.ofBytes (w : World) (E : TypeId) (s : ByteArray) : BRow (Lib.bytesWorld w E s) w.heap.size E (bs s) := by
  refine ⟨_, _, Lib.bytesWorld_at_new w E s, ?_, ?_⟩
  · rw [bs_len]
    unfold Lib.bytesCells
    rw [Array.toList_append]
    have e : (Array.map (fun b => Value.int .u8 (b.toNat : Int)) s.data).toList = u8s (bs s) := by
      simp [u8s, bs, List.map_map]
    have el : (u8s (bs s)).length = s.size := by rw [u8s_len, bs_len]
    rw [e, List.take_append_of_le_length (by omega), List.take_of_length_le (by omega)]
  · intro i hi
    have : i < (Lib.bytesCells w E s).size := by
      unfold Lib.bytesCells
      rw [bs_len] at hi
      have e : s.data.size = s.size := rfl
      simp only [Array.size_append, Array.size_map]
      omega
    simp
    omega
theorem Keep.bytesWorld {S : Nat → Prop} {a w : World} (h : Keep S a w) (E : TypeId) (s : ByteArray) : Keep S a (Lib.bytesWorld w E s) := by
  refine h.thenN ⟨?_, ?_, ?_, ?_, ?_⟩
  · rfl
  · rfl
  · rfl
  · rw [Lib.bytesWorld_size]; omega
  · intro k hk _
    exact Lib.bytesWorld_at_old w E s k hk
/-- 'string(b)' at such a block. -/
theorem run_string_row {P : Program} {w : World} {B cap : Nat} {E : TypeId} {l : List Nat} {src dst : TypeId} (h : BRow w B E l)
    (hs : P.underlying src = some (.slice E)) (he : P.underlying E = some (.int .u8)) (hd : P.underlying dst = some .string) : (convert src dst (.slice (some ⟨B, 0, none⟩) l.length cap)).run P w = .ok (.string (txt l)) w := by
  rw [run_convert_bytes_arg w src E hs he B 0 l.length cap (l.map fun (x : Nat) => (x : Int)) (by simp) ?_ dst hd, strOf_txt]
  intro i hi
  rw [Nat.zero_add, h.cell i hi]
  simp [hi]

/-- A text's byte. -/
theorem run_index_text {P : Program} {T : TypeId} (hu : P.underlying T = some .string) (s : ByteArray) (k : IntKind) (i : Int) (n : Nat) (hi : i = n) (hn : n < s.size) (w : World) :
    (Instr.index T (.string s) (.int k i)).run P w = .ok (.int .u8 (((bs s).getD n 0 : Nat) : Int)) w := by
  subst hi
  rw [bs_getD s n hn]
  simp [Instr.index, asIntOf, run_underlying hu, hn]

/-- 'string([]byte{x})'. -/
theorem run_string_one {P : Program} (w : World) {E : TypeId} {src dst : TypeId} (hs : P.underlying src = some (.slice E)) (he : P.underlying E = some (.int .u8)) (hd : P.underlying dst = some .string) (x : Int) (n : Nat) (hx : x = n) :
    (convert src dst (.slice (some ⟨w.heap.size, 0, none⟩) 1 1)).run P (w.alloc (.cells #[.int .u8 x] E)) = .ok (.string (txt [n])) (w.alloc (.cells #[.int .u8 x] E)) := by
  subst hx
  exact run_string_row (l := [n]) ⟨_, _, heap_alloc_new w _, rfl, fun i _ => by simp⟩ hs he hd

/-- Numbers of a kind, as cells. -/
def cellsOf (k : IntKind) (l : List Nat) : List Value := l.map fun (x : Nat) => Value.int k (x : Int)
theorem cellsOf_len (k : IntKind) (l : List Nat) : (cellsOf k l).length = l.length := by simp [cellsOf]
theorem cellsOf_append (k : IntKind) (a b : List Nat) : cellsOf k (a ++ b) = cellsOf k a ++ cellsOf k b := by simp [cellsOf]
theorem cellsOf_get (k : IntKind) (l : List Nat) (i : Nat) (h : i < l.length) : (cellsOf k l)[i]? = some (.int k ((l.getD i 0 : Nat) : Int)) := by simp [cellsOf, h]
/-- A block whose first cells are these numbers, none of them frozen. -/
def PRow (w : World) (B : Nat) (E : TypeId) (k : IntKind) (l : List Nat) : Prop :=
  ∃ cur fr, w.heap[B]? = some (.cells cur E fr) ∧ cur.toList.take l.length = cellsOf k l ∧ ∀ i, i < l.length → (decide (fr.1 ≤ i) && decide (i < fr.2)) = false
theorem PRow.lt {w : World} {B : Nat} {E : TypeId} {k : IntKind} {l : List Nat} (h : PRow w B E k l) : B < w.heap.size := by
  obtain ⟨cur, fr, hb, _⟩ := h
  exact lt_of_heap hb
theorem PRow.cell {w : World} {B : Nat} {E : TypeId} {k : IntKind} {l : List Nat} (h : PRow w B E k l) (i : Nat) (hi : i < l.length) : w.cell? ⟨B, i, none⟩ = some (.int k ((l.getD i 0 : Nat) : Int)) := by
  obtain ⟨cur, fr, hb, ht, _⟩ := h
  rw [cell_of_row w B i cur E fr hb]
  have h1 : (cur.toList.take l.length)[i]? = (cellsOf k l)[i]? := by rw [ht]
  rw [List.getElem?_take, if_pos hi, cellsOf_get k l i hi] at h1
  simpa using h1
theorem PRow.free {w : World} {B : Nat} {E : TypeId} {k : IntKind} {l : List Nat} (h : PRow w B E k l) (i : Nat) (hi : i < l.length) : w.frozen? ⟨B, i, none⟩ = false := by
  obtain ⟨cur, fr, hb, _, hf⟩ := h
  obtain ⟨lo, hi'⟩ := fr
  simpa [World.frozen?, hb] using hf i hi
theorem PRow.drewN {w : World} {B : Nat} {E : TypeId} {k : IntKind} {l : List Nat} (h : PRow w B E k l) (n : Nat) : PRow (w.drewN n) B E k l := h
theorem PRow.store {w : World} {B : Nat} {E : TypeId} {k : IntKind} {l : List Nat} (h : PRow w B E k l) (i : Nat) {v : Int} {n : Nat} (hv : v = (n : Int)) : PRow (w.setCell ⟨B, i, none⟩ (.int k v)) B E k (l.set i n) := by
  obtain ⟨cur, fr, hb, ht, hf⟩ := h
  have hlt := lt_of_heap hb
  refine ⟨cur.setIfInBounds i (.int k v), fr, ?_, ?_, ?_⟩
  · have h' : w.heap[B] = .cells cur E fr := by simpa [Array.getElem?_eq_getElem hlt] using hb
    show (w.heap.modify B _)[B]? = _
    rw [Array.getElem?_eq_getElem (by simpa using hlt), Array.getElem_modify_self, h']
    rfl
  · rw [List.length_set, Array.toList_setIfInBounds, List.take_set, ht, hv]
    simp [cellsOf, List.map_set]
  · intro j hj
    exact hf j (by simpa using hj)
theorem PRow.keep {w w' : World} {B : Nat} {E : TypeId} {k : IntKind} {l : List Nat} (h : PRow w B E k l) {S : Nat → Prop} (hk : Keep S w w') (hn : ¬ S B) : PRow w' B E k l := by
  obtain ⟨cur, fr, hb, r⟩ := h
  exact ⟨cur, fr, hk.heap hb hn, r⟩
theorem PRow.ofOwn {w : World} {base : Nat} {E : TypeId} {k : IntKind} {l : List Nat} {g cap : Nat} (h : w.ownsRow base E 1 (.slice (some ⟨g, 0, none⟩) l.length cap) l.length (cellsOf k l)) : PRow w g E k l := by
  rcases h.2 with ⟨h, _⟩ | ⟨g', cap', cur, hv, _, hg, _, _, _, ht⟩
  · cases h
  · cases hv
    refine ⟨cur, (0, 0), hg, by rw [Nat.mul_one] at ht; exact ht, fun i _ => by simp⟩
/-- What an owned row that is not empty is. -/
theorem own_some {w : World} {base : Nat} {E : TypeId} {size : Nat} {v : Value} {n : Nat} {xs : List Value} (h : w.ownsRow base E size v n xs) (hn : 0 < n) : ∃ g cap, v = .slice (some ⟨g, 0, none⟩) n cap ∧ base ≤ g := by
  rcases h.2 with ⟨_, h0⟩ | ⟨g, cap, cur, hv, hb, _⟩
  · omega
  · exact ⟨g, cap, hv, hb⟩
theorem u8s_cellsOf (l : List Nat) : u8s l = cellsOf .u8 l := rfl
theorem Keep.ownsRow {S : Nat → Prop} {w w' : World} (hk : Keep S w w') {base : Nat} {E : TypeId} {size : Nat} {v : Value} {n : Nat} {xs : List Value} (h : w.ownsRow base E size v n xs) (hn : ∀ b, v.ownBlock = some b → ¬ S b) : w'.ownsRow base E size v n xs := by
  refine ⟨h.1, ?_⟩
  rcases h.2 with h2 | ⟨g, cap, cur, hv, hg, hh, r⟩
  · exact .inl h2
  · subst hv
    exact .inr ⟨g, cap, cur, rfl, hg, hk.heap hh (hn g rfl), r⟩

/-- The world under a new name, of which this is known. -/
theorem wp_world {P : Program} {c : Code} {Q : Exit → Act → World → Prop} {a : Act} {w : World} (R : World → Prop) (h : R w) (k : ∀ w1, R w1 → Code.wp P c Q a w1) : Code.wp P c Q a w := k w h

end Go.Cof
