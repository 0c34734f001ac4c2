/-
  Slices that may be nil; memory of a call's own; marking.
-/
import Derived.Deep.OwnRows
import Derived.Test.YthlafeefjonkdaaDoorJx0
namespace Go.Proofs.YthlafeefjonkdaaDoor
set_option linter.unusedVariables false
set_option linter.unusedSimpArgs false
open Go.RowKit

theorem IntsAt.block {w w' : World} {b o : Nat} {l : List Int} (h : IntsAt w b o l) (e : w'.heap[b]? = w.heap[b]?) : IntsAt w' b o l := fun i hi => by
  rw [World.cell?_of_block (w := w) (a := ⟨b, o + i, none⟩) e]; exact h i hi

/-- v is a slice that holds the integers l, nil perhaps -/
def IntsR (w : World) (v : Value) (l : List Int) : Prop := ∃ a c, v = .slice a l.length c ∧ (l ≠ [] → ∃ b o, a = some ⟨b, o, none⟩ ∧ IntsAt w b o l)
theorem IntsR.ext {w w' : World} {v : Value} {l : List Int} (h : IntsR w v l) (hx : Ext w w') : IntsR w' v l := by
  obtain ⟨a, c, rfl, h⟩ := h
  refine ⟨a, c, rfl, fun hl => ?_⟩
  obtain ⟨b, o, rfl, hc⟩ := h hl
  exact ⟨b, o, rfl, hc.ext hx⟩
theorem Ints.toR {w : World} {v : Value} {l : List Int} (h : Ints w v l) : IntsR w v l := by
  obtain ⟨-, b, o, c, rfl, hc⟩ := h
  exact ⟨_, c, rfl, fun _ => ⟨b, o, rfl, hc⟩⟩
/-- v is a slice of slices that hold the rows of t, nil perhaps -/
def RowsR (w : World) (v : Value) (t : List (List Int)) : Prop :=
  ∃ a c, v = .slice a t.length c ∧ (t ≠ [] → ∃ b o, a = some ⟨b, o, none⟩ ∧ ∀ i, i < t.length → ∃ r, w.cell? ⟨b, o + i, none⟩ = some r ∧ IntsR w r (row t i))
theorem RowsR.ext {w w' : World} {v : Value} {t : List (List Int)} (h : RowsR w v t) (hx : Ext w w') : RowsR w' v t := by
  obtain ⟨a, c, rfl, h⟩ := h
  refine ⟨a, c, rfl, fun hl => ?_⟩
  obtain ⟨b, o, rfl, hc⟩ := h hl
  refine ⟨b, o, rfl, fun i hi => ?_⟩
  obtain ⟨r, h1, h2⟩ := hc i hi
  exact ⟨r, hx.cell h1, h2.ext hx⟩
theorem Rows.toR {w : World} {v : Value} {t : List (List Int)} (h : Rows w v t) : RowsR w v t := by
  obtain ⟨-, b, o, c, rfl, hc⟩ := h
  refine ⟨_, c, rfl, fun _ => ⟨b, o, rfl, fun i hi => ?_⟩⟩
  obtain ⟨r, h1, h2⟩ := hc i hi
  exact ⟨r, h1, h2.toR⟩
theorem ne_nil_of_lt {α : Type} {l : List α} {k : Nat} (h : k < l.length) : l ≠ [] := fun e => by subst e; simp at h
theorem RowsR.nil (w : World) (c : Nat) : RowsR w (.slice none 0 c) [] := ⟨none, c, rfl, fun h => absurd rfl h⟩
theorem IntsR.nil (w : World) (c : Nat) : IntsR w (.slice none 0 c) [] := ⟨none, c, rfl, fun h => absurd rfl h⟩

/-- no list of the table is long -/
def Small (t : List (List Int)) : Prop := t.length ≤ 1048576 ∧ ∀ i, (row t i).length ≤ 1048576

/-- the cells may be written -/
def FreeAt (w : World) (b o n : Nat) : Prop := ∀ i, i < n → w.frozen? ⟨b, o + i, none⟩ = false
theorem FreeAt.block {w w' : World} {b o n : Nat} (h : FreeAt w b o n) (e : w'.heap[b]? = w.heap[b]?) : FreeAt w' b o n := fun i hi => by
  rw [World.frozen?_of_block (w := w) (a := ⟨b, o + i, none⟩) e]; exact h i hi

/-- a slice of integers in memory of the call's own -/
def OwnI (lo hi : Nat) (w : World) (b o : Nat) (l : List Int) : Prop := lo ≤ b ∧ b < hi ∧ IntsAt w b o l ∧ FreeAt w b o l.length
theorem OwnI.block {lo hi : Nat} {w w' : World} {b o : Nat} {l : List Int} (h : OwnI lo hi w b o l) (e : w'.heap[b]? = w.heap[b]?) : OwnI lo hi w' b o l := ⟨h.1, h.2.1, h.2.2.1.block e, h.2.2.2.block e⟩
/-- .. nil perhaps -/
def OwnIV (lo hi : Nat) (w : World) (v : Value) (l : List Int) : Prop := l.length ≤ 1048576 ∧ ∃ a c, v = .slice a l.length c ∧ (l ≠ [] → ∃ b o, a = some ⟨b, o, none⟩ ∧ OwnI lo hi w b o l)

/-- a table in memory of the call's own: the rows apart from each other and from the outer slice -/
def OwnT (lo hi : Nat) (w : World) (b o : Nat) (t : List (List Int)) : Prop := lo ≤ b ∧ b < hi ∧ ∃ B O C : Nat → Nat,
  (∀ i, i < t.length → w.cell? ⟨b, o + i, none⟩ = some (.slice (some ⟨B i, O i, none⟩) (row t i).length (C i)) ∧ OwnI lo hi w (B i) (O i) (row t i) ∧ B i ≠ b) ∧
  (∀ i j, i < t.length → j < t.length → B i = B j → i = j) ∧ FreeAt w b o t.length
/-- .. nil perhaps -/
def OwnV (lo hi : Nat) (w : World) (v : Value) (t : List (List Int)) : Prop := Small t ∧ ∃ a c, v = .slice a t.length c ∧ (t ≠ [] → ∃ b o, a = some ⟨b, o, none⟩ ∧ OwnT lo hi w b o t)

theorem OwnT.keep {lo hi : Nat} {w w' : World} {b o : Nat} {t : List (List Int)} (h : OwnT lo hi w b o t) (e : ∀ k, lo ≤ k → k < hi → w'.heap[k]? = w.heap[k]?) : OwnT lo hi w' b o t := by
  obtain ⟨h1, h2, B, O, C, h3, h4⟩ := h
  refine ⟨h1, h2, B, O, C, fun i hi => ?_, h4.1, h4.2.block (e b h1 h2)⟩
  obtain ⟨a1, a2, a3⟩ := h3 i hi
  exact ⟨by rw [World.cell?_of_block (w := w) (a := ⟨b, o + i, none⟩) (e b h1 h2)]; exact a1, a2.block (e _ a2.1 a2.2.1), a3⟩
theorem OwnV.keep {lo hi : Nat} {w w' : World} {v : Value} {t : List (List Int)} (h : OwnV lo hi w v t) (e : ∀ k, lo ≤ k → k < hi → w'.heap[k]? = w.heap[k]?) : OwnV lo hi w' v t := by
  obtain ⟨h0, a, c, rfl, h⟩ := h
  refine ⟨h0, a, c, rfl, fun hl => ?_⟩
  obtain ⟨b, o, rfl, hc⟩ := h hl
  exact ⟨b, o, rfl, hc.keep e⟩
theorem OwnIV.keep {lo hi : Nat} {w w' : World} {v : Value} {l : List Int} (h : OwnIV lo hi w v l) (e : ∀ k, lo ≤ k → k < hi → w'.heap[k]? = w.heap[k]?) : OwnIV lo hi w' v l := by
  obtain ⟨h0, a, c, rfl, h⟩ := h
  refine ⟨h0, a, c, rfl, fun hl => ?_⟩
  obtain ⟨b, o, rfl, hc⟩ := h hl
  exact ⟨b, o, rfl, hc.block (e b hc.1 hc.2.1)⟩
theorem OwnV.ext {lo hi : Nat} {w w' : World} {v : Value} {t : List (List Int)} (h : OwnV lo hi w v t) (hx : Ext w w') (hh : hi ≤ w.heap.size) : OwnV lo hi w' v t := h.keep fun k _ hk => hx.block k (by omega)
theorem OwnIV.ext {lo hi : Nat} {w w' : World} {v : Value} {l : List Int} (h : OwnIV lo hi w v l) (hx : Ext w w') (hh : hi ≤ w.heap.size) : OwnIV lo hi w' v l := h.keep fun k _ hk => hx.block k (by omega)
theorem OwnT.mono {lo hi lo' hi' : Nat} {w : World} {b o : Nat} {t : List (List Int)} (h : OwnT lo hi w b o t) (h1 : lo' ≤ lo) (h2 : hi ≤ hi') : OwnT lo' hi' w b o t := by
  obtain ⟨g1, g2, B, O, C, g3, g4⟩ := h
  refine ⟨by omega, by omega, B, O, C, fun i hi => ?_, g4⟩
  obtain ⟨a1, ⟨a2, a2', a2''⟩, a3⟩ := g3 i hi
  exact ⟨a1, ⟨by omega, by omega, a2''⟩, a3⟩
/-- a store elsewhere -/
theorem OwnT.setOther {lo hi : Nat} {w : World} {b o : Nat} {t : List (List Int)} (h : OwnT lo hi w b o t) {a : Addr} (ha : a.block < lo ∨ hi ≤ a.block) (u : Value) : OwnT lo hi (w.setCell a u) b o t :=
  h.keep fun k h1 h2 => Below.heap_setCell _ _ _ _ (by omega)
theorem OwnV.mono {lo hi lo' hi' : Nat} {w : World} {v : Value} {t : List (List Int)} (h : OwnV lo hi w v t) (h1 : lo' ≤ lo) (h2 : hi ≤ hi') : OwnV lo' hi' w v t := by
  obtain ⟨h0, a, c, rfl, h⟩ := h
  refine ⟨h0, a, c, rfl, fun hl => ?_⟩
  obtain ⟨b, o, rfl, g1, g2, B, O, C, g3, g4⟩ := h hl
  refine ⟨b, o, rfl, by omega, by omega, B, O, C, fun i hi => ?_, g4⟩
  obtain ⟨a1, ⟨a2, a2', a2''⟩, a3⟩ := g3 i hi
  exact ⟨a1, ⟨by omega, by omega, a2''⟩, a3⟩
theorem OwnIV.mono {lo hi lo' hi' : Nat} {w : World} {v : Value} {l : List Int} (h : OwnIV lo hi w v l) (h1 : lo' ≤ lo) (h2 : hi ≤ hi') : OwnIV lo' hi' w v l := by
  obtain ⟨h0, a, c, rfl, h⟩ := h
  refine ⟨h0, a, c, rfl, fun hl => ?_⟩
  obtain ⟨b, o, rfl, g1, g2, g3⟩ := h hl
  exact ⟨b, o, rfl, by omega, by omega, g3⟩
theorem OwnT.rowsAt {lo hi : Nat} {w : World} {b o : Nat} {t : List (List Int)} (h : OwnT lo hi w b o t) (hs : Small t) : RowsAt w b o t := fun i hi => by
  obtain ⟨-, -, B, O, C, h3, -⟩ := h
  obtain ⟨a1, a2, -⟩ := h3 i hi
  exact ⟨_, a1, hs.2 i, _, _, _, rfl, a2.2.2.1⟩
theorem OwnV.toR {lo hi : Nat} {w : World} {v : Value} {t : List (List Int)} (h : OwnV lo hi w v t) : RowsR w v t := by
  obtain ⟨h0, a, c, rfl, h⟩ := h
  refine ⟨a, c, rfl, fun hl => ?_⟩
  obtain ⟨b, o, rfl, hc⟩ := h hl
  refine ⟨b, o, rfl, fun i hi => ?_⟩
  obtain ⟨r, g1, g2⟩ := hc.rowsAt h0 i hi
  exact ⟨r, g1, g2.toR⟩
theorem OwnIV.toR {lo hi : Nat} {w : World} {v : Value} {l : List Int} (h : OwnIV lo hi w v l) : IntsR w v l := by
  obtain ⟨h0, a, c, rfl, h⟩ := h
  refine ⟨a, c, rfl, fun hl => ?_⟩
  obtain ⟨b, o, rfl, hc⟩ := h hl
  exact ⟨b, o, rfl, hc.2.2.1⟩
theorem small_nil : Small [] := ⟨by simp, fun i => by rw [row_eq]; simp⟩
theorem OwnV.nil (lo hi : Nat) (w : World) : OwnV lo hi w (.slice none 0 0) [] := ⟨small_nil, none, 0, rfl, fun h => absurd rfl h⟩
theorem OwnIV.nil (lo hi : Nat) (w : World) : OwnIV lo hi w (.slice none 0 0) [] := ⟨by simp, none, 0, rfl, fun h => absurd rfl h⟩

/-- w' is w but for what lies in the blocks lo .. hi - 1 -/
structure Marked (lo hi : Nat) (w w' : World) : Prop where
  os : w'.os = w.os
  tape : w'.tape = w.tape
  output : w'.output = w.output
  size : w'.heap.size = w.heap.size
  block : ∀ k, ¬ (lo ≤ k ∧ k < hi) → w'.heap[k]? = w.heap[k]?
theorem Marked.refl (lo hi : Nat) (w : World) : Marked lo hi w w := ⟨rfl, rfl, rfl, rfl, fun _ _ => rfl⟩
theorem Marked.trans {lo hi : Nat} {a b c : World} (h : Marked lo hi a b) (k : Marked lo hi b c) : Marked lo hi a c :=
  ⟨k.os.trans h.os, k.tape.trans h.tape, k.output.trans h.output, k.size.trans h.size, fun i hi => (k.block i hi).trans (h.block i hi)⟩
theorem Marked.mono {lo hi lo' hi' : Nat} {a b : World} (h : Marked lo hi a b) (h1 : lo' ≤ lo) (h2 : hi ≤ hi') : Marked lo' hi' a b :=
  ⟨h.os, h.tape, h.output, h.size, fun k hk => h.block k (by omega)⟩
theorem Marked.setCell {lo hi : Nat} {a b : World} (h : Marked lo hi a b) {p : Addr} (h1 : lo ≤ p.block) (h2 : p.block < hi) (u : Value) : Marked lo hi a (b.setCell p u) :=
  h.trans ⟨rfl, rfl, rfl, by simp, fun k hk => Below.heap_setCell _ _ _ _ (by omega)⟩
/-- w' has grown out of w; what was there is as it was but for the blocks lo .. hi - 1 -/
structure Touch (lo hi : Nat) (w w' : World) : Prop where
  os : w'.os = w.os
  tape : w'.tape = w.tape
  output : w'.output = w.output
  size : w.heap.size ≤ w'.heap.size
  block : ∀ k, k < w.heap.size → ¬ (lo ≤ k ∧ k < hi) → w'.heap[k]? = w.heap[k]?
theorem Touch.of_ext {lo hi : Nat} {w w' : World} (h : Ext w w') : Touch lo hi w w' := ⟨h.os, h.tape, h.output, h.size, fun k hk _ => h.block k hk⟩
theorem Touch.of_marked {lo hi : Nat} {w w' : World} (h : Marked lo hi w w') : Touch lo hi w w' := ⟨h.os, h.tape, h.output, by rw [h.size]; exact Nat.le_refl _, fun k _ hk => h.block k hk⟩
theorem Touch.trans {lo hi : Nat} {a b c : World} (h : Touch lo hi a b) (k : Touch lo hi b c) : Touch lo hi a c :=
  ⟨k.os.trans h.os, k.tape.trans h.tape, k.output.trans h.output, Nat.le_trans h.size k.size, fun i hi hn => (k.block i (by have := h.size; omega) hn).trans (h.block i hi hn)⟩
theorem Touch.mono {lo hi lo' hi' : Nat} {a b : World} (h : Touch lo hi a b) (h1 : lo' ≤ lo) (h2 : hi ≤ hi') : Touch lo' hi' a b :=
  ⟨h.os, h.tape, h.output, h.size, fun k hk hn => h.block k hk (by omega)⟩
theorem Touch.cell {lo hi : Nat} {w w' : World} (h : Touch lo hi w w') {p : Addr} {v : Value} (hp : w.cell? p = some v) (hn : p.block < lo ∨ hi ≤ p.block) : w'.cell? p = some v := by
  rw [World.cell?_of_block (w := w) (h.block p.block (World.block_lt_of_cell? _ _ hp) (by omega))]; exact hp
theorem Ext.touch {a w w' : World} {lo hi : Nat} (h : Ext a w) (m : Touch lo hi w w') (hl : a.heap.size ≤ lo) : Ext a w' := by
  refine ⟨m.os.trans h.os, m.tape.trans h.tape, m.output.trans h.output, Nat.le_trans h.size m.size, fun k hk => ?_⟩
  rw [m.block k (by have := h.size; omega) (by omega)]; exact h.block k hk
theorem OwnV.touch {lo hi lo' hi' : Nat} {w w' : World} {v : Value} {t : List (List Int)} (h : OwnV lo hi w v t) (m : Touch lo' hi' w w') (hd : hi ≤ lo' ∨ hi' ≤ lo) (hw : hi ≤ w.heap.size) : OwnV lo hi w' v t :=
  h.keep fun k h1 h2 => m.block k (by omega) (by omega)
theorem OwnIV.touch {lo hi lo' hi' : Nat} {w w' : World} {v : Value} {l : List Int} (h : OwnIV lo hi w v l) (m : Touch lo' hi' w w') (hd : hi ≤ lo' ∨ hi' ≤ lo) (hw : hi ≤ w.heap.size) : OwnIV lo hi w' v l :=
  h.keep fun k h1 h2 => m.block k (by omega) (by omega)
theorem cell_new (w : World) (v : Value) (T : Nat) : (w.alloc (.cells #[v] T)).cell? ⟨w.heap.size, 0, none⟩ = some v := by simp
theorem ext_box (w : World) (v : Value) (T : Nat) : Ext w (w.alloc (.cells #[v] T)) := (Ext.refl _).alloc _
/-! ### the numbers that marking writes -/
/-- n numbers from k on -/
def numRow (k : Int) (n : Nat) : List Int := (List.range n).map fun (i : Nat) => k + i
@[simp] theorem length_numRow (k : Int) (n : Nat) : (numRow k n).length = n := by simp [numRow]
theorem ix_numRow (k : Int) (n i : Nat) (h : i < n) : ix (numRow k n) i = k + i := by
  rw [ix_eq]; simp [numRow, List.getD, h]
/-- where row i begins -/
def startAt (t : List (List Int)) (k : Int) : Nat → Int
  | 0 => k
  | i + 1 => startAt t k i + (row t i).length
theorem startAt_le (t : List (List Int)) (k : Int) (hs : ∀ i, (row t i).length ≤ 1048576) : ∀ i : Nat, k ≤ startAt t k i ∧ startAt t k i ≤ k + i * 1048576
  | 0 => by simp [startAt]
  | i + 1 => by
    have := startAt_le t k hs i
    have := hs i
    simp only [startAt]
    omega
/-- the table after marking its first m rows -/
def markTo (t : List (List Int)) (k : Int) (m : Nat) : List (List Int) := (List.range t.length).map fun i => if i < m then numRow (startAt t k i) (row t i).length else row t i
@[simp] theorem length_markTo (t : List (List Int)) (k : Int) (m : Nat) : (markTo t k m).length = t.length := by simp [markTo]
theorem row_markTo (t : List (List Int)) (k : Int) (m i : Nat) (h : i < t.length) : row (markTo t k m) i = if i < m then numRow (startAt t k i) (row t i).length else row t i := by
  rw [row_eq]; simp [markTo, List.getD, h]
theorem length_row_markTo (t : List (List Int)) (k : Int) (m i : Nat) : (row (markTo t k m) i).length = (row t i).length := by
  by_cases h : i < t.length
  · rw [row_markTo t k m i h]; split <;> simp
  · rw [row_eq, row_eq]; simp [List.getD, markTo, h]
theorem row_ext {a b : List (List Int)} (hl : a.length = b.length) (h : ∀ i, i < a.length → row a i = row b i) : a = b := by
  apply List.ext_getElem hl
  intro i h1 h2
  have := h i h1
  rw [row_eq, row_eq] at this
  simpa [List.getD, h1, h2] using this
theorem ix_ext {a b : List Int} (hl : a.length = b.length) (h : ∀ i, i < a.length → ix a i = ix b i) : a = b := by
  apply List.ext_getElem hl
  intro i h1 h2
  have := h i h1
  rw [ix_eq, ix_eq] at this
  simpa [List.getD, h1, h2] using this
theorem markTo_zero (t : List (List Int)) (k : Int) : markTo t k 0 = t := row_ext (by simp) fun i hi => by rw [row_markTo _ _ _ _ (by simpa using hi)]; simp
theorem small_markTo {t : List (List Int)} (h : Small t) (k : Int) (m : Nat) : Small (markTo t k m) := ⟨by simpa using h.1, fun i => by rw [length_row_markTo]; exact h.2 i⟩

/-! ### building -/
/-- the first k entries of l, zeros behind them -/
@[irreducible] def copyTo (l : List Int) (k i : Nat) : Int := if i < k then ix l i else 0
theorem copyTo_zero (l : List Int) (i : Nat) : copyTo l 0 i = 0 := by unfold copyTo; simp
theorem copyTo_succ (l : List Int) (k i : Nat) : copyTo l (k + 1) i = if i = k then ix l k else copyTo l k i := by
  unfold copyTo
  by_cases h : i = k
  · subst h; simp
  · rw [if_neg h]
    by_cases h2 : i < k
    · rw [if_pos h2, if_pos (by omega)]
    · rw [if_neg h2, if_neg (by omega)]
theorem copyTo_all (l : List Int) (k i : Nat) (h : i < k) : copyTo l k i = ix l i := by unfold copyTo; rw [if_pos h]

/-- a row that the call made -/
theorem ownI_of_row {w : World} {b T n lo hi : Nat} {l : List Int} {f : Nat → Value} (h : w.rowIs b T n f) (hn : l.length ≤ n) (hf : ∀ i, i < l.length → f i = .int .i64 (ix l i)) (h1 : lo ≤ b) (h2 : b < hi) : OwnI lo hi w b 0 l :=
  ⟨h1, h2, fun i hi => by rw [Nat.zero_add, ← hf i hi]; exact h.cell (by omega), fun i _ => by rw [Nat.zero_add]; exact h.frozen i⟩
theorem OwnI.mono {lo hi lo' hi' : Nat} {w : World} {b o : Nat} {l : List Int} (h : OwnI lo hi w b o l) (h1 : lo' ≤ lo) (h2 : hi ≤ hi') : OwnI lo' hi' w b o l := ⟨by have := h.1; omega, by have := h.2.1; omega, h.2.2⟩
theorem OwnT.v {lo hi : Nat} {w : World} {b o : Nat} {t : List (List Int)} (h : OwnT lo hi w b o t) (hl : Small t) (c : Nat) : OwnV lo hi w (.slice (some ⟨b, o, none⟩) t.length c) t := ⟨hl, _, c, rfl, fun _ => ⟨b, o, rfl, h⟩⟩

/-- what the outer slice holds when k rows are made -/
@[irreducible] def slot (B C : Nat → Nat) (r : Nat → List Int) (k i : Nat) : Value := if i < k then .slice (some ⟨B i, 0, none⟩) (r i).length (C i) else .slice none 0 0
theorem slot_in (B C : Nat → Nat) (r : Nat → List Int) (k i : Nat) (h : i < k) : slot B C r k i = .slice (some ⟨B i, 0, none⟩) (r i).length (C i) := by unfold slot; rw [if_pos h]
theorem slot_out (B C : Nat → Nat) (r : Nat → List Int) (k i : Nat) (h : k ≤ i) : slot B C r k i = .slice none 0 0 := by unfold slot; rw [if_neg (by omega)]
/-- k rows are made; the outer slice is block b -/
def Build (w : World) (b T n k : Nat) (r : Nat → List Int) : Prop := ∃ B C : Nat → Nat, w.rowIs b T n (slot B C r k) ∧
  (∀ i, i < k → OwnI (b + 1) w.heap.size w (B i) 0 (r i)) ∧ ∀ i j, i < k → j < k → B i = B j → i = j
theorem Build.zero {w : World} {b T n : Nat} (r : Nat → List Int) (h : w.rowIs b T n (fun _ => .slice none 0 0)) : Build w b T n 0 r :=
  ⟨fun _ => 0, fun _ => 0, h.congr fun i _ => (slot_out _ _ _ _ _ (Nat.zero_le _)).symm, fun i hi => by omega, fun i j hi => by omega⟩
theorem Build.congr {w : World} {b T n k : Nat} {r r' : Nat → List Int} (h : Build w b T n k r) (e : ∀ i, i < k → r i = r' i) : Build w b T n k r' := by
  obtain ⟨B, C, h1, h2, h3⟩ := h
  refine ⟨B, C, h1.congr fun i _ => ?_, fun i hi => by rw [← e i hi]; exact h2 i hi, h3⟩
  by_cases hi : i < k
  · rw [slot_in _ _ _ _ _ hi, slot_in _ _ _ _ _ hi, e i hi]
  · rw [slot_out _ _ _ _ _ (by omega), slot_out _ _ _ _ _ (by omega)]
theorem Build.ext {w w' : World} {b T n k : Nat} {r : Nat → List Int} (h : Build w b T n k r) (hx : Ext w w') : Build w' b T n k r := by
  obtain ⟨B, C, h1, h2, h3⟩ := h
  refine ⟨B, C, h1.of_block (hx.block b h1.lt), fun i hi => ?_, h3⟩
  have := h2 i hi
  exact (this.block (hx.block _ this.2.1)).mono (Nat.le_refl _) hx.size
theorem Build.lt {w : World} {b T n k : Nat} {r : Nat → List Int} (h : Build w b T n k r) : b < w.heap.size := by
  obtain ⟨B, C, h1, -⟩ := h
  exact h1.lt
theorem Build.cell {w : World} {b T n k : Nat} {r : Nat → List Int} (h : Build w b T n k r) {i : Nat} (hi : i < n) (hk : k ≤ i) : w.cell? ⟨b, i, none⟩ = some (.slice none 0 0) := by
  obtain ⟨B, C, h1, -⟩ := h
  rw [h1.cell hi, slot_out _ _ _ _ _ hk]
theorem Build.frozen {w : World} {b T n k : Nat} {r : Nat → List Int} (h : Build w b T n k r) (i : Nat) : w.frozen? ⟨b, i, none⟩ = false := by
  obtain ⟨B, C, h1, -⟩ := h
  exact h1.frozen i
/-- row k is made in new memory and stored -/
theorem Build.succ {w w' : World} {b T n k b1 c1 m : Nat} {r : Nat → List Int} (h : Build w b T n k r) (hx : Ext w w') (hr : OwnI w.heap.size w'.heap.size w' b1 0 (r k)) (hm : m = (r k).length) :
    Build (w'.setCell ⟨b, k, none⟩ (.slice (some ⟨b1, 0, none⟩) m c1)) b T n (k + 1) r := by
  subst hm
  have hlt := h.lt
  obtain ⟨B, C, h1, h2, h3⟩ := h
  have hne : b1 ≠ b := by have := hr.1; omega
  refine ⟨fun i => if i = k then b1 else B i, fun i => if i = k then c1 else C i, ?_, fun i hi => ?_, fun i j hi hj e => ?_⟩
  · refine ((h1.of_block (hx.block b hlt)).set k _).congr fun i _ => ?_
    by_cases e : i = k
    · subst e; rw [if_pos rfl, slot_in _ _ _ _ _ (by omega)]; simp
    · rw [if_neg e]
      by_cases hk : i < k
      · rw [slot_in _ _ _ _ _ hk, slot_in _ _ _ _ _ (by omega)]; simp [e]
      · rw [slot_out _ _ _ _ _ (by omega), slot_out _ _ _ _ _ (by omega)]
  · by_cases e : i = k
    · subst e
      simp only [if_true]
      exact (hr.block (Below.heap_setCell _ _ _ _ hne)).mono hlt (by simp)
    · simp only [if_neg e]
      have hi' := h2 i (by omega)
      have hb : B i ≠ b := by have := hi'.1; omega
      have := hi'.2.1
      exact ((hi'.block (hx.block _ this)).block (Below.heap_setCell _ _ _ _ hb)).mono (Nat.le_refl _) (by have := hx.size; simp; omega)
  · by_cases ei : i = k <;> by_cases ej : j = k
    · omega
    · simp only [ei, if_true, if_neg ej] at e
      have := (h2 j (by omega)).2.1
      have := hr.1
      omega
    · simp only [ej, if_true, if_neg ei] at e
      have := (h2 i (by omega)).2.1
      have := hr.1
      omega
    · simp only [if_neg ei, if_neg ej] at e
      exact h3 i j (by omega) (by omega) e
theorem Build.done {w : World} {b T n k lo hi : Nat} {r : Nat → List Int} {t : List (List Int)} (h : Build w b T n k r) (e : ∀ i, i < t.length → r i = row t i) (hk : t.length ≤ k) (hn : t.length ≤ n) (hl : lo ≤ b) (hh : w.heap.size ≤ hi) : OwnT lo hi w b 0 t := by
  have hlt := h.lt
  obtain ⟨B, C, h1, h2, h3⟩ := h
  refine ⟨hl, by omega, B, fun _ => 0, C, fun i hi => ⟨?_, by rw [← e i hi]; exact (h2 i (by omega)).mono (by omega) hh, by have := (h2 i (by omega)).1; omega⟩, fun i j hi hj e => h3 i j (by omega) (by omega) e, fun i hi => h1.frozen _⟩
  rw [Nat.zero_add, h1.cell (by omega), slot_in _ _ _ _ _ (by omega), e i hi]
theorem IntsAt.set0 {w : World} {b : Nat} {l l' : List Int} (h : IntsAt w b 0 l) (i : Nat) (x : Int) (hi : i < l.length) (hl : l'.length = l.length) (h1 : ∀ j, j ≠ i → j < l.length → ix l' j = ix l j) (h2 : ix l' i = x) :
    IntsAt (w.setCell ⟨b, i, none⟩ (.int .i64 x)) b 0 l' := fun j hj => by
  rw [Nat.zero_add]
  by_cases e : j = i
  · subst e; rw [World.cell?_setCell_same _ _ _ (by simpa using h j hi), h2]
  · rw [World.cell?_setCell_other _ _ _ _ (fun h => e (by have := congrArg Addr.off h; simp only [] at this; omega))]
    have := h j (by omega)
    rw [Nat.zero_add] at this
    rw [this, h1 j e (by omega)]
/-- row k0, as it lies -/
theorem Build.row {w : World} {b T n k : Nat} {r : Nat → List Int} (h : Build w b T n k r) {k0 : Nat} (hk : k0 < k) (hn : k0 < n) :
    ∃ b1 c1, w.cell? ⟨b, k0, none⟩ = some (.slice (some ⟨b1, 0, none⟩) (r k0).length c1) ∧ OwnI (b + 1) w.heap.size w b1 0 (r k0) := by
  obtain ⟨B, C, h1, h2, h3⟩ := h
  exact ⟨B k0, C k0, by rw [h1.cell hn, slot_in _ _ _ _ _ hk], h2 k0 hk⟩
/-- an entry of row k0 is written -/
theorem Build.store {w w' : World} {b T n k b1 c1 : Nat} {r r' : Nat → List Int} (h : Build w b T n k r) {k0 : Nat} (hk : k0 < k) (hn : k0 < n) (hc : w.cell? ⟨b, k0, none⟩ = some (.slice (some ⟨b1, 0, none⟩) (r k0).length c1)) (hx : Ext w w')
    (j : Nat) (x : Int) (hj : j < (r k0).length) (e1 : ∀ i, i ≠ k0 → r' i = r i) (e2 : (r' k0).length = (r k0).length) (e3 : ∀ i, i ≠ j → i < (r k0).length → ix (r' k0) i = ix (r k0) i) (e4 : ix (r' k0) j = x) :
    Build (w'.setCell ⟨b1, j, none⟩ (.int .i64 x)) b T n k r' := by
  have hb := h.ext hx
  have hc' := hx.cell hc
  obtain ⟨B, C, h1, h2, h3⟩ := hb
  rw [h1.cell hn, slot_in _ _ _ _ _ hk] at hc'
  simp only [Option.some.injEq, Value.slice.injEq, Addr.mk.injEq, and_true, true_and] at hc'
  obtain ⟨rfl, rfl⟩ := hc'
  have hB := (h2 k0 hk)
  refine ⟨B, C, (h1.setOther (by have := hB.1; simp only []; omega) _).congr fun i hi => ?_, fun i hi => ?_, h3⟩
  · by_cases hik : i < k
    · rw [slot_in _ _ _ _ _ hik, slot_in _ _ _ _ _ hik]
      by_cases e : i = k0
      · subst e; rw [e2]
      · rw [e1 i e]
    · rw [slot_out _ _ _ _ _ (by omega), slot_out _ _ _ _ _ (by omega)]
  · by_cases e : i = k0
    · subst e
      refine ⟨hB.1, by have := hB.2.1; simpa using this, hB.2.2.1.set0 j x hj e2 e3 e4, ?_⟩
      rw [e2]
      intro q hq
      rw [World.frozen?_setCell]; exact hB.2.2.2 q hq
    · rw [e1 i e]
      have hne : B i ≠ B k0 := fun he => e (h3 i k0 hi hk he)
      exact ((h2 i hi).block (Below.heap_setCell _ _ _ _ hne)).mono (Nat.le_refl _) (by simp)

/-! ### writing integers in place -/
theorem IntsAt.set {w : World} {b o : Nat} {l l' : List Int} (h : IntsAt w b o l) (i : Nat) (x : Int) (hi : i < l.length) (hl : l'.length = l.length) (h1 : ∀ j, j ≠ i → j < l.length → ix l' j = ix l j) (h2 : ix l' i = x) :
    IntsAt (w.setCell ⟨b, o + i, none⟩ (.int .i64 x)) b o l' := fun j hj => by
  by_cases e : j = i
  · subst e; rw [World.cell?_setCell_same _ _ _ (h j hi), h2]
  · rw [World.cell?_setCell_other _ _ _ _ (fun h => e (by have := congrArg Addr.off h; simp only [] at this; omega)), h j (by omega), h1 j e (by omega)]
theorem FreeAt.set {w : World} {b o n : Nat} (h : FreeAt w b o n) (a : Addr) (u : Value) : FreeAt (w.setCell a u) b o n := fun i hi => by
  rw [World.frozen?_setCell]; exact h i hi
/-- the first m entries numbered from k on -/
def numTo (l : List Int) (k : Int) (m : Nat) : List Int := (List.range l.length).map fun i => if i < m then k + (i : Int) else ix l i
@[simp] theorem length_numTo (l : List Int) (k : Int) (m : Nat) : (numTo l k m).length = l.length := by simp [numTo]
theorem ix_numTo (l : List Int) (k : Int) (m i : Nat) (h : i < l.length) : ix (numTo l k m) i = if i < m then k + (i : Int) else ix l i := by
  rw [ix_eq]; simp [numTo, List.getD, h]
theorem numTo_zero (l : List Int) (k : Int) : numTo l k 0 = l := ix_ext (by simp) fun i hi => by rw [ix_numTo _ _ _ _ (by simpa using hi)]; simp
theorem numTo_all (l : List Int) (k : Int) (m : Nat) (h : l.length ≤ m) : numTo l k m = numRow k l.length := ix_ext (by simp) fun i hi => by
  have hi' : i < l.length := by simpa using hi
  rw [ix_numTo _ _ _ _ hi', ix_numRow _ _ _ hi', if_pos (by omega)]
end Go.Proofs.YthlafeefjonkdaaDoor
