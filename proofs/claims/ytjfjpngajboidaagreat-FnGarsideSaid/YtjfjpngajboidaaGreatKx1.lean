/-
  Slices that may be nil; memory of a call's own; marking.
-/
import Derived.Deep.OwnRows
import Derived.Test.YtjfjpngajboidaaGreatKx0
namespace Go.Proofs.YtjfjpngajboidaaGreat
set_option linter.unusedVariables false
set_option linter.unusedSimpArgs false
open Go.RowKit

theorem IntsAt.block {w w' : World} {b o : Nat} {l : List Int} (h : IntsAt w b o l) (e : w'.heap[b]? = w.heap[b]?) : IntsAt w' b o l := fun i hi => by
  rw [World.cell?_of_block (w := w) (a := ⟨b, o + i, none⟩) e]; exact h i hi

def IntsR (w : World) (v : Value) (l : List Int) : Prop := ∃ a c, v = .slice a l.length c ∧ (l ≠ [] → ∃ b o, a = some ⟨b, o, none⟩ ∧ IntsAt w b o l)
theorem IntsR.ext {w w' : World} {v : Value} {l : List Int} (h : IntsR w v l) (hx : Ext w w') : IntsR w' v l := by
  obtain ⟨a, c, rfl, h⟩ := h
  refine ⟨a, c, rfl, fun hl => ?_⟩
  obtain ⟨b, o, rfl, hc⟩ := h hl
  exact ⟨b, o, rfl, hc.ext hx⟩
theorem Ints.toR {w : World} {v : Value} {l : List Int} (h : Ints w v l) : IntsR w v l := by
  obtain ⟨-, b, o, c, rfl, hc⟩ := h
  exact ⟨_, c, rfl, fun _ => ⟨b, o, rfl, hc⟩⟩
def RowsR (w : World) (v : Value) (t : List (List Int)) : Prop :=
  ∃ a c, v = .slice a t.length c ∧ (t ≠ [] → ∃ b o, a = some ⟨b, o, none⟩ ∧ ∀ i, i < t.length → ∃ r, w.cell? ⟨b, o + i, none⟩ = some r ∧ IntsR w r (row t i))
theorem RowsR.ext {w w' : World} {v : Value} {t : List (List Int)} (h : RowsR w v t) (hx : Ext w w') : RowsR w' v t := by
  obtain ⟨a, c, rfl, h⟩ := h
  refine ⟨a, c, rfl, fun hl => ?_⟩
  obtain ⟨b, o, rfl, hc⟩ := h hl
  refine ⟨b, o, rfl, fun i hi => ?_⟩
  obtain ⟨r, h1, h2⟩ := hc i hi
  exact ⟨r, hx.cell h1, h2.ext hx⟩
theorem Rows.toR {w : World} {v : Value} {t : List (List Int)} (h : Rows w v t) : RowsR w v t := by
  obtain ⟨-, b, o, c, rfl, hc⟩ := h
  refine ⟨_, c, rfl, fun _ => ⟨b, o, rfl, fun i hi => ?_⟩⟩
  obtain ⟨r, h1, h2⟩ := hc i hi
  exact ⟨r, h1, h2.toR⟩
theorem ne_nil_of_lt {α : Type} {l : List α} {k : Nat} (h : k < l.length) : l ≠ [] := fun e => by subst e; simp at h
theorem RowsR.nil (w : World) (c : Nat) : RowsR w (.slice none 0 c) [] := ⟨none, c, rfl, fun h => absurd rfl h⟩
theorem IntsR.nil (w : World) (c : Nat) : IntsR w (.slice none 0 c) [] := ⟨none, c, rfl, fun h => absurd rfl h⟩

def Small (t : List (List Int)) : Prop := t.length ≤ 1048576 ∧ ∀ i, (row t i).length ≤ 1048576

def FreeAt (w : World) (b o n : Nat) : Prop := ∀ i, i < n → w.frozen? ⟨b, o + i, none⟩ = false
theorem FreeAt.block {w w' : World} {b o n : Nat} (h : FreeAt w b o n) (e : w'.heap[b]? = w.heap[b]?) : FreeAt w' b o n := fun i hi => by
  rw [World.frozen?_of_block (w := w) (a := ⟨b, o + i, none⟩) e]; exact h i hi

def OwnI (lo hi : Nat) (w : World) (b o : Nat) (l : List Int) : Prop := lo ≤ b ∧ b < hi ∧ IntsAt w b o l ∧ FreeAt w b o l.length
theorem OwnI.block {lo hi : Nat} {w w' : World} {b o : Nat} {l : List Int} (h : OwnI lo hi w b o l) (e : w'.heap[b]? = w.heap[b]?) : OwnI lo hi w' b o l := ⟨h.1, h.2.1, h.2.2.1.block e, h.2.2.2.block e⟩
def OwnIV (lo hi : Nat) (w : World) (v : Value) (l : List Int) : Prop := l.length ≤ 1048576 ∧ ∃ a c, v = .slice a l.length c ∧ (l ≠ [] → ∃ b o, a = some ⟨b, o, none⟩ ∧ OwnI lo hi w b o l)

def OwnT (lo hi : Nat) (w : World) (b o : Nat) (t : List (List Int)) : Prop := lo ≤ b ∧ b < hi ∧ ∃ B O C : Nat → Nat,
  (∀ i, i < t.length → w.cell? ⟨b, o + i, none⟩ = some (.slice (some ⟨B i, O i, none⟩) (row t i).length (C i)) ∧ OwnI lo hi w (B i) (O i) (row t i) ∧ B i ≠ b) ∧
  (∀ i j, i < t.length → j < t.length → B i = B j → i = j) ∧ FreeAt w b o t.length
def OwnV (lo hi : Nat) (w : World) (v : Value) (t : List (List Int)) : Prop := Small t ∧ ∃ a c, v = .slice a t.length c ∧ (t ≠ [] → ∃ b o, a = some ⟨b, o, none⟩ ∧ OwnT lo hi w b o t)

theorem OwnT.keep {lo hi : Nat} {w w' : World} {b o : Nat} {t : List (List Int)} (h : OwnT lo hi w b o t) (e : ∀ k, lo ≤ k → k < hi → w'.heap[k]? = w.heap[k]?) : OwnT lo hi w' b o t := by
  obtain ⟨h1, h2, B, O, C, h3, h4⟩ := h
  refine ⟨h1, h2, B, O, C, fun i hi => ?_, h4.1, h4.2.block (e b h1 h2)⟩
  obtain ⟨a1, a2, a3⟩ := h3 i hi
  exact ⟨by rw [World.cell?_of_block (w := w) (a := ⟨b, o + i, none⟩) (e b h1 h2)]; exact a1, a2.block (e _ a2.1 a2.2.1), a3⟩
theorem OwnV.keep {lo hi : Nat} {w w' : World} {v : Value} {t : List (List Int)} (h : OwnV lo hi w v t) (e : ∀ k, lo ≤ k → k < hi → w'.heap[k]? = w.heap[k]?) : OwnV lo hi w' v t := by
  obtain ⟨h0, a, c, rfl, h⟩ := h
  refine ⟨h0, a, c, rfl, fun hl => ?_⟩
  obtain ⟨b, o, rfl, hc⟩ := h hl
  exact ⟨b, o, rfl, hc.keep e⟩
theorem OwnIV.keep {lo hi : Nat} {w w' : World} {v : Value} {l : List Int} (h : OwnIV lo hi w v l) (e : ∀ k, lo ≤ k → k < hi → w'.heap[k]? = w.heap[k]?) : OwnIV lo hi w' v l := by
  obtain ⟨h0, a, c, rfl, h⟩ := h
  refine ⟨h0, a, c, rfl, fun hl => ?_⟩
  obtain ⟨b, o, rfl, hc⟩ := h hl
  exact ⟨b, o, rfl, hc.block (e b hc.1 hc.2.1)⟩
theorem OwnV.ext {lo hi : Nat} {w w' : World} {v : Value} {t : List (List Int)} (h : OwnV lo hi w v t) (hx : Ext w w') (hh : hi ≤ w.heap.size) : OwnV lo hi w' v t := h.keep fun k _ hk => hx.block k (by omega)
theorem OwnIV.ext {lo hi : Nat} {w w' : World} {v : Value} {l : List Int} (h : OwnIV lo hi w v l) (hx : Ext w w') (hh : hi ≤ w.heap.size) : OwnIV lo hi w' v l := h.keep fun k _ hk => hx.block k (by omega)
theorem OwnT.mono {lo hi lo' hi' : Nat} {w : World} {b o : Nat} {t : List (List Int)} (h : OwnT lo hi w b o t) (h1 : lo' ≤ lo) (h2 : hi ≤ hi') : OwnT lo' hi' w b o t := by
  obtain ⟨g1, g2, B, O, C, g3, g4⟩ := h
  refine ⟨by omega, by omega, B, O, C, fun i hi => ?_, g4⟩
  obtain ⟨a1, ⟨a2, a2', a2''⟩, a3⟩ := g3 i hi
  exact ⟨a1, ⟨by omega, by omega, a2''⟩, a3⟩
theorem OwnT.setOther {lo hi : Nat} {w : World} {b o : Nat} {t : List (List Int)} (h : OwnT lo hi w b o t) {a : Addr} (ha : a.block < lo ∨ hi ≤ a.block) (u : Value) : OwnT lo hi (w.setCell a u) b o t :=
  h.keep fun k h1 h2 => Below.heap_setCell _ _ _ _ (by omega)
theorem OwnV.mono {lo hi lo' hi' : Nat} {w : World} {v : Value} {t : List (List Int)} (h : OwnV lo hi w v t) (h1 : lo' ≤ lo) (h2 : hi ≤ hi') : OwnV lo' hi' w v t := by
  obtain ⟨h0, a, c, rfl, h⟩ := h
  refine ⟨h0, a, c, rfl, fun hl => ?_⟩
  obtain ⟨b, o, rfl, g1, g2, B, O, C, g3, g4⟩ := h hl
  refine ⟨b, o, rfl, by omega, by omega, B, O, C, fun i hi => ?_, g4⟩
  obtain ⟨a1, ⟨a2, a2', a2''⟩, a3⟩ := g3 i hi
  exact ⟨a1, ⟨by omega, by omega, a2''⟩, a3⟩
theorem OwnIV.mono {lo hi lo' hi' : Nat} {w : World} {v : Value} {l : List Int} (h : OwnIV lo hi w v l) (h1 : lo' ≤ lo) (h2 : hi ≤ hi') : OwnIV lo' hi' w v l := by
  obtain ⟨h0, a, c, rfl, h⟩ := h
  refine ⟨h0, a, c, rfl, fun hl => ?_⟩
  obtain ⟨b, o, rfl, g1, g2, g3⟩ := h hl
  exact ⟨b, o, rfl, by omega, by omega, g3⟩
theorem OwnT.rowsAt {lo hi : Nat} {w : World} {b o : Nat} {t : List (List Int)} (h : OwnT lo hi w b o t) (hs : Small t) : RowsAt w b o t := fun i hi => by
  obtain ⟨-, -, B, O, C, h3, -⟩ := h
  obtain ⟨a1, a2, -⟩ := h3 i hi
  exact ⟨_, a1, hs.2 i, _, _, _, rfl, a2.2.2.1⟩
theorem OwnV.toR {lo hi : Nat} {w : World} {v : Value} {t : List (List Int)} (h : OwnV lo hi w v t) : RowsR w v t := by
  obtain ⟨h0, a, c, rfl, h⟩ := h
  refine ⟨a, c, rfl, fun hl => ?_⟩
  obtain ⟨b, o, rfl, hc⟩ := h hl
  refine ⟨b, o, rfl, fun i hi => ?_⟩
  obtain ⟨r, g1, g2⟩ := hc.rowsAt h0 i hi
  exact ⟨r, g1, g2.toR⟩
theorem OwnIV.toR {lo hi : Nat} {w : World} {v : Value} {l : List Int} (h : OwnIV lo hi w v l) : IntsR w v l := by
  obtain ⟨h0, a, c, rfl, h⟩ := h
  refine ⟨a, c, rfl, fun hl => ?_⟩
  obtain ⟨b, o, rfl, hc⟩ := h hl
  exact ⟨b, o, rfl, hc.2.2.1⟩
theorem small_nil : Small [] := ⟨by simp, fun i => by rw [row_eq]; simp⟩
theorem OwnV.nil (lo hi : Nat) (w : World) : OwnV lo hi w (.slice none 0 0) [] := ⟨small_nil, none, 0, rfl, fun h => absurd rfl h⟩
theorem OwnIV.nil (lo hi : Nat) (w : World) : OwnIV lo hi w (.slice none 0 0) [] := ⟨by simp, none, 0, rfl, fun h => absurd rfl h⟩

structure Marked (lo hi : Nat) (w w' : World) : Prop where
  os : w'.os = w.os
  tape : w'.tape = w.tape
  output : w'.output = w.output
  size : w'.heap.size = w.heap.size
  block : ∀ k, ¬ (lo ≤ k ∧ k < hi) → w'.heap[k]? = w.heap[k]?
theorem Marked.refl (lo hi : Nat) (w : World) : Marked lo hi w w := ⟨rfl, rfl, rfl, rfl, fun _ _ => rfl⟩
theorem Marked.trans {lo hi : Nat} {a b c : World} (h : Marked lo hi a b) (k : Marked lo hi b c) : Marked lo hi a c :=
  ⟨k.os.trans h.os, k.tape.trans h.tape, k.output.trans h.output, k.size.trans h.size, fun i hi => (k.block i hi).trans (h.block i hi)⟩
theorem Marked.mono {lo hi lo' hi' : Nat} {a b : World} (h : Marked lo hi a b) (h1 : lo' ≤ lo) (h2 : hi ≤ hi') : Marked lo' hi' a b :=
  ⟨h.os, h.tape, h.output, h.size, fun k hk => h.block k (by omega)⟩
theorem Marked.drew {lo hi : Nat} {a b : World} (h : Marked lo hi a b) : Marked lo hi a b.drew := ⟨h.os, h.tape, h.output, h.size, h.block⟩
theorem Marked.setCell {lo hi : Nat} {a b : World} (h : Marked lo hi a b) {p : Addr} (h1 : lo ≤ p.block) (h2 : p.block < hi) (u : Value) : Marked lo hi a (b.setCell p u) :=
  h.trans ⟨rfl, rfl, rfl, by simp, fun k hk => Below.heap_setCell _ _ _ _ (by omega)⟩
structure Touch (lo hi : Nat) (w w' : World) : Prop where
  os : w'.os = w.os
  tape : w'.tape = w.tape
  output : w'.output = w.output
  size : w.heap.size ≤ w'.heap.size
  block : ∀ k, k < w.heap.size → ¬ (lo ≤ k ∧ k < hi) → w'.heap[k]? = w.heap[k]?
theorem Touch.of_ext {lo hi : Nat} {w w' : World} (h : Ext w w') : Touch lo hi w w' := ⟨h.os, h.tape, h.output, h.size, fun k hk _ => h.block k hk⟩
theorem Touch.of_marked {lo hi : Nat} {w w' : World} (h : Marked lo hi w w') : Touch lo hi w w' := ⟨h.os, h.tape, h.output, by rw [h.size]; exact Nat.le_refl _, fun k _ hk => h.block k hk⟩
theorem Touch.trans {lo hi : Nat} {a b c : World} (h : Touch lo hi a b) (k : Touch lo hi b c) : Touch lo hi a c :=
  ⟨k.os.trans h.os, k.tape.trans h.tape, k.output.trans h.output, Nat.le_trans h.size k.size, fun i hi hn => (k.block i (by have := h.size; omega) hn).trans (h.block i hi hn)⟩
theorem Touch.mono {lo hi lo' hi' : Nat} {a b : World} (h : Touch lo hi a b) (h1 : lo' ≤ lo) (h2 : hi ≤ hi') : Touch lo' hi' a b :=
  ⟨h.os, h.tape, h.output, h.size, fun k hk hn => h.block k hk (by omega)⟩
theorem Touch.cell {lo hi : Nat} {w w' : World} (h : Touch lo hi w w') {p : Addr} {v : Value} (hp : w.cell? p = some v) (hn : p.block < lo ∨ hi ≤ p.block) : w'.cell? p = some v := by
  rw [World.cell?_of_block (w := w) (h.block p.block (World.block_lt_of_cell? _ _ hp) (by omega))]; exact hp
theorem Ext.touch {a w w' : World} {lo hi : Nat} (h : Ext a w) (m : Touch lo hi w w') (hl : a.heap.size ≤ lo) : Ext a w' := by
  refine ⟨m.os.trans h.os, m.tape.trans h.tape, m.output.trans h.output, Nat.le_trans h.size m.size, fun k hk => ?_⟩
  rw [m.block k (by have := h.size; omega) (by omega)]; exact h.block k hk
theorem OwnV.touch {lo hi lo' hi' : Nat} {w w' : World} {v : Value} {t : List (List Int)} (h : OwnV lo hi w v t) (m : Touch lo' hi' w w') (hd : hi ≤ lo' ∨ hi' ≤ lo) (hw : hi ≤ w.heap.size) : OwnV lo hi w' v t :=
  h.keep fun k h1 h2 => m.block k (by omega) (by omega)
theorem OwnIV.touch {lo hi lo' hi' : Nat} {w w' : World} {v : Value} {l : List Int} (h : OwnIV lo hi w v l) (m : Touch lo' hi' w w') (hd : hi ≤ lo' ∨ hi' ≤ lo) (hw : hi ≤ w.heap.size) : OwnIV lo hi w' v l :=
  h.keep fun k h1 h2 => m.block k (by omega) (by omega)
theorem cell_new (w : World) (v : Value) (T : Nat) : (w.alloc (.cells #[v] T)).cell? ⟨w.heap.size, 0, none⟩ = some v := by simp
theorem ext_box (w : World) (v : Value) (T : Nat) : Ext w (w.alloc (.cells #[v] T)) := (Ext.refl _).alloc _
/-! ### the numbers that marking writes -/
def numRow (k : Int) (n : Nat) : List Int := (List.range n).map fun (i : Nat) => k + i
@[simp] theorem length_numRow (k : Int) (n : Nat) : (numRow k n).length = n := by simp [numRow]
def startAt (t : List (List Int)) (k : Int) : Nat → Int
  | 0 => k
  | i + 1 => startAt t k i + (row t i).length
def markTo (t : List (List Int)) (k : Int) (m : Nat) : List (List Int) := (List.range t.length).map fun i => if i < m then numRow (startAt t k i) (row t i).length else row t i
@[simp] theorem length_markTo (t : List (List Int)) (k : Int) (m : Nat) : (markTo t k m).length = t.length := by simp [markTo]
theorem row_ext {a b : List (List Int)} (hl : a.length = b.length) (h : ∀ i, i < a.length → row a i = row b i) : a = b := by
  apply List.ext_getElem hl
  intro i h1 h2
  have := h i h1
  rw [row_eq, row_eq] at this
  simpa [List.getD, h1, h2] using this
theorem ix_ext {a b : List Int} (hl : a.length = b.length) (h : ∀ i, i < a.length → ix a i = ix b i) : a = b := by
  apply List.ext_getElem hl
  intro i h1 h2
  have := h i h1
  rw [ix_eq, ix_eq] at this
  simpa [List.getD, h1, h2] using this
theorem ownI_of_row {w : World} {b T n lo hi : Nat} {l : List Int} {f : Nat → Value} (h : w.rowIs b T n f) (hn : l.length ≤ n) (hf : ∀ i, i < l.length → f i = .int .i64 (ix l i)) (h1 : lo ≤ b) (h2 : b < hi) : OwnI lo hi w b 0 l :=
  ⟨h1, h2, fun i hi => by rw [Nat.zero_add, ← hf i hi]; exact h.cell (by omega), fun i _ => by rw [Nat.zero_add]; exact h.frozen i⟩
theorem OwnI.mono {lo hi lo' hi' : Nat} {w : World} {b o : Nat} {l : List Int} (h : OwnI lo hi w b o l) (h1 : lo' ≤ lo) (h2 : hi ≤ hi') : OwnI lo' hi' w b o l := ⟨by have := h.1; omega, by have := h.2.1; omega, h.2.2⟩
theorem OwnT.v {lo hi : Nat} {w : World} {b o : Nat} {t : List (List Int)} (h : OwnT lo hi w b o t) (hl : Small t) (c : Nat) : OwnV lo hi w (.slice (some ⟨b, o, none⟩) t.length c) t := ⟨hl, _, c, rfl, fun _ => ⟨b, o, rfl, h⟩⟩

@[irreducible] def slot (B C : Nat → Nat) (r : Nat → List Int) (k i : Nat) : Value := if i < k then .slice (some ⟨B i, 0, none⟩) (r i).length (C i) else .slice none 0 0
theorem slot_in (B C : Nat → Nat) (r : Nat → List Int) (k i : Nat) (h : i < k) : slot B C r k i = .slice (some ⟨B i, 0, none⟩) (r i).length (C i) := by unfold slot; rw [if_pos h]
theorem slot_out (B C : Nat → Nat) (r : Nat → List Int) (k i : Nat) (h : k ≤ i) : slot B C r k i = .slice none 0 0 := by unfold slot; rw [if_neg (by omega)]
def Build (w : World) (b T n k : Nat) (r : Nat → List Int) : Prop := ∃ B C : Nat → Nat, w.rowIs b T n (slot B C r k) ∧
  (∀ i, i < k → OwnI (b + 1) w.heap.size w (B i) 0 (r i)) ∧ ∀ i j, i < k → j < k → B i = B j → i = j
theorem Build.zero {w : World} {b T n : Nat} (r : Nat → List Int) (h : w.rowIs b T n (fun _ => .slice none 0 0)) : Build w b T n 0 r :=
  ⟨fun _ => 0, fun _ => 0, h.congr fun i _ => (slot_out _ _ _ _ _ (Nat.zero_le _)).symm, fun i hi => by omega, fun i j hi => by omega⟩
theorem Build.congr {w : World} {b T n k : Nat} {r r' : Nat → List Int} (h : Build w b T n k r) (e : ∀ i, i < k → r i = r' i) : Build w b T n k r' := by
  obtain ⟨B, C, h1, h2, h3⟩ := h
  refine ⟨B, C, h1.congr fun i _ => ?_, fun i hi => by rw [← e i hi]; exact h2 i hi, h3⟩
  by_cases hi : i < k
  · rw [slot_in _ _ _ _ _ hi, slot_in _ _ _ _ _ hi, e i hi]
  · rw [slot_out _ _ _ _ _ (by omega), slot_out _ _ _ _ _ (by omega)]
theorem Build.ext {w w' : World} {b T n k : Nat} {r : Nat → List Int} (h : Build w b T n k r) (hx : Ext w w') : Build w' b T n k r := by
  obtain ⟨B, C, h1, h2, h3⟩ := h
  refine ⟨B, C, h1.of_block (hx.block b h1.lt), fun i hi => ?_, h3⟩
  have := h2 i hi
  exact (this.block (hx.block _ this.2.1)).mono (Nat.le_refl _) hx.size
theorem Build.lt {w : World} {b T n k : Nat} {r : Nat → List Int} (h : Build w b T n k r) : b < w.heap.size := by
  obtain ⟨B, C, h1, -⟩ := h
  exact h1.lt
theorem Build.cell {w : World} {b T n k : Nat} {r : Nat → List Int} (h : Build w b T n k r) {i : Nat} (hi : i < n) (hk : k ≤ i) : w.cell? ⟨b, i, none⟩ = some (.slice none 0 0) := by
  obtain ⟨B, C, h1, -⟩ := h
  rw [h1.cell hi, slot_out _ _ _ _ _ hk]
theorem Build.frozen {w : World} {b T n k : Nat} {r : Nat → List Int} (h : Build w b T n k r) (i : Nat) : w.frozen? ⟨b, i, none⟩ = false := by
  obtain ⟨B, C, h1, -⟩ := h
  exact h1.frozen i
theorem Build.succ {w w' : World} {b T n k b1 c1 m : Nat} {r : Nat → List Int} (h : Build w b T n k r) (hx : Ext w w') (hr : OwnI w.heap.size w'.heap.size w' b1 0 (r k)) (hm : m = (r k).length) :
    Build (w'.setCell ⟨b, k, none⟩ (.slice (some ⟨b1, 0, none⟩) m c1)) b T n (k + 1) r := by
  subst hm
  have hlt := h.lt
  obtain ⟨B, C, h1, h2, h3⟩ := h
  have hne : b1 ≠ b := by have := hr.1; omega
  refine ⟨fun i => if i = k then b1 else B i, fun i => if i = k then c1 else C i, ?_, fun i hi => ?_, fun i j hi hj e => ?_⟩
  · refine ((h1.of_block (hx.block b hlt)).set k _).congr fun i _ => ?_
    by_cases e : i = k
    · subst e; rw [if_pos rfl, slot_in _ _ _ _ _ (by omega)]; simp
    · rw [if_neg e]
      by_cases hk : i < k
      · rw [slot_in _ _ _ _ _ hk, slot_in _ _ _ _ _ (by omega)]; simp [e]
      · rw [slot_out _ _ _ _ _ (by omega), slot_out _ _ _ _ _ (by omega)]
  · by_cases e : i = k
    · subst e
      simp only [if_true]
      exact (hr.block (Below.heap_setCell _ _ _ _ hne)).mono hlt (by simp)
    · simp only [if_neg e]
      have hi' := h2 i (by omega)
      have hb : B i ≠ b := by have := hi'.1; omega
      have := hi'.2.1
      exact ((hi'.block (hx.block _ this)).block (Below.heap_setCell _ _ _ _ hb)).mono (Nat.le_refl _) (by have := hx.size; simp; omega)
  · by_cases ei : i = k <;> by_cases ej : j = k
    · omega
    · simp only [ei, if_true, if_neg ej] at e
      have := (h2 j (by omega)).2.1
      have := hr.1
      omega
    · simp only [ej, if_true, if_neg ei] at e
      have := (h2 i (by omega)).2.1
      have := hr.1
      omega
    · simp only [if_neg ei, if_neg ej] at e
      exact h3 i j (by omega) (by omega) e
theorem Build.done {w : World} {b T n k lo hi : Nat} {r : Nat → List Int} {t : List (List Int)} (h : Build w b T n k r) (e : ∀ i, i < t.length → r i = row t i) (hk : t.length ≤ k) (hn : t.length ≤ n) (hl : lo ≤ b) (hh : w.heap.size ≤ hi) : OwnT lo hi w b 0 t := by
  have hlt := h.lt
  obtain ⟨B, C, h1, h2, h3⟩ := h
  refine ⟨hl, by omega, B, fun _ => 0, C, fun i hi => ⟨?_, by rw [← e i hi]; exact (h2 i (by omega)).mono (by omega) hh, by have := (h2 i (by omega)).1; omega⟩, fun i j hi hj e => h3 i j (by omega) (by omega) e, fun i hi => h1.frozen _⟩
  rw [Nat.zero_add, h1.cell (by omega), slot_in _ _ _ _ _ (by omega), e i hi]
theorem IntsAt.set0 {w : World} {b : Nat} {l l' : List Int} (h : IntsAt w b 0 l) (i : Nat) (x : Int) (hi : i < l.length) (hl : l'.length = l.length) (h1 : ∀ j, j ≠ i → j < l.length → ix l' j = ix l j) (h2 : ix l' i = x) :
    IntsAt (w.setCell ⟨b, i, none⟩ (.int .i64 x)) b 0 l' := fun j hj => by
  rw [Nat.zero_add]
  by_cases e : j = i
  · subst e; rw [World.cell?_setCell_same _ _ _ (by simpa using h j hi), h2]
  · rw [World.cell?_setCell_other _ _ _ _ (fun h => e (by have := congrArg Addr.off h; simp only [] at this; omega))]
    have := h j (by omega)
    rw [Nat.zero_add] at this
    rw [this, h1 j e (by omega)]
theorem Build.row {w : World} {b T n k : Nat} {r : Nat → List Int} (h : Build w b T n k r) {k0 : Nat} (hk : k0 < k) (hn : k0 < n) :
    ∃ b1 c1, w.cell? ⟨b, k0, none⟩ = some (.slice (some ⟨b1, 0, none⟩) (r k0).length c1) ∧ OwnI (b + 1) w.heap.size w b1 0 (r k0) := by
  obtain ⟨B, C, h1, h2, h3⟩ := h
  exact ⟨B k0, C k0, by rw [h1.cell hn, slot_in _ _ _ _ _ hk], h2 k0 hk⟩
theorem Build.store {w w' : World} {b T n k b1 c1 : Nat} {r r' : Nat → List Int} (h : Build w b T n k r) {k0 : Nat} (hk : k0 < k) (hn : k0 < n) (hc : w.cell? ⟨b, k0, none⟩ = some (.slice (some ⟨b1, 0, none⟩) (r k0).length c1)) (hx : Ext w w')
    (j : Nat) (x : Int) (hj : j < (r k0).length) (e1 : ∀ i, i ≠ k0 → r' i = r i) (e2 : (r' k0).length = (r k0).length) (e3 : ∀ i, i ≠ j → i < (r k0).length → ix (r' k0) i = ix (r k0) i) (e4 : ix (r' k0) j = x) :
    Build (w'.setCell ⟨b1, j, none⟩ (.int .i64 x)) b T n k r' := by
  have hb := h.ext hx
  have hc' := hx.cell hc
  obtain ⟨B, C, h1, h2, h3⟩ := hb
  rw [h1.cell hn, slot_in _ _ _ _ _ hk] at hc'
  simp only [Option.some.injEq, Value.slice.injEq, Addr.mk.injEq, and_true, true_and] at hc'
  obtain ⟨rfl, rfl⟩ := hc'
  have hB := (h2 k0 hk)
  refine ⟨B, C, (h1.setOther (by have := hB.1; simp only []; omega) _).congr fun i hi => ?_, fun i hi => ?_, h3⟩
  · by_cases hik : i < k
    · rw [slot_in _ _ _ _ _ hik, slot_in _ _ _ _ _ hik]
      by_cases e : i = k0
      · subst e; rw [e2]
      · rw [e1 i e]
    · rw [slot_out _ _ _ _ _ (by omega), slot_out _ _ _ _ _ (by omega)]
  · by_cases e : i = k0
    · subst e
      refine ⟨hB.1, by have := hB.2.1; simpa using this, hB.2.2.1.set0 j x hj e2 e3 e4, ?_⟩
      rw [e2]
      intro q hq
      rw [World.frozen?_setCell]; exact hB.2.2.2 q hq
    · rw [e1 i e]
      have hne : B i ≠ B k0 := fun he => e (h3 i k0 hi hk he)
      exact ((h2 i hi).block (Below.heap_setCell _ _ _ _ hne)).mono (Nat.le_refl _) (by simp)

/-! ### writing integers in place -/
theorem IntsAt.set {w : World} {b o : Nat} {l l' : List Int} (h : IntsAt w b o l) (i : Nat) (x : Int) (hi : i < l.length) (hl : l'.length = l.length) (h1 : ∀ j, j ≠ i → j < l.length → ix l' j = ix l j) (h2 : ix l' i = x) :
    IntsAt (w.setCell ⟨b, o + i, none⟩ (.int .i64 x)) b o l' := fun j hj => by
  by_cases e : j = i
  · subst e; rw [World.cell?_setCell_same _ _ _ (h j hi), h2]
  · rw [World.cell?_setCell_other _ _ _ _ (fun h => e (by have := congrArg Addr.off h; simp only [] at this; omega)), h j (by omega), h1 j e (by omega)]
theorem FreeAt.set {w : World} {b o n : Nat} (h : FreeAt w b o n) (a : Addr) (u : Value) : FreeAt (w.setCell a u) b o n := fun i hi => by
  rw [World.frozen?_setCell]; exact h i hi
def numTo (l : List Int) (k : Int) (m : Nat) : List Int := (List.range l.length).map fun i => if i < m then k + (i : Int) else ix l i
@[simp] theorem length_numTo (l : List Int) (k : Int) (m : Nat) : (numTo l k m).length = l.length := by simp [numTo]
end Go.Proofs.YtjfjpngajboidaaGreat


namespace Go.Proofs.YtjfjpngajboidaaGreat
set_option linter.unusedVariables false
set_option linter.unusedSimpArgs false

@[irreducible] def inR (n lo hi : Int) : Bool := decide (lo ≤ n) && decide (n ≤ hi)
theorem inR_iff {n lo hi : Int} : inR n lo hi = true ↔ lo ≤ n ∧ n ≤ hi := by unfold inR; simp
theorem inR_false {n lo hi : Int} : inR n lo hi = false ↔ ¬ (lo ≤ n ∧ n ≤ hi) := by rw [← inR_iff]; simp

def indexFrom (n : Int) : List Int → Nat → Int
  | [], _ => -1
  | x :: r, k => if x = n then (k : Int) else indexFrom n r (k + 1)
@[irreducible] def indexOf (l : List Int) (n : Int) : Int := indexFrom n l 0

theorem drop_cons (l : List Int) (k : Nat) (h : k < l.length) : l.drop k = ix l k :: l.drop (k + 1) := by
  rw [List.drop_eq_getElem_cons h, ix_eq]; simp [List.getD, h]

theorem indexFrom_hit (l : List Int) (n : Int) (k : Nat) (h : k < l.length) (e : ix l k = n) : indexFrom n (l.drop k) k = k := by
  rw [drop_cons l k h, indexFrom, if_pos e]
theorem indexFrom_miss (l : List Int) (n : Int) (k : Nat) (h : k < l.length) (e : ¬ ix l k = n) : indexFrom n (l.drop k) k = indexFrom n (l.drop (k + 1)) (k + 1) := by
  rw [drop_cons l k h, indexFrom, if_neg e]
theorem indexFrom_end (l : List Int) (n : Int) (k : Nat) (h : l.length ≤ k) : indexFrom n (l.drop k) k = -1 := by
  rw [List.drop_of_length_le h]; rfl
theorem indexFrom_spec (n : Int) : ∀ (l : List Int) (k : Nat), (indexFrom n l k = -1 ∧ ∀ i, i < l.length → l.getD i 0 ≠ n) ∨
    ∃ i, i < l.length ∧ indexFrom n l k = ((k + i : Nat) : Int) ∧ l.getD i 0 = n ∧ ∀ j, j < i → l.getD j 0 ≠ n := by
  intro l
  induction l with
  | nil => intro k; left; exact ⟨rfl, fun i hi => by simp at hi⟩
  | cons x r ih =>
    intro k
    by_cases hx : x = n
    · right; exact ⟨0, by simp, by simp [indexFrom, hx], by simpa using hx, fun j hj => by omega⟩
    · rcases ih (k + 1) with ⟨h1, h2⟩ | ⟨i, h1, h2, h3, h4⟩
      · left
        refine ⟨by simp [indexFrom, hx, h1], fun i hi => ?_⟩
        cases i with
        | zero => simpa using hx
        | succ i => simpa using h2 i (by simpa using hi)
      · right
        refine ⟨i + 1, by simpa using h1, by simp only [indexFrom, if_neg hx, h2]; omega, by simpa using h3, fun j hj => ?_⟩
        cases j with
        | zero => simpa using hx
        | succ j => simpa using h4 j (by omega)
theorem indexOf_spec (l : List Int) (n : Int) : (indexOf l n = -1 ∧ ∀ i, i < l.length → ix l i ≠ n) ∨
    ∃ i : Nat, i < l.length ∧ indexOf l n = (i : Int) ∧ ix l i = n ∧ ∀ j, j < i → ix l j ≠ n := by
  have := indexFrom_spec n l 0
  simp only [Nat.zero_add] at this
  unfold indexOf
  simpa only [ix_eq] using this

@[irreducible] def hasB (l : List Int) (n : Int) : Bool := decide (0 ≤ indexOf l n)
theorem hasB_def (l : List Int) (n : Int) : hasB l n = decide (0 ≤ indexOf l n) := by unfold hasB; rfl
theorem hasB_iff {l : List Int} {n : Int} : hasB l n = true ↔ 0 ≤ indexOf l n := by unfold hasB; simp
theorem hasB_no {l : List Int} {n : Int} : hasB l n = false ↔ ¬ 0 ≤ indexOf l n := by unfold hasB; simp

/-! ### tables -/
def RowTo (t : List (List Int)) (n x j : Nat) : Prop := ∀ y, y < j → 0 ≤ ent t x y ∧ ent t x y ≤ (n : Int) - 1
def RowOk (t : List (List Int)) (n x : Nat) : Prop := (row t x).length = n ∧ RowTo t n x n
def RowsOk (t : List (List Int)) (n k : Nat) : Prop := ∀ x, x < k → RowOk t n x
def TableOk (t : List (List Int)) : Prop := 1 ≤ t.length ∧ t.length ≤ 12 ∧ RowsOk t t.length t.length
instance (t n x j) : Decidable (RowTo t n x j) := by unfold RowTo; infer_instance
instance (t n x) : Decidable (RowOk t n x) := by unfold RowOk; infer_instance
instance (t n k) : Decidable (RowsOk t n k) := by unfold RowsOk; infer_instance
instance (t) : Decidable (TableOk t) := by unfold TableOk; infer_instance
@[irreducible] def tableB (t : List (List Int)) : Bool := decide (TableOk t)
theorem tableB_iff {t : List (List Int)} : tableB t = true ↔ TableOk t := by unfold tableB; simp
theorem tableB_yes {t : List (List Int)} (h : TableOk t) : tableB t = true := tableB_iff.2 h
theorem tableB_no {t : List (List Int)} (h : ¬ TableOk t) : tableB t = false := by rw [← Bool.not_eq_true, tableB_iff]; exact h
theorem RowTo.mono {t n x j j'} (h : RowTo t n x j) (hj : j' ≤ j) : RowTo t n x j' := fun y hy => h y (by omega)
theorem RowsOk.mono {t n k k'} (h : RowsOk t n k) (hk : k' ≤ k) : RowsOk t n k' := fun y hy => h y (by omega)
theorem RowTo.zero (t n x) : RowTo t n x 0 := fun y hy => by omega
theorem RowTo.succ {t n x j} (h : RowTo t n x j) (hj : 0 ≤ ent t x j ∧ ent t x j ≤ (n : Int) - 1) : RowTo t n x (j + 1) := fun y hy => by
  by_cases e : y = j
  · subst e; exact hj
  · exact h y (by omega)
theorem RowsOk.zero (t n) : RowsOk t n 0 := fun y hy => by omega
theorem RowsOk.succ {t n k} (h : RowsOk t n k) (hk : RowOk t n k) : RowsOk t n (k + 1) := fun y hy => by
  by_cases e : y = k
  · subst e; exact hk
  · exact h y (by omega)

/-! ### permutations -/
theorem pigeon {α : Type} [DecidableEq α] : ∀ (a b : List α), a.Nodup → (∀ x, x ∈ a → x ∈ b) → b.length ≤ a.length → (∀ x, x ∈ b → x ∈ a) ∧ b.Nodup
  | [], b, _, _, hl => by
    have : b = [] := List.length_eq_zero_iff.1 (by simpa using hl)
    subst this; simp
  | x :: r, b, hn, hs, hl => by
    have hx : x ∈ b := hs x (by simp)
    have hn' := List.nodup_cons.1 hn
    have hp := List.perm_cons_erase hx
    have hlen := List.length_erase_of_mem hx
    have ⟨i1, i2⟩ := pigeon r (b.erase x) hn'.2 (fun y hy => by
      have hy' := hs y (by simp [hy])
      have hne : y ≠ x := fun e => hn'.1 (e ▸ hy)
      exact (List.mem_erase_of_ne hne).2 hy') (by simp at hl; omega)
    refine ⟨fun y hy => ?_, ?_⟩
    · have := (hp.mem_iff (a := y)).1 hy
      simp only [List.mem_cons] at this ⊢
      exact this.imp id (i1 y)
    · rw [hp.nodup_iff, List.nodup_cons]
      exact ⟨fun h => hn'.1 (i1 x h), i2⟩

theorem ix_mem (l : List Int) (i : Nat) (h : i < l.length) : ix l i ∈ l := by
  rw [ix_eq]; simp [List.getD, h]
theorem mem_ix {l : List Int} {x : Int} (h : x ∈ l) : ∃ i, i < l.length ∧ ix l i = x := by
  obtain ⟨i, hi, e⟩ := List.mem_iff_getElem.1 h
  exact ⟨i, hi, by rw [ix_eq]; simp [List.getD, hi, e]⟩

def InTo (l : List Int) (k : Nat) : Prop := ∀ i, i < k → 0 ≤ ix l i ∧ ix l i ≤ (l.length : Int) - 1
def DistinctTo (l : List Int) (k : Nat) : Prop := ∀ i, i < k → ∀ j, j < i → ix l j ≠ ix l i
def PermOk (l : List Int) : Prop := InTo l l.length ∧ DistinctTo l l.length
instance (l k) : Decidable (InTo l k) := by unfold InTo; infer_instance
instance (l k) : Decidable (DistinctTo l k) := by unfold DistinctTo; infer_instance
instance (l) : Decidable (PermOk l) := by unfold PermOk; infer_instance
@[irreducible] def permB (l : List Int) : Bool := decide (PermOk l)
theorem permB_iff {l : List Int} : permB l = true ↔ PermOk l := by unfold permB; simp
theorem permB_yes {l : List Int} (h : PermOk l) : permB l = true := permB_iff.2 h
theorem permB_no {l : List Int} (h : ¬ PermOk l) : permB l = false := by rw [← Bool.not_eq_true, permB_iff]; exact h

def HasTo (l : List Int) (k : Nat) : Prop := ∀ x : Nat, x < k → 0 ≤ indexOf l x
theorem HasTo.zero (l) : HasTo l 0 := fun y hy => by omega
theorem HasTo.mono {l k k'} (h : HasTo l k) (hk : k' ≤ k) : HasTo l k' := fun y hy => h y (by omega)
theorem HasTo.succ {l k} (h : HasTo l k) (hk : 0 ≤ indexOf l k) : HasTo l (k + 1) := fun y hy => by
  by_cases e : y = k
  · subst e; exact hk
  · exact h y (by omega)

theorem nodup_of_distinct : ∀ (l : List Int), DistinctTo l l.length → l.Nodup := by
  intro l h
  rw [List.nodup_iff_pairwise_ne, List.pairwise_iff_getElem]
  intro i j hi hj hij
  have := h j hj i hij
  rw [ix_eq, ix_eq] at this
  simpa [List.getD, hi, hj] using this
theorem distinct_of_nodup (l : List Int) (h : l.Nodup) : DistinctTo l l.length := by
  intro i hi j hj
  rw [List.nodup_iff_pairwise_ne, List.pairwise_iff_getElem] at h
  have := h j i (by omega) hi hj
  rw [ix_eq, ix_eq]
  have hj' : j < l.length := by omega
  simpa [List.getD, hi, hj'] using this

def intRange (n : Nat) : List Int := (List.range n).map fun (i : Nat) => (i : Int)
theorem mem_intRange {n : Nat} {x : Int} : x ∈ intRange n ↔ 0 ≤ x ∧ x < n := by
  unfold intRange
  simp only [List.mem_map, List.mem_range]
  constructor
  · rintro ⟨i, hi, rfl⟩; omega
  · rintro ⟨h0, h1⟩; exact ⟨x.toNat, by omega, by omega⟩
theorem nodup_intRange (n : Nat) : (intRange n).Nodup := by
  unfold intRange
  rw [List.nodup_iff_pairwise_ne, List.pairwise_map]
  exact (List.nodup_iff_pairwise_ne.1 List.nodup_range).imp (fun h => by omega)
theorem length_intRange (n : Nat) : (intRange n).length = n := by simp [intRange]

theorem permOk_iff_has (l : List Int) : PermOk l ↔ HasTo l l.length := by
  constructor
  · intro ⟨h1, h2⟩
    have hp := pigeon l (intRange l.length) (nodup_of_distinct l h2) (fun x hx => by
      obtain ⟨i, hi, rfl⟩ := mem_ix hx
      have := h1 i hi
      rw [mem_intRange]; omega) (by rw [length_intRange]; omega)
    intro x hx
    have hm : (x : Int) ∈ l := hp.1 x (mem_intRange.2 (by omega))
    obtain ⟨i, hi, e⟩ := mem_ix hm
    rcases indexOf_spec l x with ⟨_, h⟩ | ⟨j, _, hj, _⟩
    · exact absurd e (h i hi)
    · rw [hj]; omega
  · intro h
    have hp := pigeon (intRange l.length) l (nodup_intRange _) (fun x hx => by
      have hx' := mem_intRange.1 hx
      have := h x.toNat (by omega)
      rcases indexOf_spec l (x.toNat : Nat) with ⟨h1, _⟩ | ⟨j, h1, _, h3, _⟩
      · omega
      · have : x = ix l j := by omega
        rw [this]; exact ix_mem l j h1) (by rw [length_intRange]; omega)
    refine ⟨fun i hi => ?_, distinct_of_nodup l hp.2⟩
    have := mem_intRange.1 (hp.1 _ (ix_mem l i hi))
    omega

def AllInTo (l : List Int) (lo hi : Int) (k : Nat) : Prop := ∀ i, i < k → lo ≤ ix l i ∧ ix l i ≤ hi
instance (l lo hi k) : Decidable (AllInTo l lo hi k) := by unfold AllInTo; infer_instance
@[irreducible] def allInB (l : List Int) (lo hi : Int) : Bool := decide (AllInTo l lo hi l.length)
theorem allInB_iff {l lo hi} : allInB l lo hi = true ↔ AllInTo l lo hi l.length := by unfold allInB; simp
theorem allInB_yes {l lo hi} (h : AllInTo l lo hi l.length) : allInB l lo hi = true := allInB_iff.2 h
theorem allInB_no {l lo hi} (h : ¬ AllInTo l lo hi l.length) : allInB l lo hi = false := by rw [← Bool.not_eq_true, allInB_iff]; exact h
theorem AllInTo.zero (l lo hi) : AllInTo l lo hi 0 := fun y hy => by omega
theorem AllInTo.mono {l lo hi k k'} (h : AllInTo l lo hi k) (hk : k' ≤ k) : AllInTo l lo hi k' := fun y hy => h y (by omega)
theorem AllInTo.succ {l lo hi k} (h : AllInTo l lo hi k) (hk : lo ≤ ix l k ∧ ix l k ≤ hi) : AllInTo l lo hi (k + 1) := fun y hy => by
  by_cases e : y = k
  · subst e; exact hk
  · exact h y (by omega)

def findFrom {α : Type} (p : α → Bool) : List α → Nat → Int
  | [], _ => -1
  | x :: r, k => if p x then (k : Int) else findFrom p r (k + 1)
@[irreducible] def findIx {α : Type} (p : α → Bool) (l : List α) : Int := findFrom p l 0
theorem row_drop (l : List (List Int)) (k : Nat) (h : k < l.length) : l.drop k = row l k :: l.drop (k + 1) := by
  rw [List.drop_eq_getElem_cons h, row_eq]; simp [List.getD, h]
theorem findFrom_hit (p : List Int → Bool) (l : List (List Int)) (k : Nat) (h : k < l.length) (e : p (row l k) = true) : findFrom p (l.drop k) k = k := by
  rw [row_drop l k h, findFrom, if_pos e]
theorem findFrom_miss (p : List Int → Bool) (l : List (List Int)) (k : Nat) (h : k < l.length) (e : p (row l k) = false) : findFrom p (l.drop k) k = findFrom p (l.drop (k + 1)) (k + 1) := by
  rw [row_drop l k h, findFrom, if_neg (by rw [e]; simp)]
theorem findFrom_end {α : Type} (p : α → Bool) (l : List α) (k : Nat) (h : l.length ≤ k) : findFrom p (l.drop k) k = -1 := by
  rw [List.drop_of_length_le h]; rfl
theorem findFrom_any {α : Type} (p : α → Bool) : ∀ (l : List α) (k : Nat), (0 ≤ findFrom p l k ↔ l.any p = true)
  | [], k => by simp [findFrom]
  | x :: r, k => by
    unfold findFrom
    by_cases h : p x = true
    · simp [h]
    · have h' : p x = false := by simpa using h
      simp only [h', Bool.false_eq_true, if_false, List.any_cons, Bool.false_or]
      exact findFrom_any p r (k + 1)
@[irreducible] def anyB {α : Type} (p : α → Bool) (l : List α) : Bool := l.any p
theorem anyB_find {α : Type} (p : α → Bool) (l : List α) : anyB p l = decide (0 ≤ findIx p l) := by
  unfold anyB findIx
  rw [Bool.eq_iff_iff, decide_eq_true_iff, findFrom_any]
theorem anyB_row (p : List Int → Bool) (t : List (List Int)) : anyB p t = false ↔ ∀ x, x < t.length → p (row t x) = false := by
  unfold anyB
  rw [List.any_eq_false]
  constructor
  · intro h x hx
    have := h (row t x) (by rw [row_eq]; simp [List.getD, hx])
    simpa using this
  · intro h y hy
    obtain ⟨i, hi, rfl⟩ := List.mem_iff_getElem.1 hy
    have := h i hi
    rw [row_eq] at this
    simpa [List.getD, hi] using this

@[irreducible] def badRow (n : Int) (l : List Int) : Bool := (((l.length : Int) != n) || !allInB l 0 (n - 1))
theorem badRow_def (n : Int) (l : List Int) : badRow n l = (((l.length : Int) != n) || !allInB l 0 (n - 1)) := by unfold badRow; rfl
theorem tableB_any (t : List (List Int)) : tableB t = (inR t.length 1 12 && !anyB (badRow t.length) t) := by
  rw [Bool.eq_iff_iff, tableB_iff, Bool.and_eq_true, inR_iff, Bool.not_eq_true', anyB_row]
  unfold TableOk
  constructor
  · rintro ⟨h1, h2, h3⟩
    refine ⟨by omega, fun x hx => ?_⟩
    have := h3 x hx
    rw [badRow_def]
    simp only [Bool.or_eq_false_iff, Bool.not_eq_false']
    refine ⟨by have := this.1; simp; omega, allInB_yes (fun i hi => ?_)⟩
    have := this.2 i (by rw [← (h3 x hx).1]; exact hi)
    rw [← ent_def] at this
    exact this
  · rintro ⟨h1, h2⟩
    refine ⟨by omega, by omega, fun x hx => ?_⟩
    have := h2 x hx
    rw [badRow_def] at this
    simp only [Bool.or_eq_false_iff, Bool.not_eq_false'] at this
    have hl : (row t x).length = t.length := by have := this.1; simp at this; omega
    refine ⟨hl, fun y hy => ?_⟩
    have := allInB_iff.1 this.2 y (by rw [hl]; exact hy)
    rw [ent_def] at this
    exact this

@[irreducible] def seenB (l : List Int) (k x : Nat) : Bool := decide (∃ j, j < k ∧ ix l j = (x : Int))
theorem seenB_zero (l : List Int) (x : Nat) : seenB l 0 x = false := by unfold seenB; simp
theorem seenB_iff {l : List Int} {k x : Nat} : seenB l k x = true ↔ ∃ j, j < k ∧ ix l j = (x : Int) := by unfold seenB; simp
theorem seenB_no {l : List Int} {k x : Nat} : seenB l k x = false ↔ ∀ j, j < k → ix l j ≠ (x : Int) := by
  rw [← Bool.not_eq_true, seenB_iff]
  constructor
  · exact fun h j hj e => h ⟨j, hj, e⟩
  · rintro h ⟨j, hj, e⟩; exact h j hj e
theorem seenB_succ (l : List Int) (k x : Nat) (h0 : 0 ≤ ix l k) : seenB l (k + 1) x = if x = (ix l k).toNat then true else seenB l k x := by
  by_cases e : x = (ix l k).toNat
  · rw [if_pos e, seenB_iff]; exact ⟨k, by omega, by omega⟩
  · rw [if_neg e, Bool.eq_iff_iff, seenB_iff, seenB_iff]
    constructor
    · rintro ⟨j, hj, e'⟩
      exact ⟨j, by
        have : j ≠ k := fun h => by subst h; omega
        omega, e'⟩
    · rintro ⟨j, hj, e'⟩; exact ⟨j, by omega, e'⟩
theorem InTo.zero (l) : InTo l 0 := fun y hy => by omega
theorem InTo.succ {l k} (h : InTo l k) (hk : 0 ≤ ix l k ∧ ix l k ≤ (l.length : Int) - 1) : InTo l (k + 1) := fun y hy => by
  by_cases e : y = k
  · subst e; exact hk
  · exact h y (by omega)
theorem InTo.mono {l k k'} (h : InTo l k) (hk : k' ≤ k) : InTo l k' := fun y hy => h y (by omega)
theorem DistinctTo.zero (l) : DistinctTo l 0 := fun y hy => by omega
theorem DistinctTo.succ {l k} (h : DistinctTo l k) (hk : ∀ j, j < k → ix l j ≠ ix l k) : DistinctTo l (k + 1) := fun y hy => by
  by_cases e : y = k
  · subst e; exact hk
  · exact h y (by omega)
theorem DistinctTo.mono {l k k'} (h : DistinctTo l k) (hk : k' ≤ k) : DistinctTo l k' := fun y hy => h y (by omega)
@[irreducible] def permRowsB (t : List (List Int)) : Bool := !anyB (fun l => !permB l) t
theorem permRowsB_def (t : List (List Int)) : permRowsB t = !anyB (fun l => !permB l) t := by unfold permRowsB; rfl
theorem permRowsB_iff {t : List (List Int)} : permRowsB t = true ↔ ∀ x, x < t.length → PermOk (row t x) := by
  rw [permRowsB_def, Bool.not_eq_true', anyB_row]
  constructor
  · intro h x hx
    have := h x hx
    exact permB_iff.1 (by simpa using this)
  · intro h x hx
    have := permB_yes (h x hx)
    simpa using this

/-! ### groups -/
def AssocTo (t : List (List Int)) (x y k : Nat) : Prop := ∀ z, z < k → ent t (ent t x y).toNat z = ent t x (ent t y z).toNat
def AssocY (t : List (List Int)) (n x k : Nat) : Prop := ∀ y, y < k → AssocTo t x y n
def UnitAt (t : List (List Int)) (x : Nat) : Prop := ent t 0 x = x ∧ ent t x 0 = x
def PermRows (t : List (List Int)) (k : Nat) : Prop := ∀ x, x < k → PermOk (row t x)
def UnitAssocTo (t : List (List Int)) (n k : Nat) : Prop := ∀ x, x < k → UnitAt t x ∧ AssocY t n x n
def GroupOk (t : List (List Int)) : Prop := TableOk t ∧ PermRows t t.length ∧ UnitAssocTo t t.length t.length
instance (t x y k) : Decidable (AssocTo t x y k) := by unfold AssocTo; infer_instance
instance (t n x k) : Decidable (AssocY t n x k) := by unfold AssocY; infer_instance
instance (t x) : Decidable (UnitAt t x) := by unfold UnitAt; infer_instance
instance (t k) : Decidable (PermRows t k) := by unfold PermRows; infer_instance
instance (t n k) : Decidable (UnitAssocTo t n k) := by unfold UnitAssocTo; infer_instance
instance (t) : Decidable (GroupOk t) := by unfold GroupOk; infer_instance
@[irreducible] def groupB (t : List (List Int)) : Bool := decide (GroupOk t)
theorem all_zero {p : Nat → Prop} : ∀ x, x < 0 → p x := fun x h => by omega
theorem all_succ {p : Nat → Prop} {k : Nat} (h : ∀ x, x < k → p x) (hk : p k) : ∀ x, x < k + 1 → p x := fun y hy => by
  by_cases e : y = k
  · subst e; exact hk
  · exact h y (by omega)
theorem all_mono {p : Nat → Prop} {k k' : Nat} (h : ∀ x, x < k → p x) (hk : k' ≤ k) : ∀ x, x < k' → p x := fun y hy => h y (by omega)
theorem AssocTo.zero (t x y) : AssocTo t x y 0 := all_zero
theorem AssocTo.succ {t x y k} (h : AssocTo t x y k) (hk : ent t (ent t x y).toNat k = ent t x (ent t y k).toNat) : AssocTo t x y (k + 1) := all_succ h hk
theorem AssocTo.mono {t x y k k'} (h : AssocTo t x y k) (hk : k' ≤ k) : AssocTo t x y k' := all_mono h hk
theorem AssocY.zero (t n x) : AssocY t n x 0 := all_zero
theorem AssocY.succ {t n x k} (h : AssocY t n x k) (hk : AssocTo t x k n) : AssocY t n x (k + 1) := all_succ h hk
theorem AssocY.mono {t n x k k'} (h : AssocY t n x k) (hk : k' ≤ k) : AssocY t n x k' := all_mono h hk
theorem PermRows.zero (t) : PermRows t 0 := all_zero
theorem PermRows.succ {t k} (h : PermRows t k) (hk : PermOk (row t k)) : PermRows t (k + 1) := all_succ h hk
theorem PermRows.mono {t k k'} (h : PermRows t k) (hk : k' ≤ k) : PermRows t k' := all_mono h hk
theorem UnitAssocTo.zero (t n) : UnitAssocTo t n 0 := all_zero
theorem UnitAssocTo.succ {t n k} (h : UnitAssocTo t n k) (hk : UnitAt t k) (ha : AssocY t n k n) : UnitAssocTo t n (k + 1) := all_succ h ⟨hk, ha⟩
theorem UnitAssocTo.mono {t n k k'} (h : UnitAssocTo t n k) (hk : k' ≤ k) : UnitAssocTo t n k' := all_mono h hk
theorem TableOk.len {t} (h : TableOk t) {x : Nat} (hx : x < t.length) : (row t x).length = t.length := (h.2.2 x hx).1
theorem TableOk.bd {t} (h : TableOk t) {x y : Nat} (hx : x < t.length) (hy : y < t.length) : 0 ≤ ent t x y ∧ ent t x y ≤ (t.length : Int) - 1 := (h.2.2 x hx).2 y hy
end Go.Proofs.YtjfjpngajboidaaGreat


namespace Go.Proofs.YtjfjpngajboidaaGreat
set_option linter.unusedVariables false
set_option linter.unusedSimpArgs false
open Go.RowKit

@[irreducible] def setE (t : List (List Int)) (k j : Nat) (x : Int) : List (List Int) := t.set k ((row t k).set j x)
theorem length_setE (t : List (List Int)) (k j : Nat) (x : Int) : (setE t k j x).length = t.length := by unfold setE; simp
theorem row_set_same (t : List (List Int)) (k : Nat) (l : List Int) (h : k < t.length) : row (t.set k l) k = l := by rw [row_eq]; simp [List.getD, h]
theorem row_set_other (t : List (List Int)) (k i : Nat) (l : List Int) (h : i ≠ k) : row (t.set k l) i = row t i := by
  rw [row_eq, row_eq]; simp [List.getD, List.getElem?_set_ne (Ne.symm h)]
theorem row_setE_same (t : List (List Int)) (k j : Nat) (x : Int) (h : k < t.length) : row (setE t k j x) k = (row t k).set j x := by unfold setE; exact row_set_same _ _ _ h
theorem row_setE_other (t : List (List Int)) (k j i : Nat) (x : Int) (h : i ≠ k) : row (setE t k j x) i = row t i := by unfold setE; exact row_set_other _ _ _ _ h
theorem length_row_setE (t : List (List Int)) (k j i : Nat) (x : Int) (h : k < t.length) : (row (setE t k j x) i).length = (row t i).length := by
  by_cases e : i = k
  · subst e; rw [row_setE_same _ _ _ _ h, List.length_set]
  · rw [row_setE_other _ _ _ _ _ e]
theorem ix_set_eq (l : List Int) (i : Nat) (v : Int) (h : i < l.length) : ix (l.set i v) i = v := by rw [ix_eq]; simp [List.getD, h]
theorem ix_set_ne (l : List Int) (i j : Nat) (v : Int) (h : j ≠ i) : ix (l.set i v) j = ix l j := by rw [ix_eq, ix_eq]; simp [List.getD, List.getElem?_set_ne (Ne.symm h)]
theorem ent_setE_same (t : List (List Int)) (k j : Nat) (x : Int) (h : k < t.length) (hj : j < (row t k).length) : ent (setE t k j x) k j = x := by
  rw [← ent_def, row_setE_same _ _ _ _ h, ix_set_eq _ _ _ hj]
theorem ent_setE_other (t : List (List Int)) (k j a b : Nat) (x : Int) (h : k < t.length) (hne : a ≠ k ∨ b ≠ j) : ent (setE t k j x) a b = ent t a b := by
  rw [← ent_def, ← ent_def]
  by_cases e : a = k
  · subst e
    rw [row_setE_same _ _ _ _ h]
    rcases hne with e | e
    · exact absurd rfl e
    · rw [ix_set_ne _ _ _ _ e]
  · rw [row_setE_other _ _ _ _ _ e]
theorem OwnT.get {lo hi : Nat} {w : World} {b o : Nat} {t : List (List Int)} (h : OwnT lo hi w b o t) {k : Nat} (hk : k < t.length) :
    ∃ b1 o1 c1, w.cell? ⟨b, o + k, none⟩ = some (.slice (some ⟨b1, o1, none⟩) (row t k).length c1) ∧ OwnI lo hi w b1 o1 (row t k) := by
  obtain ⟨h1, h2, B, O, C, h3, h4⟩ := h
  exact ⟨_, _, _, (h3 k hk).1, (h3 k hk).2.1⟩
theorem OwnI.setOther {lo hi : Nat} {w : World} {b o : Nat} {l : List Int} (h : OwnI lo hi w b o l) {a : Addr} (ha : a.block ≠ b) (u : Value) : OwnI lo hi (w.setCell a u) b o l :=
  h.block (Below.heap_setCell _ _ _ _ (fun e => ha e.symm))
theorem OwnI.put {lo hi : Nat} {w : World} {b o : Nat} {l : List Int} (h : OwnI lo hi w b o l) {j : Nat} (hj : j < l.length) (x : Int) : OwnI lo hi (w.setCell ⟨b, o + j, none⟩ (.int .i64 x)) b o (l.set j x) :=
  ⟨h.1, h.2.1, h.2.2.1.set j x hj (by simp) (fun i hi _ => ix_set_ne _ _ _ _ hi) (ix_set_eq _ _ _ hj), by rw [List.length_set]; exact h.2.2.2.set _ _⟩
theorem OwnT.put {lo hi : Nat} {w : World} {b o : Nat} {t : List (List Int)} (h : OwnT lo hi w b o t) {k j b1 o1 n1 c1 : Nat} (hk : k < t.length) (hj : j < (row t k).length) (hc : w.cell? ⟨b, o + k, none⟩ = some (.slice (some ⟨b1, o1, none⟩) n1 c1)) (x : Int) :
    OwnT lo hi (w.setCell ⟨b1, o1 + j, none⟩ (.int .i64 x)) b o (setE t k j x) := by
  obtain ⟨h1, h2, B, O, C, h3, h4, h5⟩ := h
  obtain ⟨a1, a2, a3⟩ := h3 k hk
  rw [a1] at hc
  simp only [Option.some.injEq, Value.slice.injEq, Addr.mk.injEq, and_true] at hc
  obtain ⟨⟨rfl, rfl⟩, _, _⟩ := hc
  refine ⟨h1, h2, B, O, C, fun i hi => ?_, fun i j hi hj e => h4 i j (by rw [length_setE] at hi; exact hi) (by rw [length_setE] at hj; exact hj) e, by rw [length_setE]; exact h5.set _ _⟩
  rw [length_setE] at hi
  obtain ⟨b1, b2, b3⟩ := h3 i hi
  refine ⟨?_, ?_, b3⟩
  · rw [length_row_setE _ _ _ _ _ hk, World.cell?_setCell_other _ _ _ _ (fun e => a3 (by have := congrArg Addr.block e; simp only [] at this; exact this))]
    exact b1
  · by_cases e : i = k
    · subst e
      rw [row_setE_same _ _ _ _ hk]
      exact b2.put hj x
    · rw [row_setE_other _ _ _ _ _ e]
      exact b2.setOther (fun e2 => e (h4 i k hi hk e2.symm)) _
end Go.Proofs.YtjfjpngajboidaaGreat


namespace Go.Proofs.YtjfjpngajboidaaGreat
set_option linter.unusedVariables false
set_option linter.unusedSimpArgs false
open Go.RowKit

theorem kc_alloc {w : World} {a : Addr} {v : Value} {o : Obj} (h : w.cell? a = some v) : (w.alloc o).cell? a = some v := ((Ext.refl w).alloc o).cell h
theorem kc_drew {w : World} {a : Addr} {v : Value} (h : w.cell? a = some v) : w.drew.cell? a = some v := h
theorem kc_drewN {w : World} {a : Addr} {v : Value} {n : Nat} (h : w.cell? a = some v) : (w.drewN n).cell? a = some v := ((Ext.refl w).drewN n).cell h
theorem kc_set {w : World} {a p : Addr} {v u : Value} (hb : a.block ≠ p.block) (h : w.cell? a = some v) : (w.setCell p u).cell? a = some v := by
  rw [World.cell?_setCell_other _ _ _ _ (fun e => hb (by rw [e]))]; exact h
theorem kc_set2 {w : World} {a p : Addr} {v u : Value} (hb : a.off ≠ p.off) (h : w.cell? a = some v) : (w.setCell p u).cell? a = some v := by
  rw [World.cell?_setCell_other _ _ _ _ (fun e => hb (by rw [e]))]; exact h
theorem kc_same {w : World} {a : Addr} {v u : Value} (h : w.cell? a = some v) : (w.setCell a u).cell? a = some u := World.cell?_setCell_same _ _ _ h
theorem kc_new {w : World} {v : Value} {T : Nat} : (w.alloc (.cells #[v] T)).cell? ⟨w.heap.size, 0, none⟩ = some v := by simp
theorem kc_newE {w : World} {v : Value} {T n : Nat} (h : n = w.heap.size) : (w.alloc (.cells #[v] T)).cell? ⟨n, 0, none⟩ = some v := by subst h; exact kc_new
theorem kc_newEa {w : World} {v u : Value} {T n : Nat} (h : n = w.heap.size) : (w.alloc (.cells #[v, u] T)).cell? ⟨n, 0, none⟩ = some v := by subst h; simp [go_sem]
theorem kc_newEb {w : World} {v u : Value} {T n : Nat} (h : n = w.heap.size) : (w.alloc (.cells #[v, u] T)).cell? ⟨n, 1, none⟩ = some u := by subst h; simp [go_sem]
theorem kx_set {a w : World} {p : Addr} {u : Value} (hp : a.heap.size ≤ p.block) (h : Ext a w) : Ext a (w.setCell p u) := h.setNew hp u
theorem kx_alloc {a w : World} {o : Obj} (h : Ext a w) : Ext a (w.alloc o) := h.alloc o
theorem kx_drewN {a w : World} {n : Nat} (h : Ext a w) : Ext a (w.drewN n) := h.drewN n
theorem kf_set {w : World} {a p : Addr} {u : Value} (h : w.frozen? a = false) : (w.setCell p u).frozen? a = false := by rw [World.frozen?_setCell]; exact h
end Go.Proofs.YtjfjpngajboidaaGreat


namespace Go.Proofs.YtjfjpngajboidaaGreat
set_option linter.unusedVariables false
set_option linter.unusedSimpArgs false
open Go.RowKit
theorem kf_drew {w : World} {a : Addr} (h : w.frozen? a = false) : w.drew.frozen? a = false := h
end Go.Proofs.YtjfjpngajboidaaGreat


namespace Go.Proofs.YtjfjpngajboidaaGreat
set_option linter.unusedVariables false
set_option linter.unusedSimpArgs false
open Go.RowKit

theorem OwnT.ext {lo hi : Nat} {w w' : World} {b o : Nat} {t : List (List Int)} (h : OwnT lo hi w b o t) (hx : Ext w w') (hh : hi ≤ w.heap.size) : OwnT lo hi w' b o t := h.keep fun k _ hk => hx.block k (by omega)

def BoxB (B : Nat) (W : World) : Prop := W.cell? ⟨B, 0, none⟩ = some (.slice none 0 0) ∧ W.cell? ⟨B, 1, none⟩ = some (.slice none 0 0) ∧ W.frozen? ⟨B, 0, none⟩ = false ∧ W.frozen? ⟨B, 1, none⟩ = false

theorem BoxB.ext {B : Nat} {W W' : World} (h : BoxB B W) (m : Ext W W') (hB : B < W.heap.size) : BoxB B W' := by
  have hb := m.block B hB
  refine ⟨?_, ?_, ?_, ?_⟩
  · rw [World.cell?_of_block (w := W) (a := ⟨B, 0, none⟩) hb]; exact h.1
  · rw [World.cell?_of_block (w := W) (a := ⟨B, 1, none⟩) hb]; exact h.2.1
  · rw [World.frozen?_of_block (w := W) (a := ⟨B, 0, none⟩) hb]; exact h.2.2.1
  · rw [World.frozen?_of_block (w := W) (a := ⟨B, 1, none⟩) hb]; exact h.2.2.2

theorem BoxB.new (w : World) (T : TypeId) : BoxB w.heap.size (w.alloc (.cells #[.slice none 0 0, .slice none 0 0] T)) := ⟨by simp [go_sem], by simp [go_sem], by simp [go_sem], by simp [go_sem]⟩

theorem BoxB.keep {B : Nat} {W W' : World} (h : BoxB B W) (hb : W'.heap[B]? = W.heap[B]?) : BoxB B W' := by
  refine ⟨?_, ?_, ?_, ?_⟩
  · rw [World.cell?_of_block (w := W) (a := ⟨B, 0, none⟩) hb]; exact h.1
  · rw [World.cell?_of_block (w := W) (a := ⟨B, 1, none⟩) hb]; exact h.2.1
  · rw [World.frozen?_of_block (w := W) (a := ⟨B, 0, none⟩) hb]; exact h.2.2.1
  · rw [World.frozen?_of_block (w := W) (a := ⟨B, 1, none⟩) hb]; exact h.2.2.2

theorem BoxB.set {B : Nat} {W : World} (h : BoxB B W) {p : Addr} (hp : B ≠ p.block) (v : Value) : BoxB B (W.setCell p v) := h.keep (Below.heap_setCell _ _ _ _ hp)

def BoxC (B : Nat) (W : World) (v y : Value) : Prop := W.cell? ⟨B, 0, none⟩ = some v ∧ W.cell? ⟨B, 1, none⟩ = some y ∧ W.frozen? ⟨B, 0, none⟩ = false ∧ W.frozen? ⟨B, 1, none⟩ = false

theorem BoxC.keep {B : Nat} {W W' : World} {v y : Value} (h : BoxC B W v y) (hb : W'.heap[B]? = W.heap[B]?) : BoxC B W' v y := by
  refine ⟨?_, ?_, ?_, ?_⟩
  · rw [World.cell?_of_block (w := W) (a := ⟨B, 0, none⟩) hb]; exact h.1
  · rw [World.cell?_of_block (w := W) (a := ⟨B, 1, none⟩) hb]; exact h.2.1
  · rw [World.frozen?_of_block (w := W) (a := ⟨B, 0, none⟩) hb]; exact h.2.2.1
  · rw [World.frozen?_of_block (w := W) (a := ⟨B, 1, none⟩) hb]; exact h.2.2.2

theorem BoxC.new (w : World) (v y : Value) (T : TypeId) : BoxC w.heap.size (w.alloc (.cells #[v, y] T)) v y := ⟨by simp [go_sem], by simp [go_sem], by simp [go_sem], by simp [go_sem]⟩

end Go.Proofs.YtjfjpngajboidaaGreat


namespace Go.Proofs.YtjfjpngajboidaaGreat
set_option linter.unusedVariables false
set_option linter.unusedSimpArgs false

theorem ent_nn {t : List (List Int)} (h : TableOk t) {x y : Nat} (hx : x < t.length) (hy : y < t.length) : (ent t x y).toNat < t.length := by
  have := h.bd hx hy; omega

theorem grp_assoc {t : List (List Int)} (h : GroupOk t) {x y z : Nat} (hx : x < t.length) (hy : y < t.length) (hz : z < t.length) : ent t (ent t x y).toNat z = ent t x (ent t y z).toNat := (h.2.2 x hx).2 y hy z hz
theorem grp_unit_l {t : List (List Int)} (h : GroupOk t) {x : Nat} (hx : x < t.length) : ent t 0 x = x := (h.2.2 x hx).1.1
theorem grp_unit_r {t : List (List Int)} (h : GroupOk t) {x : Nat} (hx : x < t.length) : ent t x 0 = x := (h.2.2 x hx).1.2
theorem grp_inj {t : List (List Int)} (h : GroupOk t) {x y z : Nat} (hx : x < t.length) (hy : y < t.length) (hz : z < t.length) (e : ent t x y = ent t x z) : y = z := by
  have hp := (h.2.1 x hx).2
  have hl := h.1.len hx
  rw [← ent_def, ← ent_def] at e
  rcases Nat.lt_trichotomy y z with h1 | h1 | h1
  · exact absurd e (hp z (by omega) y h1)
  · exact h1
  · exact absurd e.symm (hp y (by omega) z h1)
theorem nodup_le {α : Type} [DecidableEq α] : ∀ (a b : List α), a.Nodup → (∀ x, x ∈ a → x ∈ b) → a.length ≤ b.length
  | [], b, _, _ => by simp
  | z :: r, b, hn, hs => by
    have hz : z ∈ b := hs z (by simp)
    have hn' := List.nodup_cons.1 hn
    have h1 := nodup_le r (b.erase z) hn'.2 (fun y hy => by
      have hne : y ≠ z := fun e => hn'.1 (e ▸ hy)
      exact (List.mem_erase_of_ne hne).2 (hs y (by simp [hy])))
    rw [List.length_erase_of_mem hz] at h1
    have h2 : 0 < b.length := List.length_pos_of_mem hz
    simp; omega
end Go.Proofs.YtjfjpngajboidaaGreat


namespace Go.Proofs.YtjfjpngajboidaaGreat
set_option linter.unusedVariables false
set_option linter.unusedSimpArgs false

@[irreducible] def mkL (n : Nat) (f : Nat → Int) : List Int := (List.range n).map f
theorem length_mkL (n : Nat) (f : Nat → Int) : (mkL n f).length = n := by unfold mkL; simp
theorem ix_mkL (n : Nat) (f : Nat → Int) (i : Nat) (h : i < n) : ix (mkL n f) i = f i := by rw [ix_eq]; unfold mkL; simp [List.getD, h]

@[irreducible] def backF (t : List (List Int)) (x : Nat) : Int := indexOf (row t x) 0
theorem backF_ok {t : List (List Int)} (hG : GroupOk t) {x : Nat} (hx : x < t.length) : 0 ≤ backF t x ∧ backF t x ≤ (t.length : Int) - 1 ∧ ent t x (backF t x).toNat = 0 := by
  have hl := hG.1.len hx
  have h0 := (permOk_iff_has (row t x)).1 (hG.2.1 x hx) 0 (by omega)
  unfold backF
  rcases indexOf_spec (row t x) 0 with ⟨h1, _⟩ | ⟨i, hi, h1, h2, _⟩
  · simp at h0; omega
  · rw [h1]
    exact ⟨by omega, by omega, by rw [← ent_def]; simpa using h2⟩

end Go.Proofs.YtjfjpngajboidaaGreat
