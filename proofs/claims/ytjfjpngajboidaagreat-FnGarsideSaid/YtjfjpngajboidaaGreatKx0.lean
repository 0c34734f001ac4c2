/-
  What a slice of integers, and a slice of such slices, holds in memory; worlds that keep what was there. No program in sight.
-/
import Derived.WalkKit
import Derived.WalkSpells
import Derived.BigQuiet
import Derived.Deep.QuietTactic
import Derived.Lib.Hide
namespace Go.Proofs.YtjfjpngajboidaaGreat
set_option linter.unusedVariables false
set_option linter.unusedSimpArgs false
open Go.RowKit

@[irreducible] def ix (l : List Int) (i : Nat) : Int := l.getD i 0
@[irreducible] def row (t : List (List Int)) (i : Nat) : List Int := t.getD i []
@[irreducible] def ent (t : List (List Int)) (i j : Nat) : Int := ix (row t i) j

theorem ent_def (t : List (List Int)) (i j : Nat) : ix (row t i) j = ent t i j := by unfold ent; rfl

theorem ix_eq (l : List Int) (i : Nat) : ix l i = l.getD i 0 := by unfold ix; rfl
theorem row_eq (t : List (List Int)) (i : Nat) : row t i = t.getD i [] := by unfold row; rfl

def Ext (w w' : World) : Prop := Below w.heap.size w w'
theorem Ext.refl (w : World) : Ext w w := Below.refl _ _
theorem Ext.trans {a b c : World} (h : Ext a b) (k : Ext b c) : Ext a c := Below.trans h (Below.mono k h.size)
theorem Ext.size {a b : World} (h : Ext a b) : a.heap.size ≤ b.heap.size := Below.size h
theorem Ext.drew {a w : World} (h : Ext a w) : Ext a w.drew := Below.drew h
theorem Ext.drewN {a w : World} (h : Ext a w) (n : Nat) : Ext a (w.drewN n) := by
  exact ⟨h.os, h.tape, h.output, h.size, h.block⟩
theorem Ext.alloc {a w : World} (h : Ext a w) (o : Obj) : Ext a (w.alloc o) := Below.alloc h h.size o
theorem Ext.setNew {a w : World} (h : Ext a w) {p : Addr} (hp : a.heap.size ≤ p.block) (u : Value) : Ext a (w.setCell p u) := Below.setCell h hp u
theorem Ext.cell {w w' : World} (h : Ext w w') {p : Addr} {v : Value} (hp : w.cell? p = some v) : w'.cell? p = some v := by
  have : p.block < w.heap.size := by
    unfold World.cell? at hp
    by_cases hb : p.block < w.heap.size
    · exact hb
    · rw [Array.getElem?_eq_none (by omega)] at hp; simp at hp
  rw [Below.cell h this]; exact hp

theorem Ext.free {w w' : World} (h : Ext w w') {p : Addr} (hf : w.frozen? p = false) (hp : p.block < w.heap.size) : w'.frozen? p = false := by
  rw [Below.frozen h hp]; exact hf
def Drawn (w w' : World) : Prop := ∃ n, w' = w.drewN n
theorem Drawn.refl (w : World) : Drawn w w := ⟨0, rfl⟩
theorem Drawn.drewN {a w : World} (h : Drawn a w) (n : Nat) : Drawn a (w.drewN n) := by
  obtain ⟨m, rfl⟩ := h
  exact ⟨m + n, by rw [World.drewN_drewN]⟩
theorem Drawn.trans {a b c : World} (h : Drawn a b) (k : Drawn b c) : Drawn a c := by
  obtain ⟨n, rfl⟩ := k
  exact h.drewN n
theorem Drawn.ext {a w : World} (h : Drawn a w) : Ext a w := by
  obtain ⟨n, rfl⟩ := h
  exact (Ext.refl a).drewN n
def IntsAt (w : World) (b o : Nat) (l : List Int) : Prop := ∀ i, i < l.length → w.cell? ⟨b, o + i, none⟩ = some (.int .i64 (ix l i))
def Ints (w : World) (v : Value) (l : List Int) : Prop :=
  l.length ≤ 1048576 ∧ ∃ b o c, v = .slice (some ⟨b, o, none⟩) l.length c ∧ IntsAt w b o l

theorem IntsAt.ext {w w' : World} {b o : Nat} {l : List Int} (h : IntsAt w b o l) (hx : Ext w w') : IntsAt w' b o l := fun i hi => hx.cell (h i hi)
theorem IntsAt.head {w : World} {b o : Nat} {l : List Int} (h : IntsAt w b o l) (hi : 0 < l.length) : w.cell? ⟨b, o, none⟩ = some (.int .i64 (ix l 0)) := h 0 hi
theorem Ints.ext {w w' : World} {v : Value} {l : List Int} (h : Ints w v l) (hx : Ext w w') : Ints w' v l := by
  obtain ⟨hl, b, o, c, rfl, hc⟩ := h
  exact ⟨hl, b, o, c, rfl, hc.ext hx⟩

def RowsAt (w : World) (b o : Nat) (t : List (List Int)) : Prop := ∀ i, i < t.length → ∃ r, w.cell? ⟨b, o + i, none⟩ = some r ∧ Ints w r (row t i)
def Rows (w : World) (v : Value) (t : List (List Int)) : Prop :=
  t.length ≤ 1048576 ∧ ∃ b o c, v = .slice (some ⟨b, o, none⟩) t.length c ∧ RowsAt w b o t

theorem RowsAt.ext {w w' : World} {b o : Nat} {t : List (List Int)} (h : RowsAt w b o t) (hx : Ext w w') : RowsAt w' b o t := fun i hi => by
  obtain ⟨r, h1, h2⟩ := h i hi
  exact ⟨r, hx.cell h1, h2.ext hx⟩
theorem RowsAt.get {w : World} {b o : Nat} {t : List (List Int)} (h : RowsAt w b o t) {i : Nat} (hi : i < t.length) :
    ∃ b1 o1 c1, w.cell? ⟨b, o + i, none⟩ = some (.slice (some ⟨b1, o1, none⟩) (row t i).length c1) ∧ IntsAt w b1 o1 (row t i) ∧ (row t i).length ≤ 1048576 := by
  obtain ⟨r, h1, hl, b1, o1, c1, rfl, h2⟩ := h i hi
  exact ⟨b1, o1, c1, h1, h2, hl⟩
theorem RowsAt.head {w : World} {b o : Nat} {t : List (List Int)} (h : RowsAt w b o t) (hi : 0 < t.length) :
    ∃ b1 o1 c1, w.cell? ⟨b, o, none⟩ = some (.slice (some ⟨b1, o1, none⟩) (row t 0).length c1) ∧ IntsAt w b1 o1 (row t 0) ∧ (row t 0).length ≤ 1048576 := by
  simpa using h.get hi
theorem Rows.ext {w w' : World} {v : Value} {t : List (List Int)} (h : Rows w v t) (hx : Ext w w') : Rows w' v t := by
  obtain ⟨hl, b, o, c, rfl, hc⟩ := h
  exact ⟨hl, b, o, c, rfl, hc.ext hx⟩
theorem IntsAt.ints {w : World} {b o : Nat} {l : List Int} (h : IntsAt w b o l) (hl : l.length ≤ 1048576) (c : Nat) : Ints w (.slice (some ⟨b, o, none⟩) l.length c) l := ⟨hl, b, o, c, rfl, h⟩
theorem RowsAt.rows {w : World} {b o : Nat} {t : List (List Int)} (h : RowsAt w b o t) (hl : t.length ≤ 1048576) (c : Nat) : Rows w (.slice (some ⟨b, o, none⟩) t.length c) t := ⟨hl, b, o, c, rfl, h⟩
theorem IntsAt.ent {w : World} {b o : Nat} {t : List (List Int)} {x : Nat} (h : IntsAt w b o (row t x)) {y n : Nat} (hl : (row t x).length = n) (hy : y < n) : w.cell? ⟨b, o + y, none⟩ = some (.int .i64 (ent t x y)) := by
  rw [← ent_def]; exact h y (by omega)
theorem app0 (a : Value) : #[a] ++ (#[] : Array Value) = #[a] := rfl
theorem app1 (a b : Value) : #[a] ++ #[b] = #[a, b] := rfl
theorem app2 (a b c : Value) : #[a] ++ #[b, c] = #[a, b, c] := rfl
theorem app21 (a b c : Value) : #[a, b] ++ #[c] = #[a, b, c] := rfl
theorem callFunc_enter {P : Program} {f : Nat} {fn : Func} (hf : P.funcs[f]? = some fn) (hn : (fn.name == "runtime.NumGoroutine") = false) (hb : fn.body.isNone = false) (args : Array Value) (w : World) :
    (callFunc f args).run P w = .ok (.enter f args) w := by
  have hn' : ¬ fn.name = "runtime.NumGoroutine" := by simpa using hn
  have hb' : ¬ fn.body = none := fun e => by rw [e] at hb; simp at hb
  simp [callFunc, hf, hn', hb', go_sem]
theorem ret_int {k : IntKind} {a b : Int} (h : a = b) : Ending.returned (.int k a) = .returned (.int k b) := by rw [h]
theorem ret_bool {a b : Bool} (h : a = b) : Ending.returned (.bool a) = .returned (.bool b) := by rw [h]
end Go.Proofs.YtjfjpngajboidaaGreat
