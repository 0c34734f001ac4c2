/-
  The table the other way round; comparing; sets as numbers: plain.
-/
import Derived.Test.YtjcpeenalbgacaaJx0
import Derived.Test.YtjcpeenalbgacaaJx1
import Derived.Test.YtjcpeenalbgacaaJx5
import Derived.Test.YtjcpeenalbgacaaJx6
import Derived.Test.YtjcpeenalbgacaaJx7
import Derived.Test.YtjcpeenalbgacaaJx8
import Derived.Test.YtjcpeenalbgacaaJx3
namespace Go.Proofs.Ytjcpeenalbgacaa
set_option linter.unusedVariables false
set_option linter.unusedSimpArgs false
open Go.RowKit

/-- the other way round -/
@[irreducible] def turnF (t : List (List Int)) (x y : Nat) : Int := ent t y x
theorem turnF_def (t : List (List Int)) (x y : Nat) : turnF t x y = ent t y x := by unfold turnF; rfl
@[irreducible] def turnT (t : List (List Int)) : List (List Int) := mkT t.length (turnF t)
theorem turnT_def (t : List (List Int)) : turnT t = mkT t.length (turnF t) := by unfold turnT; rfl
theorem length_turnT (t : List (List Int)) : (turnT t).length = t.length := by rw [turnT_def]; exact length_mkT _ _
theorem length_row_mkT (n : Nat) (f : Nat → Nat → Int) (x : Nat) (h : x < n) : (row (mkT n f) x).length = n := by rw [row_mkT _ _ _ h]; exact length_partRow _ _ _ _
theorem length_row_turnT (t : List (List Int)) (x : Nat) (h : x < t.length) : (row (turnT t) x).length = t.length := by rw [turnT_def]; exact length_row_mkT _ _ _ h
theorem ent_turnT (t : List (List Int)) (x y : Nat) (hx : x < t.length) (hy : y < t.length) : ent (turnT t) x y = ent t y x := by rw [turnT_def, ent_mkT _ _ _ _ hx hy, turnF_def]
theorem small_turnT {t : List (List Int)} (h : t.length ≤ 1048576) : Small (turnT t) := by rw [turnT_def]; exact small_mkT h _

/-! ### comparing -/
def cmpI (a b : Int) : Int := if a < b then -1 else if b < a then 1 else 0
theorem cmpI_zero {a b : Int} : cmpI a b = 0 ↔ a = b := by
  unfold cmpI
  split
  · constructor
    · intro h; simp at h
    · intro h; omega
  · split
    · constructor
      · intro h; simp at h
      · intro h; omega
    · constructor
      · intro _; omega
      · intro _; rfl
/-- lexicographic: the first place that differs, then the length -/
def cmpBy {α : Type} (c : α → α → Int) : List α → List α → Int
  | [], [] => 0
  | [], _ :: _ => -1
  | _ :: _, [] => 1
  | x :: r, y :: s => if c x y = 0 then cmpBy c r s else c x y
theorem cmpBy_zero {α : Type} {c : α → α → Int} (hc : ∀ x y, c x y = 0 ↔ x = y) : ∀ l m : List α, cmpBy c l m = 0 ↔ l = m
  | [], [] => by simp [cmpBy]
  | [], _ :: _ => by simp [cmpBy]
  | _ :: _, [] => by simp [cmpBy]
  | x :: r, y :: s => by
    unfold cmpBy
    by_cases h : c x y = 0
    · rw [if_pos h, cmpBy_zero hc r s]
      have := (hc x y).1 h
      subst this; simp
    · rw [if_neg h]
      constructor
      · intro h2; exact absurd h2 h
      · intro h2
        have : x = y := by simpa using congrArg List.head? h2
        exact absurd ((hc x y).2 this) h
@[irreducible] def cmpL (l m : List Int) : Int := cmpBy cmpI l m
@[irreducible] def cmpT (s t : List (List Int)) : Int := cmpBy cmpL s t
theorem cmpL_zero {l m : List Int} : cmpL l m = 0 ↔ l = m := by unfold cmpL; exact cmpBy_zero (fun _ _ => cmpI_zero) l m
theorem cmpT_zero {s t : List (List Int)} : cmpT s t = 0 ↔ s = t := by unfold cmpT; exact cmpBy_zero (fun _ _ => cmpL_zero) s t
/-- behind the first k places -/
@[irreducible] def cmpLF (l m : List Int) (k : Nat) : Int := cmpL (l.drop k) (m.drop k)
@[irreducible] def cmpTF (s t : List (List Int)) (k : Nat) : Int := cmpT (s.drop k) (t.drop k)
theorem cmpLF_zero (l m : List Int) : cmpL l m = cmpLF l m 0 := by unfold cmpLF; simp
theorem cmpTF_zero (l m : List (List Int)) : cmpT l m = cmpTF l m 0 := by unfold cmpTF; simp
theorem cmpLF_more {l m : List Int} {k : Nat} (h : k < l.length) (h2 : m.length ≤ k) : cmpLF l m k = 1 := by
  unfold cmpLF cmpL; rw [drop_cons l k h, List.drop_of_length_le h2]; rfl
theorem cmpLF_less {l m : List Int} {k : Nat} (h : l.length ≤ k) (h2 : k < m.length) : cmpLF l m k = -1 := by
  unfold cmpLF cmpL; rw [drop_cons m k h2, List.drop_of_length_le h]; rfl
theorem cmpLF_end {l m : List Int} {k : Nat} (h : l.length ≤ k) (h2 : m.length ≤ k) : cmpLF l m k = 0 := by
  unfold cmpLF cmpL; rw [List.drop_of_length_le h2, List.drop_of_length_le h]; rfl
theorem cmpLF_ne {l m : List Int} {k : Nat} (h : k < l.length) (h2 : k < m.length) (e : cmpI (ix l k) (ix m k) ≠ 0) : cmpLF l m k = cmpI (ix l k) (ix m k) := by
  unfold cmpLF cmpL; rw [drop_cons l k h, drop_cons m k h2]; simp only [cmpBy]; rw [if_neg e]
theorem cmpLF_eq {l m : List Int} {k : Nat} (h : k < l.length) (h2 : k < m.length) (e : cmpI (ix l k) (ix m k) = 0) : cmpLF l m k = cmpLF l m (k + 1) := by
  unfold cmpLF cmpL; rw [drop_cons l k h, drop_cons m k h2]; simp only [cmpBy]; rw [if_pos e]
theorem cmpTF_more {l m : List (List Int)} {k : Nat} (h : k < l.length) (h2 : m.length ≤ k) : cmpTF l m k = 1 := by
  unfold cmpTF cmpT; rw [row_drop l k h, List.drop_of_length_le h2]; rfl
theorem cmpTF_less {l m : List (List Int)} {k : Nat} (h : l.length ≤ k) (h2 : k < m.length) : cmpTF l m k = -1 := by
  unfold cmpTF cmpT; rw [row_drop m k h2, List.drop_of_length_le h]; rfl
theorem cmpTF_end {l m : List (List Int)} {k : Nat} (h : l.length ≤ k) (h2 : m.length ≤ k) : cmpTF l m k = 0 := by
  unfold cmpTF cmpT; rw [List.drop_of_length_le h2, List.drop_of_length_le h]; rfl
theorem cmpTF_ne {l m : List (List Int)} {k : Nat} (h : k < l.length) (h2 : k < m.length) (e : cmpL (row l k) (row m k) ≠ 0) : cmpTF l m k = cmpL (row l k) (row m k) := by
  unfold cmpTF cmpT; rw [row_drop l k h, row_drop m k h2]; simp only [cmpBy]; rw [if_neg e]
theorem cmpTF_eq {l m : List (List Int)} {k : Nat} (h : k < l.length) (h2 : k < m.length) (e : cmpL (row l k) (row m k) = 0) : cmpTF l m k = cmpTF l m (k + 1) := by
  unfold cmpTF cmpT; rw [row_drop l k h, row_drop m k h2]; simp only [cmpBy]; rw [if_pos e]
theorem cmpT_eqTB (s t : List (List Int)) : (cmpT s t == 0) = eqTB s t := by
  rw [Bool.eq_iff_iff, eqTB_iff, beq_iff_eq, cmpT_zero]

/-! ### abelian, center -/
@[irreducible] def abelB (t : List (List Int)) : Bool := eqTB t (turnT t)
theorem abelB_def (t : List (List Int)) : eqTB t (turnT t) = abelB t := by unfold abelB; rfl
/-- x y = y x for the first k elements y -/
def ComTo (t : List (List Int)) (x k : Nat) : Prop := ∀ y, y < k → ent t x y = ent t y x
instance (t x k) : Decidable (ComTo t x k) := by unfold ComTo; infer_instance
def ComAll (t : List (List Int)) (k : Nat) : Prop := ∀ x, x < k → ComTo t x x
theorem ComTo.zero (t x) : ComTo t x 0 := all_zero
theorem ComTo.succ {t x k} (h : ComTo t x k) (hk : ent t x k = ent t k x) : ComTo t x (k + 1) := all_succ h hk
theorem ComTo.mono {t x k k'} (h : ComTo t x k) (hk : k' ≤ k) : ComTo t x k' := all_mono h hk
theorem ComAll.zero (t) : ComAll t 0 := all_zero
theorem ComAll.succ {t k} (h : ComAll t k) (hk : ComTo t k k) : ComAll t (k + 1) := all_succ h hk
theorem row_eq_turn {t : List (List Int)} (h : TableOk t) {x : Nat} (hx : x < t.length) : row t x = row (turnT t) x ↔ ComTo t x t.length := by
  constructor
  · intro e y hy
    rw [← ent_turnT t x y hx hy, ← ent_def, e, ent_def]
  · intro hc
    refine ix_ext (by rw [h.len hx, length_row_turnT _ _ hx]) fun i hi => ?_
    rw [h.len hx] at hi
    rw [ent_def, ent_def, ent_turnT t x i hx hi]
    exact hc i hi
theorem abelB_iff {t : List (List Int)} (h : TableOk t) : abelB t = true ↔ ComAll t t.length := by
  rw [← abelB_def, eqTB_iff]
  constructor
  · intro e x hx y hy
    have : row t x = row (turnT t) x := by rw [← e]
    exact (row_eq_turn h hx).1 this y (by omega)
  · intro hc
    refine row_ext (by rw [length_turnT]) fun x hx => (row_eq_turn h hx).2 fun y hy => ?_
    rcases Nat.lt_trichotomy x y with h1 | h1 | h1
    · exact (hc y hy x h1).symm
    · rw [h1]
    · exact hc x hx y h1
@[irreducible] def comB (t : List (List Int)) (x k : Nat) : Bool := decide (ComTo t x k)
theorem comB_iff {t x k} : comB t x k = true ↔ ComTo t x k := by unfold comB; simp
theorem comB_zero (t x) : comB t x 0 = true := comB_iff.2 (ComTo.zero t x)
theorem comB_succ (t : List (List Int)) (x k : Nat) : comB t x (k + 1) = (comB t x k && (ent t x k == ent t k x)) := by
  rw [Bool.eq_iff_iff, Bool.and_eq_true, comB_iff, comB_iff, beq_iff_eq]
  exact ⟨fun h => ⟨h.mono (by omega), h k (by omega)⟩, fun h => h.1.succ h.2⟩
theorem comB_row {t : List (List Int)} (h : TableOk t) {x : Nat} (hx : x < t.length) : eqIB (row t x) (row (turnT t) x) = comB t x t.length := by
  rw [Bool.eq_iff_iff, eqIB_iff, comB_iff]; exact row_eq_turn h hx

/-- the number whose bits are the x below k with p x, as the program makes it -/
def setTo (p : Nat → Bool) : Nat → Int
  | 0 => 0
  | k + 1 => if p k = true then bits .or .i64 (setTo p k) (wrap64 (2 ^ k)) else setTo p k
@[irreducible] def setOf (p : Nat → Bool) (k : Nat) : Int := setTo p k
theorem setOf_zero (p) : setOf p 0 = 0 := by unfold setOf; rfl
theorem setOf_yes {p : Nat → Bool} {k : Nat} (h : p k = true) : setOf p (k + 1) = bits .or .i64 (setOf p k) (wrap64 (2 ^ k)) := by unfold setOf; simp only [setTo]; rw [if_pos h]
theorem setOf_no {p : Nat → Bool} {k : Nat} (h : p k = false) : setOf p (k + 1) = setOf p k := by unfold setOf; simp only [setTo]; rw [if_neg (by rw [h]; simp)]
@[irreducible] def centerI (t : List (List Int)) : Int := setOf (fun x => comB t x t.length) t.length
theorem centerI_def (t : List (List Int)) : centerI t = setOf (fun x => comB t x t.length) t.length := by unfold centerI; rfl
/-- no group: 1 -/
@[irreducible] def codeG (t : List (List Int)) : Int := if groupB t = true then 0 else 1
theorem codeG_yes {t} (h : groupB t = true) : codeG t = 0 := by unfold codeG; rw [if_pos h]
theorem codeG_no {t} (h : groupB t = false) : codeG t = 1 := by unfold codeG; rw [if_neg (by rw [h]; simp)]
/-- a value where t is a group -/
@[irreducible] def ifG {α : Type} (t : List (List Int)) (a d : α) : α := if groupB t = true then a else d
theorem ifG_yes {α : Type} {t} {a d : α} (h : groupB t = true) : ifG t a d = a := by unfold ifG; rw [if_pos h]
theorem ifG_no {α : Type} {t} {a d : α} (h : groupB t = false) : ifG t a d = d := by unfold ifG; rw [if_neg (by rw [h]; simp)]
end Go.Proofs.Ytjcpeenalbgacaa

/-
  Conjugation in a group; reading tables: plain.
-/
namespace Go.Proofs.Ytjcpeenalbgacaa
set_option linter.unusedVariables false
set_option linter.unusedSimpArgs false

/-- x y (inverse of x) -/
@[irreducible] def conjF (t : List (List Int)) (x y : Nat) : Int := ent t (ent t x y).toNat (backF t x).toNat
theorem conjF_def (t : List (List Int)) (x y : Nat) : ent t (ent t x y).toNat (backF t x).toNat = conjF t x y := by unfold conjF; rfl

/-- a row of a table, as it lies, and its entries -/
theorem RowsAt.read {w : World} {b o n : Nat} {t : List (List Int)} (h : RowsAt w b o t) (hT : TableOk t) (hn : t.length = n) {x : Nat} (hx : x < n) :
    ∃ d s m, w.cell? ⟨b, o + x, none⟩ = some (.slice (some ⟨d, s, none⟩) n m) ∧ ∀ y, y < n → w.cell? ⟨d, s + y, none⟩ = some (.int .i64 (ent t x y)) ∧ 0 ≤ ent t x y ∧ ent t x y < (n : Int) := by
  subst hn
  obtain ⟨d, s, m, r, l, -⟩ := h.get hx
  rw [hT.len hx] at r
  exact ⟨d, s, m, r, fun y hy => ⟨l.ent (hT.len hx) hy, (hT.bd hx hy).1, by have := (hT.bd hx hy).2; omega⟩⟩
end Go.Proofs.Ytjcpeenalbgacaa

/-
  Cells, marks and lists behind single steps of the world, for backward chaining. No program in sight.
-/
namespace Go.Proofs.Ytjcpeenalbgacaa
set_option linter.unusedVariables false
set_option linter.unusedSimpArgs false
open Go.RowKit

theorem bcell {W w1 : World} (hb : Ext W w1) : (∀ b o, b < W.heap.size → w1.cell? ⟨b, o, none⟩ = W.cell? ⟨b, o, none⟩) ∧ (∀ b o, b < W.heap.size → w1.frozen? ⟨b, o, none⟩ = W.frozen? ⟨b, o, none⟩) :=
  ⟨fun b o h => Below.cell hb (p := ⟨b, o, none⟩) h, fun b o h => Below.frozen hb (p := ⟨b, o, none⟩) h⟩
theorem kc_alloc {w : World} {a : Addr} {v : Value} {o : Obj} (h : w.cell? a = some v) : (w.alloc o).cell? a = some v := ((Ext.refl w).alloc o).cell h
theorem kc_drew {w : World} {a : Addr} {v : Value} (h : w.cell? a = some v) : w.drew.cell? a = some v := h
theorem kc_drewN {w : World} {a : Addr} {v : Value} {n : Nat} (h : w.cell? a = some v) : (w.drewN n).cell? a = some v := ((Ext.refl w).drewN n).cell h
theorem kc_set {w : World} {a p : Addr} {v u : Value} (hb : a.block ≠ p.block) (h : w.cell? a = some v) : (w.setCell p u).cell? a = some v := by
  rw [World.cell?_setCell_other _ _ _ _ (fun e => hb (by rw [e]))]; exact h
theorem kc_set2 {w : World} {a p : Addr} {v u : Value} (hb : a.off ≠ p.off) (h : w.cell? a = some v) : (w.setCell p u).cell? a = some v := by
  rw [World.cell?_setCell_other _ _ _ _ (fun e => hb (by rw [e]))]; exact h
theorem kc_same {w : World} {a : Addr} {v u : Value} (h : w.cell? a = some v) : (w.setCell a u).cell? a = some u := World.cell?_setCell_same _ _ _ h
theorem kc_new {w : World} {v : Value} {T : Nat} : (w.alloc (.cells #[v] T)).cell? ⟨w.heap.size, 0, none⟩ = some v := by simp
theorem kc_new1 {w : World} {o : Obj} {v : Value} {T : Nat} : ((w.alloc o).alloc (.cells #[v] T)).cell? ⟨w.heap.size + 1, 0, none⟩ = some v := by simp [go_sem]
theorem ki_alloc {w : World} {b o : Nat} {l : List Int} {x : Obj} (h : IntsAt w b o l) : IntsAt (w.alloc x) b o l := h.ext ((Ext.refl w).alloc x)
theorem ki_drew {w : World} {b o : Nat} {l : List Int} (h : IntsAt w b o l) : IntsAt w.drew b o l := h.ext (Ext.refl w).drew
theorem ki_set {w : World} {b o : Nat} {l : List Int} {p : Addr} {u : Value} (hb : b ≠ p.block) (h : IntsAt w b o l) : IntsAt (w.setCell p u) b o l := fun i hi => kc_set (a := ⟨b, o + i, none⟩) hb (h i hi)
theorem ki_setNil {w : World} {b o : Nat} {l : List Int} {p : Addr} {u : Value} (hp : w.cell? p = some (.slice none 0 0)) (h : IntsAt w b o l) : IntsAt (w.setCell p u) b o l := h.setNil hp u
theorem kr_alloc {w : World} {b o : Nat} {t : List (List Int)} {x : Obj} (h : RowsAt w b o t) : RowsAt (w.alloc x) b o t := h.ext ((Ext.refl w).alloc x)
theorem kc_newE {w : World} {v : Value} {T n : Nat} (h : n = w.heap.size) : (w.alloc (.cells #[v] T)).cell? ⟨n, 0, none⟩ = some v := by subst h; exact kc_new
theorem kc_newEa {w : World} {v u : Value} {T n : Nat} (h : n = w.heap.size) : (w.alloc (.cells #[v, u] T)).cell? ⟨n, 0, none⟩ = some v := by subst h; simp [go_sem]
theorem kc_newEb {w : World} {v u : Value} {T n : Nat} (h : n = w.heap.size) : (w.alloc (.cells #[v, u] T)).cell? ⟨n, 1, none⟩ = some u := by subst h; simp [go_sem]
theorem kx_set {a w : World} {p : Addr} {u : Value} (hp : a.heap.size ≤ p.block) (h : Ext a w) : Ext a (w.setCell p u) := h.setNew hp u
theorem kx_alloc {a w : World} {o : Obj} (h : Ext a w) : Ext a (w.alloc o) := h.alloc o
theorem kx_drewN {a w : World} {n : Nat} (h : Ext a w) : Ext a (w.drewN n) := h.drewN n
theorem kf_alloc {w : World} {a : Addr} {o : Obj} (hb : a.block < w.heap.size) (h : w.frozen? a = false) : (w.alloc o).frozen? a = false := ((Ext.refl w).alloc o).free h hb
theorem kf_set {w : World} {a p : Addr} {u : Value} (h : w.frozen? a = false) : (w.setCell p u).frozen? a = false := by rw [World.frozen?_setCell]; exact h
end Go.Proofs.Ytjcpeenalbgacaa
