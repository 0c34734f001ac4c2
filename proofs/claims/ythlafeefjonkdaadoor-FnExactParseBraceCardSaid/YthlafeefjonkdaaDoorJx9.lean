/-
  Sets of elements as numbers; subgroups: plain.
-/
import Derived.Laws.BitsLemmas
import Derived.Test.YthlafeefjonkdaaDoorJx0
import Derived.Test.YthlafeefjonkdaaDoorJx1
import Derived.Test.YthlafeefjonkdaaDoorJx3
import Derived.Test.YthlafeefjonkdaaDoorJx4
namespace Go.Proofs.YthlafeefjonkdaaDoor
set_option linter.unusedVariables false
set_option linter.unusedSimpArgs false
open Go.RowKit

/-- the number m has bit x, as the program reads it -/
@[irreducible] def bitB (m x : Nat) : Bool := bits .and .i64 ((m : Int) / 2 ^ x) 1 == 1
theorem bitB_def (m x : Nat) : (bits .and .i64 ((m : Int) / 2 ^ x) 1 == 1) = bitB m x := by unfold bitB; rfl
theorem bits_and_one (a : Nat) (h : a < 2 ^ 62) : bits .and .i64 (a : Int) 1 = ((a % 2 : Nat) : Int) := by
  have := (bits_nat .i64 62 (by decide) (fun n h0 h1 => by rw [IntKind.wrap_i64]; omega) a 1 h (by decide)).1
  rw [Nat.and_one_is_mod] at this
  exact this
theorem div_pow_lt {m x : Nat} (h : m < 2 ^ 62) : m / 2 ^ x < 2 ^ 62 := Nat.lt_of_le_of_lt (Nat.div_le_self _ _) h
theorem cast_div_pow (m x : Nat) : (m : Int) / 2 ^ x = ((m / 2 ^ x : Nat) : Int) := by simp
theorem bitB_test {m : Nat} (h : m < 2 ^ 62) (x : Nat) : bitB m x = m.testBit x := by
  rw [← bitB_def, cast_div_pow, bits_and_one _ (div_pow_lt h), Nat.testBit_eq_decide_div_mod_eq, Bool.eq_iff_iff, beq_iff_eq, decide_eq_true_iff]
  omega
theorem bitB_lt {m x k : Nat} (hm : m < 2 ^ k) (hk : k ≤ 62) (h : bitB m x = true) : x < k := by
  have hm' : m < 2 ^ 62 := Nat.lt_of_lt_of_le hm (Nat.pow_le_pow_right (by decide) hk)
  rw [bitB_test hm'] at h
  apply Classical.byContradiction
  intro hx
  rw [Nat.testBit_lt_two_pow (Nat.lt_of_lt_of_le hm (Nat.pow_le_pow_right (by decide) (by omega)))] at h
  cases h
/-! ### the list of the elements -/
@[irreducible] def elemsTo (m k : Nat) : List Int := ((List.range k).filter (fun x => bitB m x)).map (fun (x : Nat) => (x : Int))
@[irreducible] def elemsL (m : Nat) : List Int := elemsTo m 62
theorem elemsTo_no {m k : Nat} (h : bitB m k = false) : elemsTo m (k + 1) = elemsTo m k := by
  unfold elemsTo; rw [List.range_succ, List.filter_append]; simp [h]
theorem elemsTo_mem {m k : Nat} {z : Int} : z ∈ elemsTo m k ↔ ∃ x : Nat, x < k ∧ bitB m x = true ∧ z = (x : Int) := by
  unfold elemsTo
  simp only [List.mem_map, List.mem_filter, List.mem_range]
  constructor
  · rintro ⟨x, ⟨h1, h2⟩, rfl⟩; exact ⟨x, h1, h2, rfl⟩
  · rintro ⟨x, h1, h2, rfl⟩; exact ⟨x, ⟨h1, h2⟩, rfl⟩
theorem elemsTo_past {m k : Nat} (hm : m < 2 ^ k) (hk : k ≤ 62) : ∀ j, elemsTo m (k + j) = elemsTo m k
  | 0 => rfl
  | j + 1 => by
    have h : bitB m (k + j) = false := by
      cases hb : bitB m (k + j) with
      | false => rfl
      | true => exact absurd (bitB_lt hm hk hb) (by omega)
    rw [← Nat.add_assoc, elemsTo_no h, elemsTo_past hm hk j]
theorem elemsL_eq {m k : Nat} (hm : m < 2 ^ k) (hk : k ≤ 62) : elemsL m = elemsTo m k := by
  unfold elemsL
  have := elemsTo_past hm hk (62 - k)
  rwa [show k + (62 - k) = 62 from by omega] at this
theorem elemsL_has {m k x : Nat} (hm : m < 2 ^ k) (hk : k ≤ 62) (hx : bitB m x = true) : ∃ i, i < (elemsL m).length ∧ ix (elemsL m) i = (x : Int) := by
  have : (x : Int) ∈ elemsL m := by rw [elemsL_eq hm hk]; exact elemsTo_mem.2 ⟨x, bitB_lt hm hk hx, hx, rfl⟩
  obtain ⟨i, h1, h2⟩ := mem_ix this
  exact ⟨i, h1, h2⟩

/-! ### closed sets, subgroups -/
def ClosedRow (t : List (List Int)) (m x k : Nat) : Prop := ∀ y, y < k → bitB m x = true → bitB m y = true → bitB m (ent t x y).toNat = true
def ClosedTo (t : List (List Int)) (m n k : Nat) : Prop := ∀ x, x < k → ClosedRow t m x n
instance (t m x k) : Decidable (ClosedRow t m x k) := by unfold ClosedRow; infer_instance
instance (t m n k) : Decidable (ClosedTo t m n k) := by unfold ClosedTo; infer_instance
@[irreducible] def closedB (t : List (List Int)) (m : Nat) : Bool := decide (ClosedTo t m t.length t.length)
theorem closedB_iff {t m} : closedB t m = true ↔ ClosedTo t m t.length t.length := by unfold closedB; simp
theorem closedB_yes {t m} (h : ClosedTo t m t.length t.length) : closedB t m = true := closedB_iff.2 h
theorem closedB_no {t m} (h : ¬ ClosedTo t m t.length t.length) : closedB t m = false := by rw [← Bool.not_eq_true, closedB_iff]; exact h
theorem ClosedRow.zero (t m x) : ClosedRow t m x 0 := all_zero
theorem ClosedRow.succ {t m x k} (h : ClosedRow t m x k) (hk : bitB m x = true → bitB m k = true → bitB m (ent t x k).toNat = true) : ClosedRow t m x (k + 1) := all_succ h hk
theorem ClosedRow.mono {t m x k k'} (h : ClosedRow t m x k) (hk : k' ≤ k) : ClosedRow t m x k' := all_mono h hk
theorem ClosedTo.zero (t m n) : ClosedTo t m n 0 := all_zero
theorem ClosedTo.succ {t m n k} (h : ClosedTo t m n k) (hk : ClosedRow t m k n) : ClosedTo t m n (k + 1) := all_succ h hk
theorem ClosedTo.mono {t m n k k'} (h : ClosedTo t m n k) (hk : k' ≤ k) : ClosedTo t m n k' := all_mono h hk
/-- the program's way: over the list of the elements -/
def MemRow (t : List (List Int)) (m : Nat) (x k : Nat) : Prop := ∀ j, j < k → bitB m (ent t x (ix (elemsL m) j).toNat).toNat = true
def MemTo (t : List (List Int)) (m : Nat) (k : Nat) : Prop := ∀ i, i < k → MemRow t m (ix (elemsL m) i).toNat (elemsL m).length
theorem MemRow.zero (t m x) : MemRow t m x 0 := all_zero
theorem MemRow.succ {t m x k} (h : MemRow t m x k) (hk : bitB m (ent t x (ix (elemsL m) k).toNat).toNat = true) : MemRow t m x (k + 1) := all_succ h hk
theorem MemRow.mono {t m x k k'} (h : MemRow t m x k) (hk : k' ≤ k) : MemRow t m x k' := all_mono h hk
theorem MemTo.zero (t m) : MemTo t m 0 := all_zero
theorem MemTo.succ {t m k} (h : MemTo t m k) (hk : MemRow t m (ix (elemsL m) k).toNat (elemsL m).length) : MemTo t m (k + 1) := all_succ h hk
theorem MemTo.mono {t m k k'} (h : MemTo t m k) (hk : k' ≤ k) : MemTo t m k' := all_mono h hk
theorem MemTo.closed {t : List (List Int)} {m : Nat} (hm : m < 2 ^ t.length) (hn : t.length ≤ 12) (h : MemTo t m (elemsL m).length) : closedB t m = true := closedB_yes fun x _ y _ bx bY => by
  obtain ⟨i, hi, ei⟩ := elemsL_has hm (by omega) bx
  obtain ⟨j, hj, ej⟩ := elemsL_has hm (by omega) bY
  have := h i hi j hj
  rw [ei, ej] at this
  simpa using this
theorem MemTo.open {t : List (List Int)} {m x y : Nat} (hx : x < t.length) (hy : y < t.length) (bx : bitB m x = true) (bY : bitB m y = true) (h : bitB m (ent t x y).toNat = false) : closedB t m = false :=
  closedB_no fun hc => by rw [hc x hx y hy bx bY] at h; cases h
end Go.Proofs.YthlafeefjonkdaaDoor

/-
  Normal subgroups: plain.
-/
namespace Go.Proofs.YthlafeefjonkdaaDoor
set_option linter.unusedVariables false
set_option linter.unusedSimpArgs false
open Go.RowKit

theorem conjF_bd {t : List (List Int)} (hG : GroupOk t) {x y : Nat} (hx : x < t.length) (hy : y < t.length) : 0 ≤ conjF t x y ∧ conjF t x y < (t.length : Int) := by
  rw [← conjF_def]
  have h1 := backF_ok hG hx
  have h2 := hG.1.bd hx hy
  have := hG.1.bd (x := (ent t x y).toNat) (y := (backF t x).toNat) (by omega) (by omega)
  omega
def NormRow (t : List (List Int)) (m x k : Nat) : Prop := ∀ y, y < k → bitB m y = true → bitB m (conjF t x y).toNat = true
def NormTo (t : List (List Int)) (m n k : Nat) : Prop := ∀ x, x < k → NormRow t m x n
instance (t m x k) : Decidable (NormRow t m x k) := by unfold NormRow; infer_instance
instance (t m n k) : Decidable (NormTo t m n k) := by unfold NormTo; infer_instance
theorem NormRow.zero (t m x) : NormRow t m x 0 := all_zero
theorem NormRow.succ {t m x k} (h : NormRow t m x k) (hk : bitB m k = true → bitB m (conjF t x k).toNat = true) : NormRow t m x (k + 1) := all_succ h hk
theorem NormRow.mono {t m x k k'} (h : NormRow t m x k) (hk : k' ≤ k) : NormRow t m x k' := all_mono h hk
theorem NormTo.zero (t m n) : NormTo t m n 0 := all_zero
theorem NormTo.succ {t m n k} (h : NormTo t m n k) (hk : NormRow t m k n) : NormTo t m n (k + 1) := all_succ h hk
/-- over the list of the elements -/
def NormL (t : List (List Int)) (m x k : Nat) : Prop := ∀ i, i < k → bitB m (conjF t x (ix (elemsL m) i).toNat).toNat = true
theorem NormL.zero (t m x) : NormL t m x 0 := all_zero
theorem NormL.succ {t m x k} (h : NormL t m x k) (hk : bitB m (conjF t x (ix (elemsL m) k).toNat).toNat = true) : NormL t m x (k + 1) := all_succ h hk
theorem NormL.row {t : List (List Int)} {m x : Nat} (hm : m < 2 ^ t.length) (hn : t.length ≤ 12) (h : NormL t m x (elemsL m).length) : NormRow t m x t.length := fun y _ hb => by
  obtain ⟨i, hi, e⟩ := elemsL_has hm (by omega) hb
  have := h i hi
  rw [e] at this
  simpa using this
end Go.Proofs.YthlafeefjonkdaaDoor

/-
  Numbering labels by their first occurrence: plain.
-/
namespace Go.Proofs.YthlafeefjonkdaaDoor
set_option linter.unusedVariables false
set_option linter.unusedSimpArgs false

theorem hasB_mem {l : List Int} {n : Int} : hasB l n = true ↔ n ∈ l := by
  rw [hasB_iff]
  rcases indexOf_spec l n with ⟨h1, h2⟩ | ⟨i, h1, h2, h3, _⟩
  · rw [h1]
    constructor
    · intro h; omega
    · intro h; obtain ⟨i, hi, e⟩ := mem_ix h; exact absurd e (h2 i hi)
  · rw [h2]
    constructor
    · intro _; rw [← h3]; exact ix_mem l i h1
    · intro _; omega
theorem ix_append_left {a b : List Int} {i : Nat} (h : i < a.length) : ix (a ++ b) i = ix a i := by
  rw [ix_eq, ix_eq]; simp [List.getD, List.getElem?_append_left h]
theorem ix_append_one (a : List Int) (x : Int) : ix (a ++ [x]) a.length = x := by rw [ix_eq]; simp [List.getD]
end Go.Proofs.YthlafeefjonkdaaDoor

/-
  Classes of conjugate elements: plain.
-/
namespace Go.Proofs.YthlafeefjonkdaaDoor
set_option linter.unusedVariables false
set_option linter.unusedSimpArgs false

/-- the product, in numbers -/
def gm (t : List (List Int)) (x y : Nat) : Nat := (ent t x y).toNat
def gi (t : List (List Int)) (x : Nat) : Nat := (backF t x).toNat
def cj (t : List (List Int)) (x y : Nat) : Nat := (conjF t x y).toNat
theorem cj_eq (t : List (List Int)) (x y : Nat) : cj t x y = gm t (gm t x y) (gi t x) := by unfold cj gm gi; rw [conjF_def]
section
variable {t : List (List Int)} (h : GroupOk t)
include h
theorem gm_lt {x y : Nat} (hx : x < t.length) (hy : y < t.length) : gm t x y < t.length := ent_nn h.1 hx hy
theorem gi_lt {x : Nat} (hx : x < t.length) : gi t x < t.length := by have := backF_ok h hx; unfold gi; omega
theorem cj_lt {x y : Nat} (hx : x < t.length) (hy : y < t.length) : cj t x y < t.length := by have := conjF_bd h hx hy; unfold cj; omega
theorem gm_assoc {x y z : Nat} (hx : x < t.length) (hy : y < t.length) (hz : z < t.length) : gm t (gm t x y) z = gm t x (gm t y z) := by
  unfold gm; rw [grp_assoc h hx hy hz]
theorem gm_zero {x : Nat} (hx : x < t.length) : gm t 0 x = x := by unfold gm; rw [grp_unit_l h hx]; simp
theorem gm_unit {x : Nat} (hx : x < t.length) : gm t x 0 = x := by unfold gm; rw [grp_unit_r h hx]; simp
theorem gm_gi {x : Nat} (hx : x < t.length) : gm t x (gi t x) = 0 := by
  have := (backF_ok h hx).2.2
  unfold gm gi; rw [this]; rfl
theorem gm_inj {x y z : Nat} (hx : x < t.length) (hy : y < t.length) (hz : z < t.length) (e : gm t x y = gm t x z) : y = z := by
  have h1 := h.1.bd hx hy
  have h2 := h.1.bd hx hz
  unfold gm at e
  exact grp_inj h hx hy hz (by omega)
theorem pos_len : 0 < t.length := h.1.1
theorem gi_gm {x : Nat} (hx : x < t.length) : gm t (gi t x) x = 0 := by
  have hi := gi_lt h hx
  have h0 := pos_len h
  have : gm t x (gm t (gi t x) x) = gm t x 0 := by rw [← gm_assoc h hx hi hx, gm_gi h hx, gm_zero h hx, gm_unit h hx]
  exact gm_inj h hx (gm_lt h hi hx) h0 this
theorem gi_zero : gi t 0 = 0 := by
  have h0 := pos_len h
  have := gm_gi h h0
  rwa [gm_zero h (gi_lt h h0)] at this
theorem gi_mul {x y : Nat} (hx : x < t.length) (hy : y < t.length) : gi t (gm t x y) = gm t (gi t y) (gi t x) := by
  have hxy := gm_lt h hx hy
  have ix := gi_lt h hx
  have iy := gi_lt h hy
  refine gm_inj h hxy (gi_lt h hxy) (gm_lt h iy ix) ?_
  rw [gm_gi h hxy, gm_assoc h hx hy (gm_lt h iy ix), ← gm_assoc h hy iy ix, gm_gi h hy, gm_zero h ix, gm_gi h hx]
theorem cj_zero {y : Nat} (hy : y < t.length) : cj t 0 y = y := by rw [cj_eq t, gi_zero h, gm_zero h hy, gm_unit h hy]
theorem cj_cj {x y z : Nat} (hx : x < t.length) (hy : y < t.length) (hz : z < t.length) : cj t x (cj t y z) = cj t (gm t x y) z := by
  have ix := gi_lt h hx
  have iy := gi_lt h hy
  have hyz := gm_lt h hy hz
  rw [cj_eq t, cj_eq t, cj_eq t, gi_mul h hx hy, ← gm_assoc h hx hyz iy, ← gm_assoc h (gm_lt h (gm_lt h hx hy) hz) iy ix, ← gm_assoc h hx hy hz]
theorem cj_back {x y : Nat} (hx : x < t.length) (hy : y < t.length) : cj t (gi t x) (cj t x y) = y := by
  rw [cj_cj h (gi_lt h hx) hx hy, gi_gm h hx, cj_zero h hy]
end
/-- the least of y and of its conjugates by the first k elements -/
def lstTo (t : List (List Int)) (y : Nat) : Nat → Int
  | 0 => (y : Int)
  | k + 1 => min (lstTo t y k) (conjF t k y)
@[irreducible] def lstF (t : List (List Int)) (k y : Nat) : Int := lstTo t y k
theorem lstF_zero (t y) : lstF t 0 y = (y : Int) := by unfold lstF; rfl
theorem lstF_succ (t k y) : lstF t (k + 1) y = min (lstF t k y) (conjF t k y) := by unfold lstF; rfl
/-- the least conjugate -/
@[irreducible] def minC (t : List (List Int)) (y : Nat) : Int := lstF t t.length y
theorem minC_def (t y) : minC t y = lstF t t.length y := by unfold minC; rfl
theorem lstF_le (t : List (List Int)) (y : Nat) : ∀ k, (lstF t k y ≤ (y : Int)) ∧ ∀ x, x < k → lstF t k y ≤ conjF t x y
  | 0 => ⟨by rw [lstF_zero]; omega, fun x hx => by omega⟩
  | k + 1 => by
    have ⟨h1, h2⟩ := lstF_le t y k
    rw [lstF_succ]
    refine ⟨by omega, fun x hx => ?_⟩
    by_cases e : x = k
    · subst e; omega
    · have := h2 x (by omega); omega
theorem lstF_is (t : List (List Int)) (y : Nat) : ∀ k, lstF t k y = (y : Int) ∨ ∃ x, x < k ∧ lstF t k y = conjF t x y
  | 0 => .inl (lstF_zero t y)
  | k + 1 => by
    rw [lstF_succ]
    rcases Int.le_total (lstF t k y) (conjF t k y) with g | g
    · rw [Int.min_eq_left g]
      rcases lstF_is t y k with e | ⟨x, hx, e⟩
      · exact .inl e
      · exact .inr ⟨x, by omega, e⟩
    · rw [Int.min_eq_right g]; exact .inr ⟨k, by omega, rfl⟩
theorem minC_is {t : List (List Int)} (h : GroupOk t) {y : Nat} (hy : y < t.length) : ∃ x, x < t.length ∧ minC t y = ((cj t x y : Nat) : Int) := by
  rw [minC_def]
  rcases lstF_is t y t.length with e | ⟨x, hx, e⟩
  · exact ⟨0, pos_len h, by rw [e, cj_zero h hy]⟩
  · have := conjF_bd h hx hy
    exact ⟨x, hx, by rw [e]; unfold cj; omega⟩
theorem minC_le {t : List (List Int)} (h : GroupOk t) {x y : Nat} (hx : x < t.length) (hy : y < t.length) : minC t y ≤ ((cj t x y : Nat) : Int) := by
  have h1 := (lstF_le t y t.length).2 x hx
  have := conjF_bd h hx hy
  rw [minC_def]; unfold cj; omega
theorem minC_cj {t : List (List Int)} (h : GroupOk t) {x y : Nat} (hx : x < t.length) (hy : y < t.length) : minC t (cj t x y) = minC t y := by
  have hc := cj_lt h hx hy
  obtain ⟨a, ha, ea⟩ := minC_is h hy
  obtain ⟨b, hb, eb⟩ := minC_is h hc
  have h1 := minC_le h (gm_lt h hb hx) hy
  rw [← cj_cj h hb hx hy] at h1
  have h2 := minC_le h (gm_lt h ha (gi_lt h hx)) hc
  rw [← cj_cj h ha (gi_lt h hx) hc, cj_back h hx hy] at h2
  omega
theorem minC_conj {t : List (List Int)} (h : GroupOk t) {x y : Nat} (hx : x < t.length) (hy : y < t.length) (e : minC t x = minC t y) : ∃ k, k < t.length ∧ cj t k x = y := by
  obtain ⟨a, ha, ea⟩ := minC_is h hx
  obtain ⟨b, hb, eb⟩ := minC_is h hy
  refine ⟨gm t (gi t b) a, gm_lt h (gi_lt h hb) ha, ?_⟩
  rw [← cj_cj h (gi_lt h hb) ha hx]
  have : cj t a x = cj t b y := by omega
  rw [this, cj_back h hb hy]
/-! ### the reference's way -/
/-- O holds different elements that are conjugate to x, x first -/
structure OrbOk (t : List (List Int)) (x : Nat) (O : List Int) : Prop where
  pos : 0 < O.length
  first : ix O 0 = (x : Int)
  mem : ∀ i, i < O.length → ∃ y : Nat, ix O i = (y : Int) ∧ y < t.length ∧ minC t y = minC t x
  nodup : O.Nodup
theorem OrbOk.one {t : List (List Int)} {x : Nat} (hx : x < t.length) : OrbOk t x [(x : Int)] where
  pos := by simp
  first := by rw [ix_eq]; rfl
  mem := fun i hi => by
    have : i = 0 := by simp at hi; omega
    subst this
    exact ⟨x, by rw [ix_eq]; rfl, hx, rfl⟩
  nodup := by simp
theorem OrbOk.len {t : List (List Int)} {x : Nat} {O : List Int} (h : OrbOk t x O) : O.length ≤ t.length := by
  have := nodup_le O (intRange t.length) h.nodup (fun z hz => by
    obtain ⟨i, hi, rfl⟩ := mem_ix hz
    obtain ⟨y, e, hy, _⟩ := h.mem i hi
    rw [e, mem_intRange]; omega)
  rwa [length_intRange] at this
theorem OrbOk.add {t : List (List Int)} (hG : GroupOk t) {x y k : Nat} {O : List Int} (h : OrbOk t x O) (hy : y < t.length) (hc : minC t y = minC t x) (hk : k < t.length) (hn : hasB O ((cj t k y : Nat) : Int) = false) : OrbOk t x (O ++ [((cj t k y : Nat) : Int)]) where
  pos := by simp
  first := by rw [ix_append_left h.pos]; exact h.first
  mem := fun i hi => by
    by_cases e : i < O.length
    · rw [ix_append_left e]; exact h.mem i e
    · have : i = O.length := by simp at hi; omega
      subst this
      exact ⟨cj t k y, ix_append_one _ _, cj_lt hG hk hy, by rw [minC_cj hG hk hy, hc]⟩
  nodup := by
    rw [List.nodup_append]
    refine ⟨h.nodup, by simp, fun a ha b hb => ?_⟩
    simp at hb
    subst hb
    intro e; subst e
    rw [hasB_mem.2 ha] at hn; cases hn
/-- the first k conjugates of y are in O -/
def OrbRow (t : List (List Int)) (O : List Int) (y k : Nat) : Prop := ∀ j, j < k → hasB O ((cj t j y : Nat) : Int) = true
/-- .. all of the first i of O -/
def OrbTo (t : List (List Int)) (O : List Int) (i : Nat) : Prop := ∀ a, a < i → a < O.length → OrbRow t O (ix O a).toNat t.length
theorem OrbRow.zero (t O y) : OrbRow t O y 0 := all_zero
theorem hasB_more {O : List Int} {z u : Int} (h : hasB O z = true) : hasB (O ++ [u]) z = true := hasB_mem.2 (List.mem_append.2 (.inl (hasB_mem.1 h)))
theorem OrbRow.new {t O y k} (h : OrbRow t O y k) : OrbRow t (O ++ [((cj t k y : Nat) : Int)]) y (k + 1) :=
  all_succ (fun j hj => hasB_more (h j hj)) (hasB_mem.2 (by simp))
theorem OrbTo.zero (t O) : OrbTo t O 0 := fun a ha => by omega
theorem OrbTo.more {t O i} {z : Int} (h : OrbTo t O i) (hi : i ≤ O.length) : OrbTo t (O ++ [z]) i := fun a ha hl j hj => by
  have hl' : a < O.length := by omega
  have := h a ha hl' j hj
  rw [ix_append_left hl']
  exact hasB_more this
theorem OrbTo.succ {t O i} (h : OrbTo t O i) (hr : OrbRow t O (ix O i).toNat t.length) : OrbTo t O (i + 1) := fun a ha hl => by
  by_cases e : a = i
  · subst e; exact hr
  · exact h a (by omega) hl
theorem OrbTo.all {t : List (List Int)} (hG : GroupOk t) {x : Nat} {O : List Int} (h : OrbOk t x O) (hx : x < t.length) (ht : OrbTo t O O.length) {y : Nat} (hy : y < t.length) (e : minC t y = minC t x) : hasB O (y : Int) = true := by
  obtain ⟨k, hk, ek⟩ := minC_conj hG hx hy e.symm
  have := ht 0 h.pos h.pos k hk
  rw [h.first, Int.toNat_natCast, ek] at this
  exact this
end Go.Proofs.YthlafeefjonkdaaDoor
