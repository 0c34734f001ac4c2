/-
  Contracts of the laws' own helpers: equality, size, copies, marks.
-/
import Derived.Test.YtjfjpngajboidaaGreatKx3
import Derived.Test.YtjfjpngajboidaaGreatKx5
namespace Go.Proofs.YtjfjpngajboidaaGreat
set_option linter.unusedVariables false
set_option linter.unusedSimpArgs false
open Go.RowKit

@[irreducible] def eqIB (a b : List Int) : Bool := decide (a = b)
theorem eqIB_yes {a b : List Int} (h : a = b) : eqIB a b = true := by unfold eqIB; simpa using h
theorem eqIB_no {a b : List Int} (h : a ≠ b) : eqIB a b = false := by unfold eqIB; simpa using h
theorem eqIB_iff {a b : List Int} : eqIB a b = true ↔ a = b := by unfold eqIB; simp
def SameTo (a b : List Int) (k : Nat) : Prop := ∀ i, i < k → ix a i = ix b i
def SzTo (t : List (List Int)) (m : Nat) : Prop := ∀ i, i < m → (row t i).length ≤ 1048576
theorem row_out {t : List (List Int)} {i : Nat} (h : t.length ≤ i) : row t i = [] := by rw [row_eq]; simp [List.getD, h]
theorem SzTo.small {t : List (List Int)} (h0 : t.length ≤ 1048576) (h : SzTo t t.length) : Small t := ⟨h0, fun i => by
  by_cases hi : i < t.length
  · exact h i hi
  · rw [row_out (by omega)]; simp⟩

end Go.Proofs.YtjfjpngajboidaaGreat


namespace Go.Proofs.YtjfjpngajboidaaGreat
set_option linter.unusedVariables false
set_option linter.unusedSimpArgs false
open Go.RowKit

@[irreducible] def turnF (t : List (List Int)) (x y : Nat) : Int := ent t y x
theorem turnF_def (t : List (List Int)) (x y : Nat) : turnF t x y = ent t y x := by unfold turnF; rfl
@[irreducible] def turnT (t : List (List Int)) : List (List Int) := mkT t.length (turnF t)
theorem turnT_def (t : List (List Int)) : turnT t = mkT t.length (turnF t) := by unfold turnT; rfl
theorem length_turnT (t : List (List Int)) : (turnT t).length = t.length := by rw [turnT_def]; exact length_mkT _ _
theorem length_row_mkT (n : Nat) (f : Nat → Nat → Int) (x : Nat) (h : x < n) : (row (mkT n f) x).length = n := by rw [row_mkT _ _ _ h]; exact length_partRow _ _ _ _
theorem length_row_turnT (t : List (List Int)) (x : Nat) (h : x < t.length) : (row (turnT t) x).length = t.length := by rw [turnT_def]; exact length_row_mkT _ _ _ h
theorem ent_turnT (t : List (List Int)) (x y : Nat) (hx : x < t.length) (hy : y < t.length) : ent (turnT t) x y = ent t y x := by rw [turnT_def, ent_mkT _ _ _ _ hx hy, turnF_def]
/-! ### comparing -/
def cmpI (a b : Int) : Int := if a < b then -1 else if b < a then 1 else 0
theorem cmpI_zero {a b : Int} : cmpI a b = 0 ↔ a = b := by
  unfold cmpI
  split
  · constructor
    · intro h; simp at h
    · intro h; omega
  · split
    · constructor
      · intro h; simp at h
      · intro h; omega
    · constructor
      · intro _; omega
      · intro _; rfl
def cmpBy {α : Type} (c : α → α → Int) : List α → List α → Int
  | [], [] => 0
  | [], _ :: _ => -1
  | _ :: _, [] => 1
  | x :: r, y :: s => if c x y = 0 then cmpBy c r s else c x y
@[irreducible] def cmpL (l m : List Int) : Int := cmpBy cmpI l m
@[irreducible] def cmpLF (l m : List Int) (k : Nat) : Int := cmpL (l.drop k) (m.drop k)
theorem cmpLF_zero (l m : List Int) : cmpL l m = cmpLF l m 0 := by unfold cmpLF; simp
theorem cmpLF_more {l m : List Int} {k : Nat} (h : k < l.length) (h2 : m.length ≤ k) : cmpLF l m k = 1 := by
  unfold cmpLF cmpL; rw [drop_cons l k h, List.drop_of_length_le h2]; rfl
theorem cmpLF_less {l m : List Int} {k : Nat} (h : l.length ≤ k) (h2 : k < m.length) : cmpLF l m k = -1 := by
  unfold cmpLF cmpL; rw [drop_cons m k h2, List.drop_of_length_le h]; rfl
theorem cmpLF_end {l m : List Int} {k : Nat} (h : l.length ≤ k) (h2 : m.length ≤ k) : cmpLF l m k = 0 := by
  unfold cmpLF cmpL; rw [List.drop_of_length_le h2, List.drop_of_length_le h]; rfl
theorem cmpLF_ne {l m : List Int} {k : Nat} (h : k < l.length) (h2 : k < m.length) (e : cmpI (ix l k) (ix m k) ≠ 0) : cmpLF l m k = cmpI (ix l k) (ix m k) := by
  unfold cmpLF cmpL; rw [drop_cons l k h, drop_cons m k h2]; simp only [cmpBy]; rw [if_neg e]
theorem cmpLF_eq {l m : List Int} {k : Nat} (h : k < l.length) (h2 : k < m.length) (e : cmpI (ix l k) (ix m k) = 0) : cmpLF l m k = cmpLF l m (k + 1) := by
  unfold cmpLF cmpL; rw [drop_cons l k h, drop_cons m k h2]; simp only [cmpBy]; rw [if_pos e]
def ComTo (t : List (List Int)) (x k : Nat) : Prop := ∀ y, y < k → ent t x y = ent t y x
instance (t x k) : Decidable (ComTo t x k) := by unfold ComTo; infer_instance
def ComAll (t : List (List Int)) (k : Nat) : Prop := ∀ x, x < k → ComTo t x x
theorem ComTo.zero (t x) : ComTo t x 0 := all_zero
theorem ComTo.succ {t x k} (h : ComTo t x k) (hk : ent t x k = ent t k x) : ComTo t x (k + 1) := all_succ h hk
theorem ComTo.mono {t x k k'} (h : ComTo t x k) (hk : k' ≤ k) : ComTo t x k' := all_mono h hk
theorem ComAll.zero (t) : ComAll t 0 := all_zero
theorem ComAll.succ {t k} (h : ComAll t k) (hk : ComTo t k k) : ComAll t (k + 1) := all_succ h hk
@[irreducible] def comB (t : List (List Int)) (x k : Nat) : Bool := decide (ComTo t x k)
end Go.Proofs.YtjfjpngajboidaaGreat


namespace Go.Proofs.YtjfjpngajboidaaGreat
set_option linter.unusedVariables false
set_option linter.unusedSimpArgs false

@[irreducible] def conjF (t : List (List Int)) (x y : Nat) : Int := ent t (ent t x y).toNat (backF t x).toNat
theorem conjF_def (t : List (List Int)) (x y : Nat) : ent t (ent t x y).toNat (backF t x).toNat = conjF t x y := by unfold conjF; rfl

theorem RowsAt.read {w : World} {b o n : Nat} {t : List (List Int)} (h : RowsAt w b o t) (hT : TableOk t) (hn : t.length = n) {x : Nat} (hx : x < n) :
    ∃ d s m, w.cell? ⟨b, o + x, none⟩ = some (.slice (some ⟨d, s, none⟩) n m) ∧ ∀ y, y < n → w.cell? ⟨d, s + y, none⟩ = some (.int .i64 (ent t x y)) ∧ 0 ≤ ent t x y ∧ ent t x y < (n : Int) := by
  subst hn
  obtain ⟨d, s, m, r, l, -⟩ := h.get hx
  rw [hT.len hx] at r
  exact ⟨d, s, m, r, fun y hy => ⟨l.ent (hT.len hx) hy, (hT.bd hx hy).1, by have := (hT.bd hx hy).2; omega⟩⟩
end Go.Proofs.YtjfjpngajboidaaGreat


namespace Go.Proofs.YtjfjpngajboidaaGreat
set_option linter.unusedVariables false
set_option linter.unusedSimpArgs false
open Go.RowKit

theorem conjF_bd {t : List (List Int)} (hG : GroupOk t) {x y : Nat} (hx : x < t.length) (hy : y < t.length) : 0 ≤ conjF t x y ∧ conjF t x y < (t.length : Int) := by
  rw [← conjF_def]
  have h1 := backF_ok hG hx
  have h2 := hG.1.bd hx hy
  have := hG.1.bd (x := (ent t x y).toNat) (y := (backF t x).toNat) (by omega) (by omega)
  omega
def NormRow (t : List (List Int)) (m x k : Nat) : Prop := ∀ y, y < k → bitB m y = true → bitB m (conjF t x y).toNat = true
def NormTo (t : List (List Int)) (m n k : Nat) : Prop := ∀ x, x < k → NormRow t m x n
instance (t m x k) : Decidable (NormRow t m x k) := by unfold NormRow; infer_instance
instance (t m n k) : Decidable (NormTo t m n k) := by unfold NormTo; infer_instance
theorem NormRow.zero (t m x) : NormRow t m x 0 := all_zero
theorem NormRow.succ {t m x k} (h : NormRow t m x k) (hk : bitB m k = true → bitB m (conjF t x k).toNat = true) : NormRow t m x (k + 1) := all_succ h hk
theorem NormRow.mono {t m x k k'} (h : NormRow t m x k) (hk : k' ≤ k) : NormRow t m x k' := all_mono h hk
theorem NormTo.zero (t m n) : NormTo t m n 0 := all_zero
theorem NormTo.succ {t m n k} (h : NormTo t m n k) (hk : NormRow t m k n) : NormTo t m n (k + 1) := all_succ h hk
def NormL (t : List (List Int)) (m x k : Nat) : Prop := ∀ i, i < k → bitB m (conjF t x (ix (elemsL m) i).toNat).toNat = true
theorem NormL.zero (t m x) : NormL t m x 0 := all_zero
theorem NormL.succ {t m x k} (h : NormL t m x k) (hk : bitB m (conjF t x (ix (elemsL m) k).toNat).toNat = true) : NormL t m x (k + 1) := all_succ h hk
theorem NormL.row {t : List (List Int)} {m x : Nat} (hm : m < 2 ^ t.length) (hn : t.length ≤ 12) (h : NormL t m x (elemsL m).length) : NormRow t m x t.length := fun y _ hb => by
  obtain ⟨i, hi, e⟩ := elemsL_has hm (by omega) hb
  have := h i hi
  rw [e] at this
  simpa using this
end Go.Proofs.YtjfjpngajboidaaGreat


namespace Go.Proofs.YtjfjpngajboidaaGreat
set_option linter.unusedVariables false
set_option linter.unusedSimpArgs false

theorem hasB_mem {l : List Int} {n : Int} : hasB l n = true ↔ n ∈ l := by
  rw [hasB_iff]
  rcases indexOf_spec l n with ⟨h1, h2⟩ | ⟨i, h1, h2, h3, _⟩
  · rw [h1]
    constructor
    · intro h; omega
    · intro h; obtain ⟨i, hi, e⟩ := mem_ix h; exact absurd e (h2 i hi)
  · rw [h2]
    constructor
    · intro _; rw [← h3]; exact ix_mem l i h1
    · intro _; omega
theorem ix_append_left {a b : List Int} {i : Nat} (h : i < a.length) : ix (a ++ b) i = ix a i := by
  rw [ix_eq, ix_eq]; simp [List.getD, List.getElem?_append_left h]
theorem ix_append_one (a : List Int) (x : Int) : ix (a ++ [x]) a.length = x := by rw [ix_eq]; simp [List.getD]
end Go.Proofs.YtjfjpngajboidaaGreat


namespace Go.Proofs.YtjfjpngajboidaaGreat
set_option linter.unusedVariables false
set_option linter.unusedSimpArgs false

def gm (t : List (List Int)) (x y : Nat) : Nat := (ent t x y).toNat
def gi (t : List (List Int)) (x : Nat) : Nat := (backF t x).toNat
def cj (t : List (List Int)) (x y : Nat) : Nat := (conjF t x y).toNat
theorem cj_eq (t : List (List Int)) (x y : Nat) : cj t x y = gm t (gm t x y) (gi t x) := by unfold cj gm gi; rw [conjF_def]
section
variable {t : List (List Int)} (h : GroupOk t)
include h
theorem gm_lt {x y : Nat} (hx : x < t.length) (hy : y < t.length) : gm t x y < t.length := ent_nn h.1 hx hy
theorem gi_lt {x : Nat} (hx : x < t.length) : gi t x < t.length := by have := backF_ok h hx; unfold gi; omega
theorem cj_lt {x y : Nat} (hx : x < t.length) (hy : y < t.length) : cj t x y < t.length := by have := conjF_bd h hx hy; unfold cj; omega
theorem gm_assoc {x y z : Nat} (hx : x < t.length) (hy : y < t.length) (hz : z < t.length) : gm t (gm t x y) z = gm t x (gm t y z) := by
  unfold gm; rw [grp_assoc h hx hy hz]
theorem gm_zero {x : Nat} (hx : x < t.length) : gm t 0 x = x := by unfold gm; rw [grp_unit_l h hx]; simp
theorem gm_unit {x : Nat} (hx : x < t.length) : gm t x 0 = x := by unfold gm; rw [grp_unit_r h hx]; simp
theorem gm_gi {x : Nat} (hx : x < t.length) : gm t x (gi t x) = 0 := by
  have := (backF_ok h hx).2.2
  unfold gm gi; rw [this]; rfl
theorem gm_inj {x y z : Nat} (hx : x < t.length) (hy : y < t.length) (hz : z < t.length) (e : gm t x y = gm t x z) : y = z := by
  have h1 := h.1.bd hx hy
  have h2 := h.1.bd hx hz
  unfold gm at e
  exact grp_inj h hx hy hz (by omega)
theorem pos_len : 0 < t.length := h.1.1
theorem gi_gm {x : Nat} (hx : x < t.length) : gm t (gi t x) x = 0 := by
  have hi := gi_lt h hx
  have h0 := pos_len h
  have : gm t x (gm t (gi t x) x) = gm t x 0 := by rw [← gm_assoc h hx hi hx, gm_gi h hx, gm_zero h hx, gm_unit h hx]
  exact gm_inj h hx (gm_lt h hi hx) h0 this
theorem gi_zero : gi t 0 = 0 := by
  have h0 := pos_len h
  have := gm_gi h h0
  rwa [gm_zero h (gi_lt h h0)] at this
theorem gi_mul {x y : Nat} (hx : x < t.length) (hy : y < t.length) : gi t (gm t x y) = gm t (gi t y) (gi t x) := by
  have hxy := gm_lt h hx hy
  have ix := gi_lt h hx
  have iy := gi_lt h hy
  refine gm_inj h hxy (gi_lt h hxy) (gm_lt h iy ix) ?_
  rw [gm_gi h hxy, gm_assoc h hx hy (gm_lt h iy ix), ← gm_assoc h hy iy ix, gm_gi h hy, gm_zero h ix, gm_gi h hx]
theorem cj_zero {y : Nat} (hy : y < t.length) : cj t 0 y = y := by rw [cj_eq t, gi_zero h, gm_zero h hy, gm_unit h hy]
theorem cj_cj {x y z : Nat} (hx : x < t.length) (hy : y < t.length) (hz : z < t.length) : cj t x (cj t y z) = cj t (gm t x y) z := by
  have ix := gi_lt h hx
  have iy := gi_lt h hy
  have hyz := gm_lt h hy hz
  rw [cj_eq t, cj_eq t, cj_eq t, gi_mul h hx hy, ← gm_assoc h hx hyz iy, ← gm_assoc h (gm_lt h (gm_lt h hx hy) hz) iy ix, ← gm_assoc h hx hy hz]
theorem cj_back {x y : Nat} (hx : x < t.length) (hy : y < t.length) : cj t (gi t x) (cj t x y) = y := by
  rw [cj_cj h (gi_lt h hx) hx hy, gi_gm h hx, cj_zero h hy]
end
def lstTo (t : List (List Int)) (y : Nat) : Nat → Int
  | 0 => (y : Int)
  | k + 1 => min (lstTo t y k) (conjF t k y)
@[irreducible] def lstF (t : List (List Int)) (k y : Nat) : Int := lstTo t y k
theorem lstF_zero (t y) : lstF t 0 y = (y : Int) := by unfold lstF; rfl
theorem lstF_succ (t k y) : lstF t (k + 1) y = min (lstF t k y) (conjF t k y) := by unfold lstF; rfl
@[irreducible] def minC (t : List (List Int)) (y : Nat) : Int := lstF t t.length y
theorem minC_def (t y) : minC t y = lstF t t.length y := by unfold minC; rfl
theorem lstF_le (t : List (List Int)) (y : Nat) : ∀ k, (lstF t k y ≤ (y : Int)) ∧ ∀ x, x < k → lstF t k y ≤ conjF t x y
  | 0 => ⟨by rw [lstF_zero]; omega, fun x hx => by omega⟩
  | k + 1 => by
    have ⟨h1, h2⟩ := lstF_le t y k
    rw [lstF_succ]
    refine ⟨by omega, fun x hx => ?_⟩
    by_cases e : x = k
    · subst e; omega
    · have := h2 x (by omega); omega
theorem lstF_is (t : List (List Int)) (y : Nat) : ∀ k, lstF t k y = (y : Int) ∨ ∃ x, x < k ∧ lstF t k y = conjF t x y
  | 0 => .inl (lstF_zero t y)
  | k + 1 => by
    rw [lstF_succ]
    rcases Int.le_total (lstF t k y) (conjF t k y) with g | g
    · rw [Int.min_eq_left g]
      rcases lstF_is t y k with e | ⟨x, hx, e⟩
      · exact .inl e
      · exact .inr ⟨x, by omega, e⟩
    · rw [Int.min_eq_right g]; exact .inr ⟨k, by omega, rfl⟩
theorem minC_is {t : List (List Int)} (h : GroupOk t) {y : Nat} (hy : y < t.length) : ∃ x, x < t.length ∧ minC t y = ((cj t x y : Nat) : Int) := by
  rw [minC_def]
  rcases lstF_is t y t.length with e | ⟨x, hx, e⟩
  · exact ⟨0, pos_len h, by rw [e, cj_zero h hy]⟩
  · have := conjF_bd h hx hy
    exact ⟨x, hx, by rw [e]; unfold cj; omega⟩
theorem minC_le {t : List (List Int)} (h : GroupOk t) {x y : Nat} (hx : x < t.length) (hy : y < t.length) : minC t y ≤ ((cj t x y : Nat) : Int) := by
  have h1 := (lstF_le t y t.length).2 x hx
  have := conjF_bd h hx hy
  rw [minC_def]; unfold cj; omega
theorem minC_cj {t : List (List Int)} (h : GroupOk t) {x y : Nat} (hx : x < t.length) (hy : y < t.length) : minC t (cj t x y) = minC t y := by
  have hc := cj_lt h hx hy
  obtain ⟨a, ha, ea⟩ := minC_is h hy
  obtain ⟨b, hb, eb⟩ := minC_is h hc
  have h1 := minC_le h (gm_lt h hb hx) hy
  rw [← cj_cj h hb hx hy] at h1
  have h2 := minC_le h (gm_lt h ha (gi_lt h hx)) hc
  rw [← cj_cj h ha (gi_lt h hx) hc, cj_back h hx hy] at h2
  omega
theorem minC_conj {t : List (List Int)} (h : GroupOk t) {x y : Nat} (hx : x < t.length) (hy : y < t.length) (e : minC t x = minC t y) : ∃ k, k < t.length ∧ cj t k x = y := by
  obtain ⟨a, ha, ea⟩ := minC_is h hx
  obtain ⟨b, hb, eb⟩ := minC_is h hy
  refine ⟨gm t (gi t b) a, gm_lt h (gi_lt h hb) ha, ?_⟩
  rw [← cj_cj h (gi_lt h hb) ha hx]
  have : cj t a x = cj t b y := by omega
  rw [this, cj_back h hb hy]
/-! ### the reference's way -/
structure OrbOk (t : List (List Int)) (x : Nat) (O : List Int) : Prop where
  pos : 0 < O.length
  first : ix O 0 = (x : Int)
  mem : ∀ i, i < O.length → ∃ y : Nat, ix O i = (y : Int) ∧ y < t.length ∧ minC t y = minC t x
  nodup : O.Nodup
theorem OrbOk.one {t : List (List Int)} {x : Nat} (hx : x < t.length) : OrbOk t x [(x : Int)] where
  pos := by simp
  first := by rw [ix_eq]; rfl
  mem := fun i hi => by
    have : i = 0 := by simp at hi; omega
    subst this
    exact ⟨x, by rw [ix_eq]; rfl, hx, rfl⟩
  nodup := by simp
theorem OrbOk.len {t : List (List Int)} {x : Nat} {O : List Int} (h : OrbOk t x O) : O.length ≤ t.length := by
  have := nodup_le O (intRange t.length) h.nodup (fun z hz => by
    obtain ⟨i, hi, rfl⟩ := mem_ix hz
    obtain ⟨y, e, hy, _⟩ := h.mem i hi
    rw [e, mem_intRange]; omega)
  rwa [length_intRange] at this
theorem OrbOk.add {t : List (List Int)} (hG : GroupOk t) {x y k : Nat} {O : List Int} (h : OrbOk t x O) (hy : y < t.length) (hc : minC t y = minC t x) (hk : k < t.length) (hn : hasB O ((cj t k y : Nat) : Int) = false) : OrbOk t x (O ++ [((cj t k y : Nat) : Int)]) where
  pos := by simp
  first := by rw [ix_append_left h.pos]; exact h.first
  mem := fun i hi => by
    by_cases e : i < O.length
    · rw [ix_append_left e]; exact h.mem i e
    · have : i = O.length := by simp at hi; omega
      subst this
      exact ⟨cj t k y, ix_append_one _ _, cj_lt hG hk hy, by rw [minC_cj hG hk hy, hc]⟩
  nodup := by
    rw [List.nodup_append]
    refine ⟨h.nodup, by simp, fun a ha b hb => ?_⟩
    simp at hb
    subst hb
    intro e; subst e
    rw [hasB_mem.2 ha] at hn; cases hn
def OrbRow (t : List (List Int)) (O : List Int) (y k : Nat) : Prop := ∀ j, j < k → hasB O ((cj t j y : Nat) : Int) = true
def OrbTo (t : List (List Int)) (O : List Int) (i : Nat) : Prop := ∀ a, a < i → a < O.length → OrbRow t O (ix O a).toNat t.length
theorem OrbRow.zero (t O y) : OrbRow t O y 0 := all_zero
theorem hasB_more {O : List Int} {z u : Int} (h : hasB O z = true) : hasB (O ++ [u]) z = true := hasB_mem.2 (List.mem_append.2 (.inl (hasB_mem.1 h)))
theorem OrbRow.old {t O y k} (h : OrbRow t O y k) (hk : hasB O ((cj t k y : Nat) : Int) = true) : OrbRow t O y (k + 1) := all_succ h hk
theorem OrbRow.new {t O y k} (h : OrbRow t O y k) : OrbRow t (O ++ [((cj t k y : Nat) : Int)]) y (k + 1) :=
  all_succ (fun j hj => hasB_more (h j hj)) (hasB_mem.2 (by simp))
theorem OrbTo.zero (t O) : OrbTo t O 0 := fun a ha => by omega
theorem OrbTo.more {t O i} {z : Int} (h : OrbTo t O i) (hi : i ≤ O.length) : OrbTo t (O ++ [z]) i := fun a ha hl j hj => by
  have hl' : a < O.length := by omega
  have := h a ha hl' j hj
  rw [ix_append_left hl']
  exact hasB_more this
theorem OrbTo.succ {t O i} (h : OrbTo t O i) (hr : OrbRow t O (ix O i).toNat t.length) : OrbTo t O (i + 1) := fun a ha hl => by
  by_cases e : a = i
  · subst e; exact hr
  · exact h a (by omega) hl
theorem OrbTo.all {t : List (List Int)} (hG : GroupOk t) {x : Nat} {O : List Int} (h : OrbOk t x O) (hx : x < t.length) (ht : OrbTo t O O.length) {y : Nat} (hy : y < t.length) (e : minC t y = minC t x) : hasB O (y : Int) = true := by
  obtain ⟨k, hk, ek⟩ := minC_conj hG hx hy e.symm
  have := ht 0 h.pos h.pos k hk
  rw [h.first, Int.toNat_natCast, ek] at this
  exact this
end Go.Proofs.YtjfjpngajboidaaGreat


namespace Go.Proofs.YtjfjpngajboidaaGreat
set_option linter.unusedVariables false
set_option linter.unusedSimpArgs false
open Go.RowKit

theorem OwnV.small {lo hi : Nat} {w : World} {v : Value} {t : List (List Int)} (h : OwnV lo hi w v t) : Small t := h.1
theorem OwnIV.small {lo hi : Nat} {w : World} {v : Value} {l : List Int} (h : OwnIV lo hi w v l) : l.length ≤ 1048576 := h.1

end Go.Proofs.YtjfjpngajboidaaGreat


namespace Go.Proofs.YtjfjpngajboidaaGreat
set_option linter.unusedVariables false
set_option linter.unusedSimpArgs false
open Go.RowKit

def RowsB (w : World) (v y : Value) (t u : List (List Int)) : Prop := RowsR w v t ∧ RowsR w y u
theorem RowsB.ext {w w' : World} {v y : Value} {t u : List (List Int)} (h : RowsB w v y t u) (hx : Ext w w') : RowsB w' v y t u := ⟨h.1.ext hx, h.2.ext hx⟩
def OwnB (lo hi : Nat) (w : World) (v y : Value) (t u : List (List Int)) : Prop :=
  ∃ a b c d : Nat, lo ≤ a ∧ b ≤ hi ∧ lo ≤ c ∧ d ≤ hi ∧ (b ≤ c ∨ d ≤ a) ∧ OwnV a b w v t ∧ OwnV c d w y u
theorem OwnB.toR {lo hi : Nat} {w : World} {v y : Value} {t u : List (List Int)} (h : OwnB lo hi w v y t u) : RowsR w v t ∧ RowsR w y u := by
  obtain ⟨a, b, c, d, -, -, -, -, -, h1, h2⟩ := h
  exact ⟨h1.toR, h2.toR⟩
theorem OwnB.small {lo hi : Nat} {w : World} {v y : Value} {t u : List (List Int)} (h : OwnB lo hi w v y t u) : Small t ∧ Small u := by
  obtain ⟨a, b, c, d, -, -, -, -, -, h1, h2⟩ := h
  exact ⟨h1.1, h2.1⟩
theorem OwnB.open {lo hi : Nat} {w : World} {v y : Value} {t u : List (List Int)} (h : OwnB lo hi w v y t u) :
    (Small t ∧ ∃ a c, v = .slice a t.length c ∧ True) ∧ (Small u ∧ ∃ a c, y = .slice a u.length c ∧ True) := by
  obtain ⟨a, b, c, d, -, -, -, -, -, ⟨h1, a1, c1, rfl, -⟩, ⟨h2, a2, c2, rfl, -⟩⟩ := h
  exact ⟨⟨h1, a1, c1, rfl, trivial⟩, ⟨h2, a2, c2, rfl, trivial⟩⟩
theorem OwnB.keep {lo hi : Nat} {w w' : World} {v y : Value} {t u : List (List Int)} (h : OwnB lo hi w v y t u) (e : ∀ k, lo ≤ k → k < hi → w'.heap[k]? = w.heap[k]?) : OwnB lo hi w' v y t u := by
  obtain ⟨a, b, c, d, k1, k2, k3, k4, k5, h1, h2⟩ := h
  exact ⟨a, b, c, d, k1, k2, k3, k4, k5, h1.keep fun k q1 q2 => e k (by omega) (by omega), h2.keep fun k q1 q2 => e k (by omega) (by omega)⟩
theorem OwnB.ext {lo hi : Nat} {w w' : World} {v y : Value} {t u : List (List Int)} (h : OwnB lo hi w v y t u) (hx : Ext w w') (hh : hi ≤ w.heap.size) : OwnB lo hi w' v y t u := h.keep fun k _ hk => hx.block k (by omega)
theorem OwnB.touch {lo hi lo' hi' : Nat} {w w' : World} {v y : Value} {t u : List (List Int)} (h : OwnB lo hi w v y t u) (m : Touch lo' hi' w w') (hd : hi ≤ lo' ∨ hi' ≤ lo) (hw : hi ≤ w.heap.size) : OwnB lo hi w' v y t u :=
  h.keep fun k h1 h2 => m.block k (by omega) (by omega)
theorem OwnB.mono {lo hi lo' hi' : Nat} {w : World} {v y : Value} {t u : List (List Int)} (h : OwnB lo hi w v y t u) (h1 : lo' ≤ lo) (h2 : hi ≤ hi') : OwnB lo' hi' w v y t u := by
  obtain ⟨a, b, c, d, k1, k2, k3, k4, k5, g1, g2⟩ := h
  exact ⟨a, b, c, d, by omega, by omega, by omega, by omega, k5, g1, g2⟩
theorem OwnB.nil (lo hi : Nat) (w : World) (h : lo ≤ hi) : OwnB lo hi w (.slice none 0 0) (.slice none 0 0) [] [] := ⟨lo, lo, lo, lo, by omega, by omega, by omega, by omega, by omega, OwnV.nil _ _ _, OwnV.nil _ _ _⟩
theorem RowsB.nil (w : World) (c d : Nat) : RowsB w (.slice none 0 c) (.slice none 0 d) [] [] := ⟨RowsR.nil _ _, RowsR.nil _ _⟩

theorem cell_new2a (w : World) (v u : Value) (T : Nat) : (w.alloc (.cells #[v, u] T)).cell? ⟨w.heap.size, 0, none⟩ = some v := by simp [go_sem]
theorem cell_new2b (w : World) (v u : Value) (T : Nat) : (w.alloc (.cells #[v, u] T)).cell? ⟨w.heap.size, 1, none⟩ = some u := by simp [go_sem]
end Go.Proofs.YtjfjpngajboidaaGreat


namespace Go.Proofs.YtjfjpngajboidaaGreat
set_option linter.unusedVariables false
set_option linter.unusedSimpArgs false
open Go.RowKit

theorem l01In_any (n lo hi : Int) (w : World) : Calls Tryz.prog 62 #[.int .i64 n, .int .i64 lo, .int .i64 hi] w fun e w' => e = .returned (.bool (inR n lo hi)) ∧ w = w' := by
  go_enter Tryz.func62, Tryz.ntmps62
  go_wp2
  all_goals go_ret
  all_goals exact ⟨by unfold inR; apply ret_bool; simp; omega, rfl⟩

theorem within_any (n lo hi : Int) (w : World) : Calls Tryz.prog 129 #[.int .i64 n, .int .i64 lo, .int .i64 hi] w fun e w' => e = .returned (.bool (inR n lo hi)) ∧ w = w' := by
  go_enter Tryz.func129, Tryz.ntmps129
  go_wp2
  all_goals go_ret
  all_goals exact ⟨by unfold inR; apply ret_bool; simp; omega, rfl⟩

theorem l01Index_any (l : List Int) (v : Value) (n : Int) (w : World) (hv : Ints w v l) :
    Calls Tryz.prog 63 #[v, .int .i64 n] w fun e w' => e = .returned (.int .i64 (indexOf l n)) ∧ w = w' := by
  obtain ⟨hlen, b, o, c, rfl, hc⟩ := hv
  go_enter Tryz.func63, Tryz.ntmps63
  go_wp2
  go_loop [5] (fun i => ∃ k : Nat, k ≤ l.length ∧ i = .int .i64 k ∧ indexOf l n = indexFrom n (l.drop k) k) (fun i => l.length - (intOf i).toNat)
  case atStart => exact ⟨0, Nat.zero_le _, rfl, by unfold indexOf; rfl⟩
  case round =>
    obtain ⟨k, hk, rfl, hr⟩ := hrel
    have Hr := Lib.hid hr
    clear hr
    by_cases hlt : k < l.length
    · have hcell := hc k hlt
      by_cases he : (ix l k == n) = true
      · go_wp2
        go_ret
        exact ⟨ret_int (by rw [Hr.out, indexFrom_hit l n k hlt (by simpa using he)]), rfl⟩
      · have he' : (ix l k == n) = false := by simpa using he
        clear he
        go_wp2
        go_round
        case rel => exact ⟨k + 1, by omega, by go_num, by rw [Hr.out, indexFrom_miss l n k hlt (by simpa using he')]⟩
        case measure => simp [intOf]; omega
    · go_wp2
      go_ret
      exact ⟨ret_int (by rw [Hr.out, indexFrom_end l n k (by omega)]), rfl⟩

theorem l01Has_any (l : List Int) (v : Value) (n : Int) (w : World) (hv : Ints w v l) :
    Calls Tryz.prog 57 #[v, .int .i64 n] w fun e w' => e = .returned (.bool (hasB l n)) ∧ w = w' := by
  go_enter Tryz.func57, Tryz.ntmps57
  go_wp2_with (go_at_call 63; refine (l01Index_any l _ _ _ hv).mono ?_; rintro e w' ⟨rfl, rfl⟩)
  go_ret
  exact ⟨ret_bool (by rw [hasB_def]), rfl⟩
end Go.Proofs.YtjfjpngajboidaaGreat


namespace Go.Proofs.YtjfjpngajboidaaGreat
set_option linter.unusedVariables false
set_option linter.unusedSimpArgs false
open Go.RowKit

theorem l01Table_any (t : List (List Int)) (v : Value) (w : World) (hv : Rows w v t) :
    Calls Tryz.prog 126 #[v] w fun e w' => e = .returned (.bool (tableB t)) ∧ w = w' := by
  obtain ⟨hlen, b, o, c, rfl, hc⟩ := hv
  cases hin : inR t.length 1 12 with
  | false =>
    go_enter Tryz.func126, Tryz.ntmps126
    go_wp2_with (go_at_call 62; refine (l01In_any _ _ _ _).mono ?_; rintro e w' ⟨rfl, rfl⟩)
    go_ret
    have := inR_false.1 hin
    exact ⟨ret_bool (tableB_no (fun h => this ⟨by have := h.1; omega, by have := h.2.1; omega⟩)).symm, rfl⟩
  | true =>
    have hb := inR_iff.1 hin
    go_enter Tryz.func126, Tryz.ntmps126
    go_wp2_with (go_at_call 62; refine (l01In_any _ _ _ _).mono ?_; rintro e w' ⟨rfl, rfl⟩)
    clear hin
    go_loop [4] (fun x => ∃ k : Nat, k ≤ t.length ∧ x = .int .i64 k ∧ RowsOk t t.length k) (fun x => t.length - (intOf x).toNat)
    case atStart => exact ⟨0, Nat.zero_le _, rfl, RowsOk.zero _ _⟩
    case round =>
      obtain ⟨k, hk, rfl, hok⟩ := hrel
      by_cases hlt : k < t.length
      · obtain ⟨b1, o1, c1, hr, hc1, hrl⟩ := hc.get hlt
        by_cases hw : (row t k).length = t.length
        · go_wp2
          go_loop [5] (fun y => ∃ j : Nat, j ≤ t.length ∧ y = .int .i64 j ∧ RowTo t t.length k j) (fun y => t.length - (intOf y).toNat)
          case atStart => exact ⟨0, Nat.zero_le _, rfl, RowTo.zero _ _ _⟩
          case round =>
            obtain ⟨j, hj, rfl, hto⟩ := hrel
            by_cases hjl : j < t.length
            · have hcell := hc1.ent hw hjl
              cases hin : inR (ent t k j) 0 (t.length - 1) with
              | false =>
                go_wp2_with (go_at_call 62; refine (l01In_any _ _ _ _).mono ?_; rintro e w' ⟨rfl, rfl⟩)
                go_ret
                exact ⟨ret_bool (tableB_no (fun h => inR_false.1 hin ((h.2.2 k hlt).2 j hjl))).symm, rfl⟩
              | true =>
                go_wp2_with (go_at_call 62; refine (l01In_any _ _ _ _).mono ?_; rintro e w' ⟨rfl, rfl⟩)
                go_round
                case rel => exact ⟨j + 1, by omega, by go_num, hto.succ (inR_iff.1 hin)⟩
                case measure => simp [intOf]; omega
            · have hjn : t.length ≤ j := by omega
              go_wp2
              go_round
              case rel => exact ⟨k + 1, by omega, by go_num, hok.succ ⟨hw, hto.mono hjn⟩⟩
              case measure => simp [intOf]; omega
        · go_wp2
          go_ret
          exact ⟨ret_bool (tableB_no (fun h => hw (h.2.2 k hlt).1)).symm, rfl⟩
      · go_wp2
        go_ret
        exact ⟨ret_bool (tableB_yes ⟨by omega, by omega, hok.mono (by omega)⟩).symm, rfl⟩
end Go.Proofs.YtjfjpngajboidaaGreat


namespace Go.Proofs.YtjfjpngajboidaaGreat
set_option linter.unusedVariables false
set_option linter.unusedSimpArgs false
open Go.RowKit

theorem l01Perm_any (l : List Int) (v : Value) (w : World) (hv : Ints w v l) (h1 : 1 ≤ l.length) (h2 : l.length ≤ 12) :
    Calls Tryz.prog 127 #[v] w fun e w' => e = .returned (.bool (permB l)) ∧ w = w' := by
  have hin : inR l.length 1 12 = true := inR_iff.2 ⟨by omega, by omega⟩
  have hv' := hv
  obtain ⟨hlen, b, o, c, rfl, hc⟩ := hv
  clear hc
  go_enter Tryz.func127, Tryz.ntmps127
  go_wp2_with (go_at_call 62; refine (l01In_any _ _ _ _).mono ?_; rintro e w' ⟨rfl, rfl⟩)
  go_loop [4] (fun x => ∃ k : Nat, k ≤ l.length ∧ x = .int .i64 k ∧ HasTo l k) (fun x => l.length - (intOf x).toNat)
  case atStart => exact ⟨0, Nat.zero_le _, rfl, HasTo.zero _⟩
  case round =>
    obtain ⟨k, hk, rfl, hto⟩ := hrel
    by_cases hlt : k < l.length
    · cases hi : hasB l k with
      | true =>
        go_wp2_with (go_at_call 57; refine (l01Has_any l _ _ _ hv').mono ?_; rintro e w' ⟨rfl, rfl⟩)
        go_round
        case rel => exact ⟨k + 1, by omega, by go_num, hto.succ (hasB_iff.1 hi)⟩
        case measure => simp [intOf]; omega
      | false =>
        go_wp2_with (go_at_call 57; refine (l01Has_any l _ _ _ hv').mono ?_; rintro e w' ⟨rfl, rfl⟩)
        go_ret
        exact ⟨ret_bool (permB_no (fun h => hasB_no.1 hi ((permOk_iff_has l).1 h k hlt))).symm, rfl⟩
    · go_wp2
      go_ret
      exact ⟨ret_bool (permB_yes ((permOk_iff_has l).2 (hto.mono (by omega)))).symm, rfl⟩

end Go.Proofs.YtjfjpngajboidaaGreat


namespace Go.Proofs.YtjfjpngajboidaaGreat
set_option linter.unusedVariables false
set_option linter.unusedSimpArgs false
open Go.RowKit

theorem allWithin_any (l : List Int) (v : Value) (lo hi : Int) (w : World) (hv : Ints w v l) :
    Calls Tryz.prog 100 #[v, .int .i64 lo, .int .i64 hi] w fun e w' => e = .returned (.bool (allInB l lo hi)) ∧ w = w' := by
  obtain ⟨hlen, b, o, c, rfl, hc⟩ := hv
  go_enter Tryz.func100, Tryz.ntmps100
  go_wp2
  go_loop [11] (fun i => ∃ k : Nat, k ≤ l.length ∧ i = .int .i64 k ∧ AllInTo l lo hi k) (fun i => l.length - (intOf i).toNat)
  case atStart => exact ⟨0, Nat.zero_le _, rfl, AllInTo.zero _ _ _⟩
  case round =>
    obtain ⟨k, hk, rfl, hto⟩ := hrel
    by_cases hlt : k < l.length
    · have hcell := hc k hlt
      cases hin : inR (ix l k) lo hi with
      | true =>
        go_wp2_with (go_at_call 129; refine (within_any _ _ _ _).mono ?_; rintro e w' ⟨rfl, rfl⟩)
        go_round
        case rel => exact ⟨k + 1, by omega, by go_num, hto.succ (inR_iff.1 hin)⟩
        case measure => simp [intOf]; omega
      | false =>
        go_wp2_with (go_at_call 129; refine (within_any _ _ _ _).mono ?_; rintro e w' ⟨rfl, rfl⟩)
        go_ret
        exact ⟨ret_bool (allInB_no (fun h => inR_false.1 hin (h k hlt))).symm, rfl⟩
    · go_wp2
      go_ret
      exact ⟨ret_bool (allInB_yes (hto.mono (by omega))).symm, rfl⟩

theorem IndexFunc_any (t : List (List Int)) (p : List Int → Bool) (F : Nat) (cap : Array Value) (v : Value) (w : World) (hv : Rows w v t)
    (hcall : ∀ (args : Array Value) (w : World), (callFunc F args).run Tryz.prog w = .ok (.enter F args) w)
    (hf : ∀ w1 r i, Ext w w1 → i < t.length → Ints w1 r (row t i) → Calls Tryz.prog F (#[r] ++ cap) w1 fun e w' => e = .returned (.bool (p (row t i))) ∧ Ext w1 w') :
    Calls Tryz.prog 71 #[v, .func (.func F) #[] cap] w fun e w' => e = .returned (.int .i64 (findIx p t)) ∧ Ext w w' := by
  obtain ⟨hlen, b, o, c, rfl, hc⟩ := hv
  have HF := Lib.hid hf
  clear hf
  go_enter Tryz.func71, Tryz.ntmps71
  go_wp2
  go_loopw [8] (fun i wr => ∃ k : Nat, k ≤ t.length ∧ i = .int .i64 k ∧ findIx p t = findFrom p (t.drop k) k ∧ Ext w wr) (fun i _ => t.length - (intOf i).toNat)
  case atStart => exact ⟨0, Nat.zero_le _, rfl, by unfold findIx; rfl, Ext.refl _⟩
  case round =>
    obtain ⟨k, hk, rfl, hr, hx⟩ := hrel
    have Hr := Lib.hid hr
    clear hr
    by_cases hlt : k < t.length
    · obtain ⟨b1, o1, c1, hrow, hc1, hl⟩ := (hc.ext hx).get hlt
      have hri := hc1.ints hl c1
      cases hp : p (row t k) with
      | true =>
        go_wp2_with fail
        refine (HF.out _ _ k hx hlt hri).mono ?_
        rintro e w1 ⟨rfl, hx1⟩
        rw [hp]
        go_wp2
        go_ret
        exact ⟨ret_int (by rw [Hr.out, findFrom_hit p t k hlt hp]), hx.trans hx1⟩
      | false =>
        go_wp2_with fail
        refine (HF.out _ _ k hx hlt hri).mono ?_
        rintro e w1 ⟨rfl, hx1⟩
        rw [hp]
        go_wp2
        go_roundw
        case rel => exact ⟨k + 1, by omega, by go_num, by rw [Hr.out, findFrom_miss p t k hlt hp], hx.trans hx1⟩
        case measure => simp [intOf]; omega
    · go_wp2
      go_ret
      exact ⟨ret_int (by rw [Hr.out, findFrom_end p t k (by omega)]), hx⟩

theorem ContainsFunc_any (t : List (List Int)) (p : List Int → Bool) (F : Nat) (cap : Array Value) (v : Value) (w : World) (hv : Rows w v t)
    (hcall : ∀ (args : Array Value) (w : World), (callFunc F args).run Tryz.prog w = .ok (.enter F args) w)
    (hf : ∀ w1 r i, Ext w w1 → i < t.length → Ints w1 r (row t i) → Calls Tryz.prog F (#[r] ++ cap) w1 fun e w' => e = .returned (.bool (p (row t i))) ∧ Ext w1 w') :
    Calls Tryz.prog 60 #[v, .func (.func F) #[] cap] w fun e w' => e = .returned (.bool (anyB p t)) ∧ Ext w w' := by
  go_enter Tryz.func60, Tryz.ntmps60
  go_wp2_with fail
  refine (IndexFunc_any t p F cap v _ hv hcall hf).mono ?_
  rintro e w1 ⟨rfl, hx1⟩
  clear hcall hf
  go_wp2
  go_ret
  exact ⟨ret_bool (anyB_find p t).symm, hx1⟩
end Go.Proofs.YtjfjpngajboidaaGreat


namespace Go.Proofs.YtjfjpngajboidaaGreat
set_option linter.unusedVariables false
set_option linter.unusedSimpArgs false
open Go.RowKit

theorem infoBool : (Tryz.prog.info? 4).map (fun i => (i.zero, i.size, i.bytes)) = some (some (.bool false), 1, 1) := by kernel_rfl

theorem IsTable1_any (l : List Int) (r : Value) (n : Int) (B : Nat) (w : World) (hr : Ints w r l) (hB : w.cell? ⟨B, 0, none⟩ = some (.int .i64 n)) (h0 : 0 ≤ n) (h1 : n ≤ 1048576) :
    Calls Tryz.prog 141 #[r, .pointer (some ⟨B, 0, none⟩)] w fun e w' => e = .returned (.bool (badRow n l)) ∧ Ext w w' := by
  have hr' := hr
  obtain ⟨hlen, b, o, c, rfl, hc⟩ := hr
  cases hn : ((l.length : Int) != n) with
  | true =>
    go_enter Tryz.func141, Tryz.ntmps141
    go_wp2
    go_ret
    exact ⟨ret_bool (by rw [badRow_def, hn]; rfl), Ext.refl _⟩
  | false =>
    go_enter Tryz.func141, Tryz.ntmps141
    go_wp2_with (go_at_call 100; refine (allWithin_any l _ _ _ _ hr').mono ?_; rintro e w' ⟨rfl, rfl⟩)
    go_ret
    exact ⟨ret_bool (by rw [badRow_def, hn]; rfl), Ext.refl _⟩

theorem callIsTable1 (args : Array Value) (w : World) : (callFunc 141 args).run Tryz.prog w = .ok (.enter 141 args) w := by
  exact callFunc_enter Tryz.func141 (by kernel_rfl) rfl args w

theorem IsTable_any (t : List (List Int)) (v : Value) (w : World) (hv : Rows w v t) :
    Calls Tryz.prog 120 #[v] w fun e w' => e = .returned (.bool (tableB t)) ∧ Ext w w' := by
  have hv' := hv
  obtain ⟨hlen, b, o, c, rfl, hc⟩ := hv
  cases hin : inR t.length 1 12 with
  | false =>
    go_enter Tryz.func120, Tryz.ntmps120
    go_wp2_with (go_at_call 129; refine (within_any _ _ _ _).mono ?_; rintro e w' ⟨rfl, rfl⟩)
    go_ret
    exact ⟨ret_bool (by rw [tableB_any, hin]; rfl), (Ext.refl _).alloc _⟩
  | true =>
    go_enter Tryz.func120, Tryz.ntmps120
    go_wp2_with (go_at_call 129; refine (within_any _ _ _ _).mono ?_; rintro e w' ⟨rfl, rfl⟩)
    have hx0 : Ext w (w.alloc (Obj.cells #[Value.int IntKind.i64 ↑t.length] 2)) := (Ext.refl _).alloc _
    have hb := inR_iff.1 hin
    refine (ContainsFunc_any t (badRow t.length) 141 #[Value.pointer (some ⟨w.heap.size, 0, none⟩)] _ _ (hv'.ext hx0) callIsTable1 (fun w1 r i hx hi hr => by rw [app1]; exact IsTable1_any _ r t.length _ _ hr (hx.cell (by simp [go_sem])) (by omega) (by omega))).mono ?_
    rintro e w1 ⟨rfl, hx1⟩
    go_wp2
    go_ret
    exact ⟨ret_bool (by rw [tableB_any, hin]; rfl), hx0.trans hx1⟩

set_option maxRecDepth 100000 in
theorem isPermuted_any (l : List Int) (v : Value) (w : World) (hv : Ints w v l) :
    Calls Tryz.prog 122 #[v] w fun e w' => e = .returned (.bool (permB l)) ∧ Ext w w' := by
  obtain ⟨hlen, b, o, c, rfl, hc⟩ := hv
  have hmk := run_make_row' (P := Tryz.prog) 77 4 (.bool false) 1 Tryz.underlying77 infoBool rfl .i64 .i64 l.length (by omega) (by omega)
  go_enter Tryz.func122, Tryz.ntmps122
  go_wp2
  clear hmk
  have hx0 : Ext w (w.alloc (.cells (madeCells #[Value.bool false] l.length) 4)) := (Ext.refl _).alloc _
  have hr0 := World.rowIs_made w (.bool false) l.length 4
  go_loopw [11] (fun i wr => ∃ k : Nat, k ≤ l.length ∧ i = .int .i64 k ∧ InTo l k ∧ DistinctTo l k ∧ wr.rowIs w.heap.size 4 l.length (fun i => .bool (seenB l k i)) ∧ Ext w wr) (fun i _ => l.length - (intOf i).toNat)
  case atStart => exact ⟨0, Nat.zero_le _, rfl, InTo.zero _, DistinctTo.zero _, hr0.congr (fun i hi => by rw [seenB_zero]), hx0⟩
  case round =>
    clear hx0 hr0
    obtain ⟨k, hk, rfl, hto, hdi, hseen, hx⟩ := hrel
    by_cases hlt : k < l.length
    · have hcell := hc.ext hx k hlt
      cases hin : inR (ix l k) 0 (l.length - 1) with
      | false =>
        go_wp2_with (go_at_call 129; refine (within_any _ _ _ _).mono ?_; rintro e w' ⟨rfl, rfl⟩)
        go_ret
        exact ⟨ret_bool (permB_no (fun h => inR_false.1 hin (h.1 k hlt))).symm, hx⟩
      | true =>
        have hb := inR_iff.1 hin
        have hs := hseen.cell (i := (ix l k).toNat) (by omega)
        have hz := hseen.frozen (ix l k).toNat
        cases hse : seenB l k (ix l k).toNat with
        | true =>
          rw [hse] at hs
          go_wp2_with (go_at_call 129; refine (within_any _ _ _ _).mono ?_; rintro e w' ⟨rfl, rfl⟩)
          go_ret
          obtain ⟨j, hj, e⟩ := seenB_iff.1 hse
          exact ⟨ret_bool (permB_no (fun h => h.2 k hlt j hj (by omega))).symm, hx⟩
        | false =>
          rw [hse] at hs
          go_wp2_with (go_at_call 129; refine (within_any _ _ _ _).mono ?_; rintro e w' ⟨rfl, rfl⟩)
          go_roundw
          case rel =>
            exact ⟨k + 1, by omega, by go_num, hto.succ hb, hdi.succ (fun j hj e => seenB_no.1 hse j hj (by omega)),
              (hseen.set (ix l k).toNat (.bool true)).congr (fun i hi => by rw [seenB_succ _ _ _ hb.1]; split <;> rfl), hx.setNew (Nat.le_refl _) _⟩
          case measure => simp [intOf]; omega
    · go_wp2
      go_ret
      exact ⟨ret_bool (permB_yes ⟨hto.mono (by omega), hdi.mono (by omega)⟩).symm, hx⟩

theorem permRows1_any (l : List Int) (r : Value) (w : World) (hr : Ints w r l) :
    Calls Tryz.prog 121 #[r] w fun e w' => e = .returned (.bool (!permB l)) ∧ Ext w w' := by
  go_enter Tryz.func121, Tryz.ntmps121
  go_wp2_with fail
  refine (isPermuted_any l _ _ hr).mono ?_
  rintro e w1 ⟨rfl, hx1⟩
  go_wp2
  go_ret
  exact ⟨ret_bool rfl, hx1⟩
theorem callPermRows1 (args : Array Value) (w : World) : (callFunc 121 args).run Tryz.prog w = .ok (.enter 121 args) w :=
  callFunc_enter Tryz.func121 (by kernel_rfl) rfl args w

theorem permutationRows_any (t : List (List Int)) (v : Value) (w : World) (hv : Rows w v t) :
    Calls Tryz.prog 85 #[v] w fun e w' => e = .returned (.bool (permRowsB t)) ∧ Ext w w' := by
  go_enter Tryz.func85, Tryz.ntmps85
  go_wp2_with fail
  refine (ContainsFunc_any t (fun l => !permB l) 121 #[] _ _ hv callPermRows1 (fun w1 r i hx hi hr => by rw [app0]; exact permRows1_any _ r _ hr)).mono ?_
  rintro e w1 ⟨rfl, hx1⟩
  go_wp2
  go_ret
  exact ⟨ret_bool (permRowsB_def t).symm, hx1⟩
end Go.Proofs.YtjfjpngajboidaaGreat


namespace Go.Proofs.YtjfjpngajboidaaGreat
set_option linter.unusedVariables false
set_option linter.unusedSimpArgs false
open Go.RowKit

theorem take_row (t : List (List Int)) (k : Nat) (h : k < t.length) : t.take (k + 1) = t.take k ++ [row t k] := by
  rw [List.take_succ_eq_append_getElem h, row_eq]; simp [List.getD, h]
theorem take_ix (l : List Int) (k : Nat) (h : k < l.length) : l.take (k + 1) = l.take k ++ [ix l k] := by
  rw [List.take_succ_eq_append_getElem h, ix_eq]; simp [List.getD, h]

end Go.Proofs.YtjfjpngajboidaaGreat


namespace Go.Proofs.YtjfjpngajboidaaGreat
set_option linter.unusedVariables false
set_option linter.unusedSimpArgs false
open Go.RowKit

theorem areElements_any (n : Nat) (l : List Int) (v : Value) (w : World) (hv : Ints w v l) (hn : n ≤ 1048576) :
    Calls Tryz.prog 59 #[.int .i64 n, v] w fun e w' => e = .returned (.bool (allInB l 0 (n - 1))) ∧ w = w' := by
  go_enter Tryz.func59, Tryz.ntmps59
  go_wp2_with (go_at_call 100; refine (allWithin_any l _ _ _ _ hv).mono ?_; rintro e w' ⟨rfl, rfl⟩)
  go_ret
  exact ⟨rfl, rfl⟩

end Go.Proofs.YtjfjpngajboidaaGreat


namespace Go.Proofs.YtjfjpngajboidaaGreat
set_option linter.unusedVariables false
set_option linter.unusedSimpArgs false
open Go.RowKit

theorem big_any (a : Option Addr) (n c : Nat) (w : World) : Calls Tryz.prog 5 #[.slice a n c] w fun e w' => e = .returned (.bool (decide (4096 < (n : Int)))) ∧ w = w' := by
  by_cases h : 4096 < (n : Int)
  · go_enter Tryz.func5, Tryz.ntmps5
    go_wp2
    go_ret
    exact ⟨ret_bool (by simpa using h), rfl⟩
  · go_enter Tryz.func5, Tryz.ntmps5
    go_wp2
    go_ret
    exact ⟨ret_bool (by simpa using h), rfl⟩

theorem likeInts_any (l m : List Int) (v u : Value) (w : World) (hv : IntsR w v l) (hu : IntsR w u m) (hs : l.length ≤ 1048576) :
    Calls Tryz.prog 11 #[v, u] w fun e w' => e = .returned (.bool (eqIB l m)) ∧ Drawn w w' := by
  obtain ⟨a1, c1, rfl, h1⟩ := hv
  obtain ⟨a2, c2, rfl, h2⟩ := hu
  have H1 := Lib.hid h1
  have H2 := Lib.hid h2
  clear h1 h2
  by_cases hl : l.length = m.length
  case neg =>
    have hb : ((l.length : Int) != (m.length : Int)) = true := by simp; omega
    go_enter Tryz.func11, Tryz.ntmps11
    go_wp2
    go_ret
    exact ⟨ret_bool (eqIB_no (fun e => hl (by rw [e]))).symm, Drawn.refl _⟩
  case pos =>
    rw [← hl]
    have Hl := Lib.hid hl
    clear hl
    go_enter Tryz.func11, Tryz.ntmps11
    go_wp2
    go_loopw [5] (fun i wr => ∃ k : Nat, k ≤ l.length ∧ i = .int .i64 k ∧ SameTo l m k ∧ Drawn w wr) (fun i _ => l.length - (intOf i).toNat)
    case atStart => exact ⟨0, Nat.zero_le _, rfl, fun i hi => by omega, Drawn.refl _⟩
    case round =>
      obtain ⟨k, hk, rfl, hto, hx⟩ := hrel
      by_cases hlt : k < l.length
      · obtain ⟨b1, o1, rfl, hc1⟩ := H1.out (ne_nil_of_lt hlt)
        obtain ⟨b2, o2, rfl, hc2⟩ := H2.out (ne_nil_of_lt (k := k) (by have := Hl.out; omega))
        have e1 := hc1.ext hx.ext k hlt
        have e2 := hc2.ext hx.ext k (by have := Hl.out; omega)
        cases he : (ix l k != ix m k) with
        | true =>
          go_wp2
          go_quiet (fail)
          go_wp2
          go_ret
          exact ⟨ret_bool (eqIB_no (fun e => by rw [e] at he; simp at he)).symm, hx.drewN _⟩
        | false =>
          go_wp2
          go_quiet (fail)
          go_wp2
          go_roundw
          case rel => exact ⟨k + 1, by omega, by go_num, fun i hi => by
            by_cases e : i = k
            · rw [e]; simpa using he
            · exact hto i (by omega), hx.drewN _⟩
          case measure => simp [intOf]; omega
      · go_wp2
        go_ret
        exact ⟨ret_bool (eqIB_yes (ix_ext Hl.out (fun i hi => hto i (by omega)))).symm, hx⟩

end Go.Proofs.YtjfjpngajboidaaGreat
