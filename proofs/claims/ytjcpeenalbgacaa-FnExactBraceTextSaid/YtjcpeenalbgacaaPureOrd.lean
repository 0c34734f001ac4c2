/-
  Orders of elements of a group: no program in sight.
-/
import Derived.Test.YtjcpeenalbgacaaBase
import Derived.Test.YtjcpeenalbgacaaPure1
namespace Go.Proofs.Ytjcpeenalbgacaa
set_option linter.unusedVariables false
set_option linter.unusedSimpArgs false

theorem ent_nn {t : List (List Int)} (h : TableOk t) {x y : Nat} (hx : x < t.length) (hy : y < t.length) : (ent t x y).toNat < t.length := by
  have := h.bd hx hy; omega

/-- x, x x, (x x) x, .. -/
def pw (t : List (List Int)) (x : Nat) : Nat → Int
  | 0 => (x : Int)
  | k + 1 => ent t (pw t x k).toNat x
theorem pw_bd {t : List (List Int)} (h : TableOk t) {x : Nat} (hx : x < t.length) : ∀ k, 0 ≤ pw t x k ∧ pw t x k ≤ (t.length : Int) - 1
  | 0 => by simp only [pw]; omega
  | k + 1 => by
    have := pw_bd h hx k
    simp only [pw]
    exact h.bd (by omega) hx
theorem pw_lt {t : List (List Int)} (h : TableOk t) {x : Nat} (hx : x < t.length) (k : Nat) : (pw t x k).toNat < t.length := by
  have := pw_bd h hx k; omega
theorem grp_assoc {t : List (List Int)} (h : GroupOk t) {x y z : Nat} (hx : x < t.length) (hy : y < t.length) (hz : z < t.length) : ent t (ent t x y).toNat z = ent t x (ent t y z).toNat := (h.2.2 x hx).2 y hy z hz
theorem grp_unit_l {t : List (List Int)} (h : GroupOk t) {x : Nat} (hx : x < t.length) : ent t 0 x = x := (h.2.2 x hx).1.1
theorem grp_unit_r {t : List (List Int)} (h : GroupOk t) {x : Nat} (hx : x < t.length) : ent t x 0 = x := (h.2.2 x hx).1.2
/-- left multiplication is injective -/
theorem grp_inj {t : List (List Int)} (h : GroupOk t) {x y z : Nat} (hx : x < t.length) (hy : y < t.length) (hz : z < t.length) (e : ent t x y = ent t x z) : y = z := by
  have hp := (h.2.1 x hx).2
  have hl := h.1.len hx
  rw [← ent_def, ← ent_def] at e
  rcases Nat.lt_trichotomy y z with h1 | h1 | h1
  · exact absurd e (hp z (by omega) y h1)
  · exact h1
  · exact absurd e.symm (hp y (by omega) z h1)
theorem pw_mul {t : List (List Int)} (h : GroupOk t) {x : Nat} (hx : x < t.length) (i : Nat) : ∀ d, ent t (pw t x i).toNat (pw t x d).toNat = pw t x (i + d + 1)
  | 0 => by simp only [pw, Nat.add_zero, Int.toNat_natCast]
  | d + 1 => by
    have ih := pw_mul h hx i d
    have := grp_assoc h (pw_lt h.1 hx i) (pw_lt h.1 hx d) hx
    rw [ih] at this
    rw [show i + (d + 1) + 1 = (i + d + 1) + 1 by omega]
    simp only [pw] at this ⊢
    exact this.symm
theorem nodup_le {α : Type} [DecidableEq α] : ∀ (a b : List α), a.Nodup → (∀ x, x ∈ a → x ∈ b) → a.length ≤ b.length
  | [], b, _, _ => by simp
  | z :: r, b, hn, hs => by
    have hz : z ∈ b := hs z (by simp)
    have hn' := List.nodup_cons.1 hn
    have h1 := nodup_le r (b.erase z) hn'.2 (fun y hy => by
      have hne : y ≠ z := fun e => hn'.1 (e ▸ hy)
      exact (List.mem_erase_of_ne hne).2 (hs y (by simp [hy])))
    rw [List.length_erase_of_mem hz] at h1
    have h2 : 0 < b.length := List.length_pos_of_mem hz
    simp; omega
/-- two of the first n + 1 powers are the same -/
theorem pw_repeat {t : List (List Int)} (h : TableOk t) {x : Nat} (hx : x < t.length) : ∃ i j, i < j ∧ j ≤ t.length ∧ pw t x i = pw t x j := by
  apply Classical.byContradiction
  intro hno
  have hno' : ∀ i j, i < j → j ≤ t.length → pw t x i ≠ pw t x j := fun i j h1 h2 e => hno ⟨i, j, h1, h2, e⟩
  let l := (List.range (t.length + 1)).map (pw t x)
  have hl : l.length = t.length + 1 := by simp [l]
  have hn : l.Nodup := by
    rw [List.nodup_iff_pairwise_ne, List.pairwise_iff_getElem]
    intro i j hi hj hij
    simp only [l, List.getElem_map, List.getElem_range]
    exact hno' i j hij (by omega)
  have hs : ∀ y, y ∈ l → y ∈ intRange t.length := by
    intro y hy
    simp only [l, List.mem_map, List.mem_range] at hy
    obtain ⟨k, _, rfl⟩ := hy
    have := pw_bd h hx k
    rw [mem_intRange]; omega
  have hlen := nodup_le l (intRange t.length) hn hs
  rw [length_intRange, hl] at hlen
  omega
theorem pw_zero {t : List (List Int)} (h : GroupOk t) {x : Nat} (hx : x < t.length) : ∃ d, d < t.length ∧ pw t x d = 0 := by
  obtain ⟨i, j, hij, hj, e⟩ := pw_repeat h.1 hx
  refine ⟨j - i - 1, by omega, ?_⟩
  have hm := pw_mul h hx i (j - i - 1)
  rw [show i + (j - i - 1) + 1 = j by omega, ← e] at hm
  have hu := grp_unit_r h (pw_lt h.1 hx i)
  have hb := pw_bd h.1 hx i
  have hd := pw_bd h.1 hx (j - i - 1)
  have := grp_inj h (pw_lt h.1 hx i) (pw_lt h.1 hx (j - i - 1)) (z := 0) (by have := h.1.1; omega) (by rw [hm, hu]; omega)
  omega
/-- the powers of x -/
def pws (t : List (List Int)) (x : Nat) : List Int := (List.range t.length).map (pw t x)
theorem length_pws (t : List (List Int)) (x : Nat) : (pws t x).length = t.length := by simp [pws]
theorem ix_pws (t : List (List Int)) (x k : Nat) (h : k < t.length) : ix (pws t x) k = pw t x k := by rw [ix_eq]; simp [pws, List.getD, h]
/-- the order of x -/
@[irreducible] def ordOf (t : List (List Int)) (x : Nat) : Int := indexOf (pws t x) 0 + 1
theorem ordOf_spec {t : List (List Int)} (h : GroupOk t) {x : Nat} (hx : x < t.length) : ∃ d : Nat, d < t.length ∧ ordOf t x = (d : Int) + 1 ∧ pw t x d = 0 ∧ ∀ k, k < d → pw t x k ≠ 0 := by
  obtain ⟨d, hd, hz⟩ := pw_zero h hx
  unfold ordOf
  rcases indexOf_spec (pws t x) 0 with ⟨_, h1⟩ | ⟨i, h1, h2, h3, h4⟩
  · exact absurd (by rw [ix_pws _ _ _ hd]; exact hz) (h1 d (by rw [length_pws]; exact hd))
  · rw [length_pws] at h1
    refine ⟨i, h1, by rw [h2], by rw [← ix_pws _ _ _ h1]; exact h3, fun k hk => ?_⟩
    rw [← ix_pws _ _ _ (by omega)]; exact h4 k hk

/-- the code of a group and an element -/
@[irreducible] def elemC (t : List (List Int)) (a : Int) : Int := if groupB t = true then (if 0 ≤ a ∧ a ≤ (t.length : Int) - 1 then 0 else 2) else 1
theorem elemC_1 {t : List (List Int)} {a : Int} (h : groupB t = false) : elemC t a = 1 := by unfold elemC; simp [h]
theorem elemC_2 {t : List (List Int)} {a : Int} (h : groupB t = true) (h2 : ¬ (0 ≤ a ∧ a ≤ (t.length : Int) - 1)) : elemC t a = 2 := by unfold elemC; rw [if_pos h, if_neg h2]
theorem elemC_0 {t : List (List Int)} {a : Int} (h : groupB t = true) (h2 : 0 ≤ a ∧ a ≤ (t.length : Int) - 1) : elemC t a = 0 := by unfold elemC; rw [if_pos h, if_pos h2]
/-- what OrderIn gives -/
@[irreducible] def ordInV (t : List (List Int)) (a : Int) : Int := if elemC t a = 0 then ordOf t a.toNat else 0
theorem ordInV_bad {t : List (List Int)} {a : Int} (h : elemC t a ≠ 0) : ordInV t a = 0 := by unfold ordInV; rw [if_neg h]
theorem ordInV_good {t : List (List Int)} {x : Nat} (h : elemC t x = 0) : ordInV t x = ordOf t x := by unfold ordInV; rw [if_pos h, Int.toNat_natCast]
end Go.Proofs.Ytjcpeenalbgacaa
