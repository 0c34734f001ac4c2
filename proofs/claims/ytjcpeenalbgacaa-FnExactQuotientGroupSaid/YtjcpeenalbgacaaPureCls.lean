/-
  Classes of conjugate elements: plain.
-/
import Derived.Test.YtjcpeenalbgacaaBase
import Derived.Test.YtjcpeenalbgacaaBase2
import Derived.Test.YtjcpeenalbgacaaPure1
import Derived.Test.YtjcpeenalbgacaaPureOrd
import Derived.Test.YtjcpeenalbgacaaPureInv
import Derived.Test.YtjcpeenalbgacaaPureTurn
import Derived.Test.YtjcpeenalbgacaaPureConj
import Derived.Test.YtjcpeenalbgacaaPureSet
import Derived.Test.YtjcpeenalbgacaaPureNorm
import Derived.Test.YtjcpeenalbgacaaPureNum
namespace Go.Proofs.Ytjcpeenalbgacaa
set_option linter.unusedVariables false
set_option linter.unusedSimpArgs false

/-- the product, in numbers -/
def gm (t : List (List Int)) (x y : Nat) : Nat := (ent t x y).toNat
def gi (t : List (List Int)) (x : Nat) : Nat := (backF t x).toNat
def cj (t : List (List Int)) (x y : Nat) : Nat := (conjF t x y).toNat
theorem cj_eq (t : List (List Int)) (x y : Nat) : cj t x y = gm t (gm t x y) (gi t x) := by unfold cj gm gi; rw [conjF_def]
section
variable {t : List (List Int)} (h : GroupOk t)
include h
theorem gm_lt {x y : Nat} (hx : x < t.length) (hy : y < t.length) : gm t x y < t.length := ent_nn h.1 hx hy
theorem gi_lt {x : Nat} (hx : x < t.length) : gi t x < t.length := by have := backF_ok h hx; unfold gi; omega
theorem cj_lt {x y : Nat} (hx : x < t.length) (hy : y < t.length) : cj t x y < t.length := by have := conjF_bd h hx hy; unfold cj; omega
theorem gm_assoc {x y z : Nat} (hx : x < t.length) (hy : y < t.length) (hz : z < t.length) : gm t (gm t x y) z = gm t x (gm t y z) := by
  unfold gm; rw [grp_assoc h hx hy hz]
theorem gm_zero {x : Nat} (hx : x < t.length) : gm t 0 x = x := by unfold gm; rw [grp_unit_l h hx]; simp
theorem gm_unit {x : Nat} (hx : x < t.length) : gm t x 0 = x := by unfold gm; rw [grp_unit_r h hx]; simp
theorem gm_gi {x : Nat} (hx : x < t.length) : gm t x (gi t x) = 0 := by
  have := (backF_ok h hx).2.2
  unfold gm gi; rw [this]; rfl
theorem gm_inj {x y z : Nat} (hx : x < t.length) (hy : y < t.length) (hz : z < t.length) (e : gm t x y = gm t x z) : y = z := by
  have h1 := h.1.bd hx hy
  have h2 := h.1.bd hx hz
  unfold gm at e
  exact grp_inj h hx hy hz (by omega)
theorem pos_len : 0 < t.length := h.1.1
theorem gi_gm {x : Nat} (hx : x < t.length) : gm t (gi t x) x = 0 := by
  have hi := gi_lt h hx
  have h0 := pos_len h
  have : gm t x (gm t (gi t x) x) = gm t x 0 := by rw [← gm_assoc h hx hi hx, gm_gi h hx, gm_zero h hx, gm_unit h hx]
  exact gm_inj h hx (gm_lt h hi hx) h0 this
theorem gi_zero : gi t 0 = 0 := by
  have h0 := pos_len h
  have := gm_gi h h0
  rwa [gm_zero h (gi_lt h h0)] at this
theorem gi_gi {x : Nat} (hx : x < t.length) : gi t (gi t x) = x := by
  have hi := gi_lt h hx
  exact gm_inj h hi (gi_lt h hi) hx (by rw [gm_gi h hi, gi_gm h hx])
theorem gi_mul {x y : Nat} (hx : x < t.length) (hy : y < t.length) : gi t (gm t x y) = gm t (gi t y) (gi t x) := by
  have hxy := gm_lt h hx hy
  have ix := gi_lt h hx
  have iy := gi_lt h hy
  refine gm_inj h hxy (gi_lt h hxy) (gm_lt h iy ix) ?_
  rw [gm_gi h hxy, gm_assoc h hx hy (gm_lt h iy ix), ← gm_assoc h hy iy ix, gm_gi h hy, gm_zero h ix, gm_gi h hx]
theorem cj_zero {y : Nat} (hy : y < t.length) : cj t 0 y = y := by rw [cj_eq t, gi_zero h, gm_zero h hy, gm_unit h hy]
theorem cj_cj {x y z : Nat} (hx : x < t.length) (hy : y < t.length) (hz : z < t.length) : cj t x (cj t y z) = cj t (gm t x y) z := by
  have ix := gi_lt h hx
  have iy := gi_lt h hy
  have hyz := gm_lt h hy hz
  rw [cj_eq t, cj_eq t, cj_eq t, gi_mul h hx hy, ← gm_assoc h hx hyz iy, ← gm_assoc h (gm_lt h (gm_lt h hx hy) hz) iy ix, ← gm_assoc h hx hy hz]
theorem cj_back {x y : Nat} (hx : x < t.length) (hy : y < t.length) : cj t (gi t x) (cj t x y) = y := by
  rw [cj_cj h (gi_lt h hx) hx hy, gi_gm h hx, cj_zero h hy]
end
/-- the least of y and of its conjugates by the first k elements -/
def lstTo (t : List (List Int)) (y : Nat) : Nat → Int
  | 0 => (y : Int)
  | k + 1 => min (lstTo t y k) (conjF t k y)
@[irreducible] def lstF (t : List (List Int)) (k y : Nat) : Int := lstTo t y k
theorem lstF_zero (t y) : lstF t 0 y = (y : Int) := by unfold lstF; rfl
theorem lstF_succ (t k y) : lstF t (k + 1) y = min (lstF t k y) (conjF t k y) := by unfold lstF; rfl
/-- the least conjugate -/
@[irreducible] def minC (t : List (List Int)) (y : Nat) : Int := lstF t t.length y
theorem minC_def (t y) : minC t y = lstF t t.length y := by unfold minC; rfl
theorem lstF_le (t : List (List Int)) (y : Nat) : ∀ k, (lstF t k y ≤ (y : Int)) ∧ ∀ x, x < k → lstF t k y ≤ conjF t x y
  | 0 => ⟨by rw [lstF_zero]; omega, fun x hx => by omega⟩
  | k + 1 => by
    have ⟨h1, h2⟩ := lstF_le t y k
    rw [lstF_succ]
    refine ⟨by omega, fun x hx => ?_⟩
    by_cases e : x = k
    · subst e; omega
    · have := h2 x (by omega); omega
theorem lstF_is (t : List (List Int)) (y : Nat) : ∀ k, lstF t k y = (y : Int) ∨ ∃ x, x < k ∧ lstF t k y = conjF t x y
  | 0 => .inl (lstF_zero t y)
  | k + 1 => by
    rw [lstF_succ]
    rcases Int.le_total (lstF t k y) (conjF t k y) with g | g
    · rw [Int.min_eq_left g]
      rcases lstF_is t y k with e | ⟨x, hx, e⟩
      · exact .inl e
      · exact .inr ⟨x, by omega, e⟩
    · rw [Int.min_eq_right g]; exact .inr ⟨k, by omega, rfl⟩
theorem minC_is {t : List (List Int)} (h : GroupOk t) {y : Nat} (hy : y < t.length) : ∃ x, x < t.length ∧ minC t y = ((cj t x y : Nat) : Int) := by
  rw [minC_def]
  rcases lstF_is t y t.length with e | ⟨x, hx, e⟩
  · exact ⟨0, pos_len h, by rw [e, cj_zero h hy]⟩
  · have := conjF_bd h hx hy
    exact ⟨x, hx, by rw [e]; unfold cj; omega⟩
theorem minC_le {t : List (List Int)} (h : GroupOk t) {x y : Nat} (hx : x < t.length) (hy : y < t.length) : minC t y ≤ ((cj t x y : Nat) : Int) := by
  have h1 := (lstF_le t y t.length).2 x hx
  have := conjF_bd h hx hy
  rw [minC_def]; unfold cj; omega
theorem minC_cj {t : List (List Int)} (h : GroupOk t) {x y : Nat} (hx : x < t.length) (hy : y < t.length) : minC t (cj t x y) = minC t y := by
  have hc := cj_lt h hx hy
  obtain ⟨a, ha, ea⟩ := minC_is h hy
  obtain ⟨b, hb, eb⟩ := minC_is h hc
  have h1 := minC_le h (gm_lt h hb hx) hy
  rw [← cj_cj h hb hx hy] at h1
  have h2 := minC_le h (gm_lt h ha (gi_lt h hx)) hc
  rw [← cj_cj h ha (gi_lt h hx) hc, cj_back h hx hy] at h2
  omega
theorem minC_conj {t : List (List Int)} (h : GroupOk t) {x y : Nat} (hx : x < t.length) (hy : y < t.length) (e : minC t x = minC t y) : ∃ k, k < t.length ∧ cj t k x = y := by
  obtain ⟨a, ha, ea⟩ := minC_is h hx
  obtain ⟨b, hb, eb⟩ := minC_is h hy
  refine ⟨gm t (gi t b) a, gm_lt h (gi_lt h hb) ha, ?_⟩
  rw [← cj_cj h (gi_lt h hb) ha hx]
  have : cj t a x = cj t b y := by omega
  rw [this, cj_back h hb hy]
/-- the labels: the least conjugates -/
@[irreducible] def lstL (t : List (List Int)) (k : Nat) : List Int := mkL t.length (lstF t k)
theorem length_lstL (t k) : (lstL t k).length = t.length := by unfold lstL; exact length_mkL _ _
theorem ix_lstL (t : List (List Int)) (k y : Nat) (h : y < t.length) : ix (lstL t k) y = lstF t k y := by unfold lstL; exact ix_mkL _ _ _ h
@[irreducible] def minL (t : List (List Int)) : List Int := lstL t t.length
theorem minL_def (t) : minL t = lstL t t.length := by unfold minL; rfl
theorem length_minL (t) : (minL t).length = t.length := by rw [minL_def]; exact length_lstL _ _
theorem ix_minL (t : List (List Int)) (y : Nat) (h : y < t.length) : ix (minL t) y = minC t y := by rw [minL_def, ix_lstL _ _ _ h, minC_def]
/-- the classes' numbers -/
@[irreducible] def clsL (t : List (List Int)) : List Int := numL (minL t)
theorem clsL_def (t) : clsL t = numL (minL t) := by unfold clsL; rfl
theorem length_clsL (t) : (clsL t).length = t.length := by rw [clsL_def, length_numL, length_minL]

/-! ### the reference's way -/
/-- O holds different elements that are conjugate to x, x first -/
structure OrbOk (t : List (List Int)) (x : Nat) (O : List Int) : Prop where
  pos : 0 < O.length
  first : ix O 0 = (x : Int)
  mem : ∀ i, i < O.length → ∃ y : Nat, ix O i = (y : Int) ∧ y < t.length ∧ minC t y = minC t x
  nodup : O.Nodup
theorem OrbOk.one {t : List (List Int)} {x : Nat} (hx : x < t.length) : OrbOk t x [(x : Int)] where
  pos := by simp
  first := by rw [ix_eq]; rfl
  mem := fun i hi => by
    have : i = 0 := by simp at hi; omega
    subst this
    exact ⟨x, by rw [ix_eq]; rfl, hx, rfl⟩
  nodup := by simp
theorem OrbOk.len {t : List (List Int)} {x : Nat} {O : List Int} (h : OrbOk t x O) : O.length ≤ t.length := by
  have := nodup_le O (intRange t.length) h.nodup (fun z hz => by
    obtain ⟨i, hi, rfl⟩ := mem_ix hz
    obtain ⟨y, e, hy, _⟩ := h.mem i hi
    rw [e, mem_intRange]; omega)
  rwa [length_intRange] at this
theorem OrbOk.add {t : List (List Int)} (hG : GroupOk t) {x y k : Nat} {O : List Int} (h : OrbOk t x O) (hy : y < t.length) (hc : minC t y = minC t x) (hk : k < t.length) (hn : hasB O ((cj t k y : Nat) : Int) = false) : OrbOk t x (O ++ [((cj t k y : Nat) : Int)]) where
  pos := by simp
  first := by rw [ix_append_left h.pos]; exact h.first
  mem := fun i hi => by
    by_cases e : i < O.length
    · rw [ix_append_left e]; exact h.mem i e
    · have : i = O.length := by simp at hi; omega
      subst this
      exact ⟨cj t k y, ix_append_one _ _, cj_lt hG hk hy, by rw [minC_cj hG hk hy, hc]⟩
  nodup := by
    rw [List.nodup_append]
    refine ⟨h.nodup, by simp, fun a ha b hb => ?_⟩
    simp at hb
    subst hb
    intro e; subst e
    rw [hasB_mem.2 ha] at hn; cases hn
/-- the first k conjugates of y are in O -/
def OrbRow (t : List (List Int)) (O : List Int) (y k : Nat) : Prop := ∀ j, j < k → hasB O ((cj t j y : Nat) : Int) = true
/-- .. all of the first i of O -/
def OrbTo (t : List (List Int)) (O : List Int) (i : Nat) : Prop := ∀ a, a < i → a < O.length → OrbRow t O (ix O a).toNat t.length
theorem OrbRow.zero (t O y) : OrbRow t O y 0 := all_zero
theorem hasB_more {O : List Int} {z u : Int} (h : hasB O z = true) : hasB (O ++ [u]) z = true := hasB_mem.2 (List.mem_append.2 (.inl (hasB_mem.1 h)))
theorem OrbRow.old {t O y k} (h : OrbRow t O y k) (hk : hasB O ((cj t k y : Nat) : Int) = true) : OrbRow t O y (k + 1) := all_succ h hk
theorem OrbRow.new {t O y k} (h : OrbRow t O y k) : OrbRow t (O ++ [((cj t k y : Nat) : Int)]) y (k + 1) :=
  all_succ (fun j hj => hasB_more (h j hj)) (hasB_mem.2 (by simp))
theorem OrbTo.zero (t O) : OrbTo t O 0 := fun a ha => by omega
theorem OrbTo.more {t O i} {z : Int} (h : OrbTo t O i) (hi : i ≤ O.length) : OrbTo t (O ++ [z]) i := fun a ha hl j hj => by
  have hl' : a < O.length := by omega
  have := h a ha hl' j hj
  rw [ix_append_left hl']
  exact hasB_more this
theorem OrbTo.succ {t O i} (h : OrbTo t O i) (hr : OrbRow t O (ix O i).toNat t.length) : OrbTo t O (i + 1) := fun a ha hl => by
  by_cases e : a = i
  · subst e; exact hr
  · exact h a (by omega) hl
theorem OrbTo.all {t : List (List Int)} (hG : GroupOk t) {x : Nat} {O : List Int} (h : OrbOk t x O) (hx : x < t.length) (ht : OrbTo t O O.length) {y : Nat} (hy : y < t.length) (e : minC t y = minC t x) : hasB O (y : Int) = true := by
  obtain ⟨k, hk, ek⟩ := minC_conj hG hx hy e.symm
  have := ht 0 h.pos h.pos k hk
  rw [h.first, Int.toNat_natCast, ek] at this
  exact this
/-- the orbit of x -/
def IsOrb (t : List (List Int)) (x : Nat) (O : List Int) : Prop := OrbOk t x O ∧ ∀ y, y < t.length → (hasB O (y : Int) = true ↔ minC t y = minC t x)
theorem isOrb_of {t : List (List Int)} (hG : GroupOk t) {x : Nat} {O : List Int} (h : OrbOk t x O) (hx : x < t.length) (ht : OrbTo t O O.length) : IsOrb t x O :=
  ⟨h, fun y hy => ⟨fun hb => by
    obtain ⟨i, hi, e⟩ := mem_ix (hasB_mem.1 hb)
    obtain ⟨z, ez, _, ec⟩ := h.mem i hi
    have : y = z := by omega
    rw [this]; exact ec, fun e => OrbTo.all hG h hx ht hy e⟩⟩
/-- what the reference holds when it has looked at x elements, and of the orbit of x at m -/
@[irreducible] def orbF (t : List (List Int)) (x : Nat) (y : Nat) : Int := if hasB (seenTo (minL t) x) (minC t y) = true then indexOf (seenTo (minL t) x) (minC t y) else -1
@[irreducible] def orbM (t : List (List Int)) (x : Nat) (O : List Int) (m : Nat) (y : Nat) : Int := if hasB (O.take m) (y : Int) = true then ((seenTo (minL t) x).length : Int) else orbF t x y
theorem orbF_zero (t y) : orbF t 0 y = -1 := by unfold orbF; rw [if_neg (by rw [hasB_no.2]; simp; unfold seenTo indexOf indexFrom; decide)]
theorem orbF_nonneg {t : List (List Int)} {x y : Nat} : 0 ≤ orbF t x y ↔ hasB (seenTo (minL t) x) (minC t y) = true := by
  unfold orbF
  split
  · rename_i h; exact ⟨fun _ => h, fun _ => hasB_iff.1 h⟩
  · rename_i h; exact ⟨fun h2 => by omega, fun h2 => absurd h2 h⟩
theorem orbF_old {t : List (List Int)} {x y : Nat} (hx : x < t.length) (h : hasB (seenTo (minL t) x) (minC t x) = true) : orbF t (x + 1) y = orbF t x y := by
  unfold orbF; rw [seenTo_old (by rw [ix_minL _ _ hx]; exact h)]
theorem orbM_zero (t x O y) : orbM t x O 0 y = orbF t x y := by unfold orbM; rw [if_neg (by rw [List.take_zero, hasB_no.2]; simp; unfold indexOf indexFrom; decide)]
theorem orbM_succ {t : List (List Int)} {x m y : Nat} {O : List Int} (hm : m < O.length) : orbM t x O (m + 1) y = if (y : Int) = ix O m then ((seenTo (minL t) x).length : Int) else orbM t x O m y := by
  have ht : O.take (m + 1) = O.take m ++ [ix O m] := by rw [List.take_succ_eq_append_getElem hm, ix_eq]; simp [List.getD, hm]
  unfold orbM
  rw [ht]
  by_cases e : (y : Int) = ix O m
  · rw [if_pos e, if_pos (hasB_mem.2 (by rw [e]; simp))]
  · rw [if_neg e]
    by_cases hb : hasB (O.take m) (y : Int) = true
    · rw [if_pos hb, if_pos (hasB_more hb)]
    · rw [if_neg hb, if_neg (fun h2 => by
        have := hasB_mem.1 h2
        simp only [List.mem_append, List.mem_singleton] at this
        rcases this with h3 | h3
        · exact hb (hasB_mem.2 h3)
        · exact e h3)]
theorem orbM_done {t : List (List Int)} {x y : Nat} {O : List Int} (hx : x < t.length) (hy : y < t.length) (hO : IsOrb t x O) (hn : hasB (seenTo (minL t) x) (minC t x) = false) : orbM t x O O.length y = orbF t (x + 1) y := by
  have hs := seenTo_new (l := minL t) (i := x) (by rw [ix_minL _ _ hx]; exact hn)
  rw [ix_minL _ _ hx] at hs
  unfold orbM
  rw [List.take_length]
  by_cases hb : hasB O (y : Int) = true
  · rw [if_pos hb]
    have e := (hO.2 y hy).1 hb
    unfold orbF
    rw [hs, e, if_pos (hasB_mem.2 (by simp)), indexOf_append_new hn]
  · rw [if_neg hb]
    have e : minC t y ≠ minC t x := fun e => hb ((hO.2 y hy).2 e)
    unfold orbF
    rw [hs]
    by_cases h2 : hasB (seenTo (minL t) x) (minC t y) = true
    · rw [if_pos h2, if_pos (hasB_more h2), indexOf_append_old h2]
    · rw [if_neg h2, if_neg (fun h3 => by
        have := hasB_mem.1 h3
        simp only [List.mem_append, List.mem_singleton] at this
        rcases this with h4 | h4
        · exact h2 (hasB_mem.2 h4)
        · exact e h4)]
theorem orbF_done {t : List (List Int)} {y : Nat} (hy : y < t.length) : orbF t t.length y = ix (clsL t) y := by
  rw [clsL_def, ix_numL _ _ (by rw [length_minL]; exact hy)]
  have h1 := numF_end (minL t) (i := y) (n := t.length) hy
  rw [ix_minL _ _ hy] at h1
  have h2 := (seenTo_mono (seenTo_has (minL t) y) (t.length - (y + 1))).1
  rw [show y + 1 + (t.length - (y + 1)) = t.length from by omega, ix_minL _ _ hy] at h2
  unfold orbF
  rw [if_pos h2, h1]
end Go.Proofs.Ytjcpeenalbgacaa
