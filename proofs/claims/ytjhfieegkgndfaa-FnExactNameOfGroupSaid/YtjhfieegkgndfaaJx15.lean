/-
  Classes of conjugate elements: plain.
-/
import Derived.Test.YtjhfieegkgndfaaJx0
import Derived.Test.YtjhfieegkgndfaaJx1
import Derived.Test.YtjhfieegkgndfaaJx5
import Derived.Test.YtjhfieegkgndfaaJx8
import Derived.Test.YtjhfieegkgndfaaJx14
namespace Go.Proofs.Ytjhfieegkgndfaa
set_option linter.unusedVariables false
set_option linter.unusedSimpArgs false

/-- the product, in numbers -/
def gm (t : List (List Int)) (x y : Nat) : Nat := (ent t x y).toNat
def gi (t : List (List Int)) (x : Nat) : Nat := (backF t x).toNat
def cj (t : List (List Int)) (x y : Nat) : Nat := (conjF t x y).toNat
theorem cj_eq (t : List (List Int)) (x y : Nat) : cj t x y = gm t (gm t x y) (gi t x) := by unfold cj gm gi; rw [conjF_def]
section
variable {t : List (List Int)} (h : GroupOk t)
include h
theorem gm_lt {x y : Nat} (hx : x < t.length) (hy : y < t.length) : gm t x y < t.length := ent_nn h.1 hx hy
theorem gi_lt {x : Nat} (hx : x < t.length) : gi t x < t.length := by have := backF_ok h hx; unfold gi; omega
theorem cj_lt {x y : Nat} (hx : x < t.length) (hy : y < t.length) : cj t x y < t.length := by have := conjF_bd h hx hy; unfold cj; omega
theorem gm_assoc {x y z : Nat} (hx : x < t.length) (hy : y < t.length) (hz : z < t.length) : gm t (gm t x y) z = gm t x (gm t y z) := by
  unfold gm; rw [grp_assoc h hx hy hz]
theorem gm_zero {x : Nat} (hx : x < t.length) : gm t 0 x = x := by unfold gm; rw [grp_unit_l h hx]; simp
theorem gm_unit {x : Nat} (hx : x < t.length) : gm t x 0 = x := by unfold gm; rw [grp_unit_r h hx]; simp
theorem gm_gi {x : Nat} (hx : x < t.length) : gm t x (gi t x) = 0 := by
  have := (backF_ok h hx).2.2
  unfold gm gi; rw [this]; rfl
theorem gm_inj {x y z : Nat} (hx : x < t.length) (hy : y < t.length) (hz : z < t.length) (e : gm t x y = gm t x z) : y = z := by
  have h1 := h.1.bd hx hy
  have h2 := h.1.bd hx hz
  unfold gm at e
  exact grp_inj h hx hy hz (by omega)
theorem pos_len : 0 < t.length := h.1.1
theorem gi_gm {x : Nat} (hx : x < t.length) : gm t (gi t x) x = 0 := by
  have hi := gi_lt h hx
  have h0 := pos_len h
  have : gm t x (gm t (gi t x) x) = gm t x 0 := by rw [← gm_assoc h hx hi hx, gm_gi h hx, gm_zero h hx, gm_unit h hx]
  exact gm_inj h hx (gm_lt h hi hx) h0 this
theorem gi_zero : gi t 0 = 0 := by
  have h0 := pos_len h
  have := gm_gi h h0
  rwa [gm_zero h (gi_lt h h0)] at this
theorem gi_gi {x : Nat} (hx : x < t.length) : gi t (gi t x) = x := by
  have hi := gi_lt h hx
  exact gm_inj h hi (gi_lt h hi) hx (by rw [gm_gi h hi, gi_gm h hx])
theorem gi_mul {x y : Nat} (hx : x < t.length) (hy : y < t.length) : gi t (gm t x y) = gm t (gi t y) (gi t x) := by
  have hxy := gm_lt h hx hy
  have ix := gi_lt h hx
  have iy := gi_lt h hy
  refine gm_inj h hxy (gi_lt h hxy) (gm_lt h iy ix) ?_
  rw [gm_gi h hxy, gm_assoc h hx hy (gm_lt h iy ix), ← gm_assoc h hy iy ix, gm_gi h hy, gm_zero h ix, gm_gi h hx]
theorem cj_zero {y : Nat} (hy : y < t.length) : cj t 0 y = y := by rw [cj_eq t, gi_zero h, gm_zero h hy, gm_unit h hy]
theorem cj_cj {x y z : Nat} (hx : x < t.length) (hy : y < t.length) (hz : z < t.length) : cj t x (cj t y z) = cj t (gm t x y) z := by
  have ix := gi_lt h hx
  have iy := gi_lt h hy
  have hyz := gm_lt h hy hz
  rw [cj_eq t, cj_eq t, cj_eq t, gi_mul h hx hy, ← gm_assoc h hx hyz iy, ← gm_assoc h (gm_lt h (gm_lt h hx hy) hz) iy ix, ← gm_assoc h hx hy hz]
theorem cj_back {x y : Nat} (hx : x < t.length) (hy : y < t.length) : cj t (gi t x) (cj t x y) = y := by
  rw [cj_cj h (gi_lt h hx) hx hy, gi_gm h hx, cj_zero h hy]
end
/-- the least of y and of its conjugates by the first k elements -/
def lstTo (t : List (List Int)) (y : Nat) : Nat → Int
  | 0 => (y : Int)
  | k + 1 => min (lstTo t y k) (conjF t k y)
@[irreducible] def lstF (t : List (List Int)) (k y : Nat) : Int := lstTo t y k
theorem lstF_zero (t y) : lstF t 0 y = (y : Int) := by unfold lstF; rfl
theorem lstF_succ (t k y) : lstF t (k + 1) y = min (lstF t k y) (conjF t k y) := by unfold lstF; rfl
/-- the least conjugate -/
@[irreducible] def minC (t : List (List Int)) (y : Nat) : Int := lstF t t.length y
theorem minC_def (t y) : minC t y = lstF t t.length y := by unfold minC; rfl
theorem lstF_le (t : List (List Int)) (y : Nat) : ∀ k, (lstF t k y ≤ (y : Int)) ∧ ∀ x, x < k → lstF t k y ≤ conjF t x y
  | 0 => ⟨by rw [lstF_zero]; omega, fun x hx => by omega⟩
  | k + 1 => by
    have ⟨h1, h2⟩ := lstF_le t y k
    rw [lstF_succ]
    refine ⟨by omega, fun x hx => ?_⟩
    by_cases e : x = k
    · subst e; omega
    · have := h2 x (by omega); omega
theorem lstF_is (t : List (List Int)) (y : Nat) : ∀ k, lstF t k y = (y : Int) ∨ ∃ x, x < k ∧ lstF t k y = conjF t x y
  | 0 => .inl (lstF_zero t y)
  | k + 1 => by
    rw [lstF_succ]
    rcases Int.le_total (lstF t k y) (conjF t k y) with g | g
    · rw [Int.min_eq_left g]
      rcases lstF_is t y k with e | ⟨x, hx, e⟩
      · exact .inl e
      · exact .inr ⟨x, by omega, e⟩
    · rw [Int.min_eq_right g]; exact .inr ⟨k, by omega, rfl⟩
theorem minC_is {t : List (List Int)} (h : GroupOk t) {y : Nat} (hy : y < t.length) : ∃ x, x < t.length ∧ minC t y = ((cj t x y : Nat) : Int) := by
  rw [minC_def]
  rcases lstF_is t y t.length with e | ⟨x, hx, e⟩
  · exact ⟨0, pos_len h, by rw [e, cj_zero h hy]⟩
  · have := conjF_bd h hx hy
    exact ⟨x, hx, by rw [e]; unfold cj; omega⟩
theorem minC_le {t : List (List Int)} (h : GroupOk t) {x y : Nat} (hx : x < t.length) (hy : y < t.length) : minC t y ≤ ((cj t x y : Nat) : Int) := by
  have h1 := (lstF_le t y t.length).2 x hx
  have := conjF_bd h hx hy
  rw [minC_def]; unfold cj; omega
theorem minC_cj {t : List (List Int)} (h : GroupOk t) {x y : Nat} (hx : x < t.length) (hy : y < t.length) : minC t (cj t x y) = minC t y := by
  have hc := cj_lt h hx hy
  obtain ⟨a, ha, ea⟩ := minC_is h hy
  obtain ⟨b, hb, eb⟩ := minC_is h hc
  have h1 := minC_le h (gm_lt h hb hx) hy
  rw [← cj_cj h hb hx hy] at h1
  have h2 := minC_le h (gm_lt h ha (gi_lt h hx)) hc
  rw [← cj_cj h ha (gi_lt h hx) hc, cj_back h hx hy] at h2
  omega
theorem minC_conj {t : List (List Int)} (h : GroupOk t) {x y : Nat} (hx : x < t.length) (hy : y < t.length) (e : minC t x = minC t y) : ∃ k, k < t.length ∧ cj t k x = y := by
  obtain ⟨a, ha, ea⟩ := minC_is h hx
  obtain ⟨b, hb, eb⟩ := minC_is h hy
  refine ⟨gm t (gi t b) a, gm_lt h (gi_lt h hb) ha, ?_⟩
  rw [← cj_cj h (gi_lt h hb) ha hx]
  have : cj t a x = cj t b y := by omega
  rw [this, cj_back h hb hy]
/-- the labels: the least conjugates -/
@[irreducible] def lstL (t : List (List Int)) (k : Nat) : List Int := mkL t.length (lstF t k)
theorem length_lstL (t k) : (lstL t k).length = t.length := by unfold lstL; exact length_mkL _ _
theorem ix_lstL (t : List (List Int)) (k y : Nat) (h : y < t.length) : ix (lstL t k) y = lstF t k y := by unfold lstL; exact ix_mkL _ _ _ h
@[irreducible] def minL (t : List (List Int)) : List Int := lstL t t.length
theorem minL_def (t) : minL t = lstL t t.length := by unfold minL; rfl
theorem length_minL (t) : (minL t).length = t.length := by rw [minL_def]; exact length_lstL _ _
theorem ix_minL (t : List (List Int)) (y : Nat) (h : y < t.length) : ix (minL t) y = minC t y := by rw [minL_def, ix_lstL _ _ _ h, minC_def]
/-- the classes' numbers -/
@[irreducible] def clsL (t : List (List Int)) : List Int := numL (minL t)
theorem clsL_def (t) : clsL t = numL (minL t) := by unfold clsL; rfl
theorem length_clsL (t) : (clsL t).length = t.length := by rw [clsL_def, length_numL, length_minL]

/-! ### the reference's way -/
/-- O holds different elements that are conjugate to x, x first -/
structure OrbOk (t : List (List Int)) (x : Nat) (O : List Int) : Prop where
  pos : 0 < O.length
  first : ix O 0 = (x : Int)
  mem : ∀ i, i < O.length → ∃ y : Nat, ix O i = (y : Int) ∧ y < t.length ∧ minC t y = minC t x
  nodup : O.Nodup
theorem OrbOk.one {t : List (List Int)} {x : Nat} (hx : x < t.length) : OrbOk t x [(x : Int)] where
  pos := by simp
  first := by rw [ix_eq]; rfl
  mem := fun i hi => by
    have : i = 0 := by simp at hi; omega
    subst this
    exact ⟨x, by rw [ix_eq]; rfl, hx, rfl⟩
  nodup := by simp
theorem OrbOk.len {t : List (List Int)} {x : Nat} {O : List Int} (h : OrbOk t x O) : O.length ≤ t.length := by
  have := nodup_le O (intRange t.length) h.nodup (fun z hz => by
    obtain ⟨i, hi, rfl⟩ := mem_ix hz
    obtain ⟨y, e, hy, _⟩ := h.mem i hi
    rw [e, mem_intRange]; omega)
  rwa [length_intRange] at this
theorem OrbOk.add {t : List (List Int)} (hG : GroupOk t) {x y k : Nat} {O : List Int} (h : OrbOk t x O) (hy : y < t.length) (hc : minC t y = minC t x) (hk : k < t.length) (hn : hasB O ((cj t k y : Nat) : Int) = false) : OrbOk t x (O ++ [((cj t k y : Nat) : Int)]) where
  pos := by simp
  first := by rw [ix_append_left h.pos]; exact h.first
  mem := fun i hi => by
    by_cases e : i < O.length
    · rw [ix_append_left e]; exact h.mem i e
    · have : i = O.length := by simp at hi; omega
      subst this
      exact ⟨cj t k y, ix_append_one _ _, cj_lt hG hk hy, by rw [minC_cj hG hk hy, hc]⟩
  nodup := by
    rw [List.nodup_append]
    refine ⟨h.nodup, by simp, fun a ha b hb => ?_⟩
    simp at hb
    subst hb
    intro e; subst e
    rw [hasB_mem.2 ha] at hn; cases hn
/-- the first k conjugates of y are in O -/
def OrbRow (t : List (List Int)) (O : List Int) (y k : Nat) : Prop := ∀ j, j < k → hasB O ((cj t j y : Nat) : Int) = true
/-- .. all of the first i of O -/
def OrbTo (t : List (List Int)) (O : List Int) (i : Nat) : Prop := ∀ a, a < i → a < O.length → OrbRow t O (ix O a).toNat t.length
theorem OrbRow.zero (t O y) : OrbRow t O y 0 := all_zero
theorem hasB_more {O : List Int} {z u : Int} (h : hasB O z = true) : hasB (O ++ [u]) z = true := hasB_mem.2 (List.mem_append.2 (.inl (hasB_mem.1 h)))
theorem OrbRow.old {t O y k} (h : OrbRow t O y k) (hk : hasB O ((cj t k y : Nat) : Int) = true) : OrbRow t O y (k + 1) := all_succ h hk
theorem OrbRow.new {t O y k} (h : OrbRow t O y k) : OrbRow t (O ++ [((cj t k y : Nat) : Int)]) y (k + 1) :=
  all_succ (fun j hj => hasB_more (h j hj)) (hasB_mem.2 (by simp))
theorem OrbTo.zero (t O) : OrbTo t O 0 := fun a ha => by omega
theorem OrbTo.more {t O i} {z : Int} (h : OrbTo t O i) (hi : i ≤ O.length) : OrbTo t (O ++ [z]) i := fun a ha hl j hj => by
  have hl' : a < O.length := by omega
  have := h a ha hl' j hj
  rw [ix_append_left hl']
  exact hasB_more this
theorem OrbTo.succ {t O i} (h : OrbTo t O i) (hr : OrbRow t O (ix O i).toNat t.length) : OrbTo t O (i + 1) := fun a ha hl => by
  by_cases e : a = i
  · subst e; exact hr
  · exact h a (by omega) hl
theorem OrbTo.all {t : List (List Int)} (hG : GroupOk t) {x : Nat} {O : List Int} (h : OrbOk t x O) (hx : x < t.length) (ht : OrbTo t O O.length) {y : Nat} (hy : y < t.length) (e : minC t y = minC t x) : hasB O (y : Int) = true := by
  obtain ⟨k, hk, ek⟩ := minC_conj hG hx hy e.symm
  have := ht 0 h.pos h.pos k hk
  rw [h.first, Int.toNat_natCast, ek] at this
  exact this
/-- the orbit of x -/
def IsOrb (t : List (List Int)) (x : Nat) (O : List Int) : Prop := OrbOk t x O ∧ ∀ y, y < t.length → (hasB O (y : Int) = true ↔ minC t y = minC t x)
theorem isOrb_of {t : List (List Int)} (hG : GroupOk t) {x : Nat} {O : List Int} (h : OrbOk t x O) (hx : x < t.length) (ht : OrbTo t O O.length) : IsOrb t x O :=
  ⟨h, fun y hy => ⟨fun hb => by
    obtain ⟨i, hi, e⟩ := mem_ix (hasB_mem.1 hb)
    obtain ⟨z, ez, _, ec⟩ := h.mem i hi
    have : y = z := by omega
    rw [this]; exact ec, fun e => OrbTo.all hG h hx ht hy e⟩⟩
/-- what the reference holds when it has looked at x elements, and of the orbit of x at m -/
@[irreducible] def orbF (t : List (List Int)) (x : Nat) (y : Nat) : Int := if hasB (seenTo (minL t) x) (minC t y) = true then indexOf (seenTo (minL t) x) (minC t y) else -1
@[irreducible] def orbM (t : List (List Int)) (x : Nat) (O : List Int) (m : Nat) (y : Nat) : Int := if hasB (O.take m) (y : Int) = true then ((seenTo (minL t) x).length : Int) else orbF t x y
theorem orbF_zero (t y) : orbF t 0 y = -1 := by unfold orbF; rw [if_neg (by rw [hasB_no.2]; simp; unfold seenTo indexOf indexFrom; decide)]
theorem orbF_nonneg {t : List (List Int)} {x y : Nat} : 0 ≤ orbF t x y ↔ hasB (seenTo (minL t) x) (minC t y) = true := by
  unfold orbF
  split
  · rename_i h; exact ⟨fun _ => h, fun _ => hasB_iff.1 h⟩
  · rename_i h; exact ⟨fun h2 => by omega, fun h2 => absurd h2 h⟩
theorem orbF_old {t : List (List Int)} {x y : Nat} (hx : x < t.length) (h : hasB (seenTo (minL t) x) (minC t x) = true) : orbF t (x + 1) y = orbF t x y := by
  unfold orbF; rw [seenTo_old (by rw [ix_minL _ _ hx]; exact h)]
theorem orbM_zero (t x O y) : orbM t x O 0 y = orbF t x y := by unfold orbM; rw [if_neg (by rw [List.take_zero, hasB_no.2]; simp; unfold indexOf indexFrom; decide)]
theorem orbM_succ {t : List (List Int)} {x m y : Nat} {O : List Int} (hm : m < O.length) : orbM t x O (m + 1) y = if (y : Int) = ix O m then ((seenTo (minL t) x).length : Int) else orbM t x O m y := by
  have ht : O.take (m + 1) = O.take m ++ [ix O m] := by rw [List.take_succ_eq_append_getElem hm, ix_eq]; simp [List.getD, hm]
  unfold orbM
  rw [ht]
  by_cases e : (y : Int) = ix O m
  · rw [if_pos e, if_pos (hasB_mem.2 (by rw [e]; simp))]
  · rw [if_neg e]
    by_cases hb : hasB (O.take m) (y : Int) = true
    · rw [if_pos hb, if_pos (hasB_more hb)]
    · rw [if_neg hb, if_neg (fun h2 => by
        have := hasB_mem.1 h2
        simp only [List.mem_append, List.mem_singleton] at this
        rcases this with h3 | h3
        · exact hb (hasB_mem.2 h3)
        · exact e h3)]
theorem orbM_done {t : List (List Int)} {x y : Nat} {O : List Int} (hx : x < t.length) (hy : y < t.length) (hO : IsOrb t x O) (hn : hasB (seenTo (minL t) x) (minC t x) = false) : orbM t x O O.length y = orbF t (x + 1) y := by
  have hs := seenTo_new (l := minL t) (i := x) (by rw [ix_minL _ _ hx]; exact hn)
  rw [ix_minL _ _ hx] at hs
  unfold orbM
  rw [List.take_length]
  by_cases hb : hasB O (y : Int) = true
  · rw [if_pos hb]
    have e := (hO.2 y hy).1 hb
    unfold orbF
    rw [hs, e, if_pos (hasB_mem.2 (by simp)), indexOf_append_new hn]
  · rw [if_neg hb]
    have e : minC t y ≠ minC t x := fun e => hb ((hO.2 y hy).2 e)
    unfold orbF
    rw [hs]
    by_cases h2 : hasB (seenTo (minL t) x) (minC t y) = true
    · rw [if_pos h2, if_pos (hasB_more h2), indexOf_append_old h2]
    · rw [if_neg h2, if_neg (fun h3 => by
        have := hasB_mem.1 h3
        simp only [List.mem_append, List.mem_singleton] at this
        rcases this with h4 | h4
        · exact h2 (hasB_mem.2 h4)
        · exact e h4)]
theorem orbF_done {t : List (List Int)} {y : Nat} (hy : y < t.length) : orbF t t.length y = ix (clsL t) y := by
  rw [clsL_def, ix_numL _ _ (by rw [length_minL]; exact hy)]
  have h1 := numF_end (minL t) (i := y) (n := t.length) hy
  rw [ix_minL _ _ hy] at h1
  have h2 := (seenTo_mono (seenTo_has (minL t) y) (t.length - (y + 1))).1
  rw [show y + 1 + (t.length - (y + 1)) = t.length from by omega, ix_minL _ _ hy] at h2
  unfold orbF
  rw [if_pos h2, h1]
end Go.Proofs.Ytjhfieegkgndfaa

/-
  Partial maps between lists of tables, element by element: plain.
-/
namespace Go.Proofs.Ytjhfieegkgndfaa
set_option linter.unusedVariables false
set_option linter.unusedSimpArgs false

/-- f' goes on with f -/
def Goes (n : Nat) (f f' : List Int) : Prop := f'.length = n ∧ ∀ i, i < n → 0 ≤ ix f i → ix f' i = ix f i
theorem Goes.refl {n : Nat} {f : List Int} (h : f.length = n) : Goes n f f := ⟨h, fun _ _ _ => rfl⟩
theorem Goes.trans {n : Nat} {f g h : List Int} (a : Goes n f g) (b : Goes n g h) : Goes n f h := ⟨b.1, fun i hi h0 => by
  have e := a.2 i hi h0
  rw [b.2 i hi (by omega), e]⟩
/-- x and y are mapped, and so are their values, as the tables say -/
def Good (az bz : List (List (List Int))) (f : List Int) (x y : Nat) : Prop :=
  ∀ k, k < az.length → 0 ≤ ix f (ent (tab az k) x y).toNat ∧ ix f (ent (tab az k) x y).toNat = ent (tab bz k) (ix f x).toNat (ix f y).toNat
theorem Good.goes {n : Nat} {az bz : List (List (List Int))} {f g : List Int} {x y : Nat} (hA : TabsOk n az) (h : Good az bz f x y) (hg : Goes n f g) (hx : x < n) (hy : y < n) (fx : 0 ≤ ix f x) (fy : 0 ≤ ix f y) : Good az bz g x y := fun k hk => by
  obtain ⟨h1, h2⟩ := h k hk
  have hb := hA.bd hk hx hy
  have e := hg.2 _ hb.2 h1
  rw [e, hg.2 x hx fx, hg.2 y hy fy]
  exact ⟨h1, h2⟩
/-- f is a partial map; s its elements in the order of their mapping -/
structure PartOk (n : Nat) (f s : List Int) : Prop where
  len : f.length = n
  rng : ∀ x, x < n → -1 ≤ ix f x ∧ ix f x < (n : Int)
  inj : ∀ x, x < n → ∀ y, y < n → 0 ≤ ix f x → ix f x = ix f y → x = y
  mem : ∀ x : Nat, x < n → ((x : Int) ∈ s ↔ 0 ≤ ix f x)
  bd : ∀ i, i < s.length → 0 ≤ ix s i ∧ (ix s i).toNat < n
  nodup : s.Nodup
/-- all of s are good with all of s -/
def GoodAll (az bz : List (List (List Int))) (n : Nat) (f : List Int) : Prop := ∀ x, x < n → ∀ y, y < n → 0 ≤ ix f x → 0 ≤ ix f y → Good az bz f x y
theorem iso_of_good {n : Nat} {az bz : List (List (List Int))} {f s : List Int} (h : PartOk n f s) (hall : ∀ x, x < n → 0 ≤ ix f x) (hg : GoodAll az bz n f) : IsoOk n az bz f :=
  ⟨h.len, ⟨fun i hi => by
      have := h.rng i (by have := h.len; omega)
      have := hall i (by have := h.len; omega)
      have := h.len
      omega, fun i hi j hj e => by
      have := h.len
      have := h.inj j (by omega) i (by omega) (hall j (by omega)) e
      omega⟩, fun k hk x hx y hy => (hg x hx y hy (hall x hx) (hall y hy) k hk).2⟩
theorem ix_set_same (f : List Int) (x : Nat) (v : Int) (h : x < f.length) : ix (f.set x v) x = v := by
  rw [ix_eq]; simp [List.getD, h]
theorem ix_set_other (f : List Int) (x i : Nat) (v : Int) (h : i ≠ x) : ix (f.set x v) i = ix f i := by
  rw [ix_eq, ix_eq]; simp [List.getD, List.getElem?_set_ne (Ne.symm h)]
/-- x is new -/
theorem extP_set {f p : List Int} {x : Nat} {v : Int} (hx : x < f.length) (hf : ix f x < 0) (hv : 0 ≤ v) : (ExtP f p ∧ ix p x = v) ↔ ExtP (f.set x v) p := by
  constructor
  · rintro ⟨h1, h2⟩ i hi h0
    rw [List.length_set] at hi
    by_cases e : i = x
    · subst e; rw [ix_set_same _ _ _ hi]; exact h2
    · rw [ix_set_other _ _ _ _ e] at h0 ⊢
      exact h1 i hi h0
  · intro h
    refine ⟨fun i hi h0 => ?_, ?_⟩
    · have e : i ≠ x := fun e => by subst e; omega
      have := h i (by rw [List.length_set]; exact hi) (by rw [ix_set_other _ _ _ _ e]; exact h0)
      rw [this, ix_set_other _ _ _ _ e]
    · have e := ix_set_same f x v hx
      rw [h x (by rw [List.length_set]; exact hx) (by rw [e]; exact hv), e]
theorem goes_set {n : Nat} {f : List Int} {x : Nat} {v : Int} (hl : f.length = n) (hf : ix f x < 0) : Goes n f (f.set x v) :=
  ⟨by rw [List.length_set]; exact hl, fun i _ h0 => ix_set_other _ _ _ _ (fun e => by subst e; omega)⟩
theorem mem_snoc_iff {s : List Int} {a b : Int} : a ∈ s ++ [b] ↔ a ∈ s ∨ a = b := by simp
theorem PartOk.set {n : Nat} {f s : List Int} {x v : Nat} (h : PartOk n f s) (hx : x < n) (hv : v < n) (hf : ix f x < 0) (hu : ∀ y, y < n → ix f y ≠ (v : Int)) : PartOk n (f.set x (v : Int)) (s ++ [(x : Int)]) where
  len := by rw [List.length_set]; exact h.len
  rng y hy := by
    by_cases e : y = x
    · subst e; rw [ix_set_same _ _ _ (by rw [h.len]; exact hy)]; omega
    · rw [ix_set_other _ _ _ _ e]; exact h.rng y hy
  inj y hy z hz h0 e := by
    have hxl : x < f.length := by rw [h.len]; exact hx
    by_cases ey : y = x
    · subst ey
      by_cases ez : z = y
      · exact ez.symm
      · rw [ix_set_same _ _ _ hxl, ix_set_other _ _ _ _ ez] at e
        exact absurd e.symm (hu z hz)
    · by_cases ez : z = x
      · subst ez
        rw [ix_set_same _ _ _ hxl, ix_set_other _ _ _ _ ey] at e
        exact absurd e (hu y hy)
      · rw [ix_set_other _ _ _ _ ey] at h0
        rw [ix_set_other _ _ _ _ ey, ix_set_other _ _ _ _ ez] at e
        exact h.inj y hy z hz h0 e
  mem y hy := by
    have hxl : x < f.length := by rw [h.len]; exact hx
    rw [mem_snoc_iff, h.mem y hy]
    by_cases e : y = x
    · subst e; rw [ix_set_same _ _ _ hxl]; constructor
      · intro _; omega
      · intro _; exact .inr rfl
    · rw [ix_set_other _ _ _ _ e]; constructor
      · rintro (h1 | h1)
        · exact h1
        · exact absurd (Int.ofNat.inj h1) e
      · exact .inl
  bd i hi := by
    by_cases e : i < s.length
    · rw [ix_app e]; exact h.bd i e
    · have : i = s.length := by simp at hi; omega
      subst this
      rw [ix_snoc]; omega
  nodup := by
    rw [List.nodup_append]
    refine ⟨h.nodup, by simp, fun a ha b hb e => ?_⟩
    have : b = (x : Int) := by simpa using hb
    subst this; subst e
    have := (h.mem x hx).1 ha
    omega
/-- where v is used, nothing new goes there -/
theorem used_no {n : Nat} {az bz : List (List (List Int))} {f p : List Int} {x y : Nat} {v : Int} (hl : f.length = n) (hp : IsoOk n az bz p) (he : ExtP f p) (hx : x < n) (hy : y < n) (hf : ix f x < 0) (hv : 0 ≤ v) (e : ix f y = v) : ix p x ≠ v := fun h => by
  have h1 := he y (by omega) (by omega)
  have := hp.inj hx hy (by omega)
  subst this
  omega
/-- what follows -/
theorem ext_follows {n : Nat} {az bz : List (List (List Int))} {f p : List Int} {x y k : Nat} (hl : f.length = n) (hp : IsoOk n az bz p) (he : ExtP f p) (hx : x < n) (hy : y < n) (fx : 0 ≤ ix f x) (fy : 0 ≤ ix f y) (hk : k < az.length) : ix p (ent (tab az k) x y).toNat = ent (tab bz k) (ix f x).toNat (ix f y).toNat := by
  rw [hp.2.2 k hk x hx y hy, he x (by omega) fx, he y (by omega) fy]
end Go.Proofs.Ytjhfieegkgndfaa

/-
  Braces: plain.
-/
namespace Go.Proofs.Ytjhfieegkgndfaa
set_option linter.unusedVariables false
set_option linter.unusedSimpArgs false

/-- x o (y + z) -/
@[irreducible] def leftF (t u : List (List Int)) (x y z : Nat) : Int := ent u x (ent t y z).toNat
/-- ((x o y) - x) + (x o z) -/
@[irreducible] def rightF (t u : List (List Int)) (x y z : Nat) : Int := ent t (ent t (ent u x y).toNat (backF t x).toNat).toNat (ent u x z).toNat
theorem leftF_def (t u : List (List Int)) (x y z : Nat) : ent u x (ent t y z).toNat = leftF t u x y z := by unfold leftF; rfl
theorem rightF_def (t u : List (List Int)) (x y z : Nat) : ent t (ent t (ent u x y).toNat (backF t x).toNat).toNat (ent u x z).toNat = rightF t u x y z := by unfold rightF; rfl
def NoZ (t u : List (List Int)) (x y k : Nat) : Prop := ∀ z, z < k → leftF t u x y z = rightF t u x y z
def NoY (t u : List (List Int)) (x k : Nat) : Prop := ∀ y, y < k → NoZ t u x y t.length
def NoX (t u : List (List Int)) (k : Nat) : Prop := ∀ x, x < k → NoY t u x t.length
theorem NoZ.zero (t u x y) : NoZ t u x y 0 := all_zero
theorem NoZ.succ {t u x y k} (h : NoZ t u x y k) (hk : leftF t u x y k = rightF t u x y k) : NoZ t u x y (k + 1) := all_succ h hk
theorem NoY.zero (t u x) : NoY t u x 0 := all_zero
theorem NoY.succ {t u x k} (h : NoY t u x k) (hk : NoZ t u x k t.length) : NoY t u x (k + 1) := all_succ h hk
theorem NoX.zero (t u) : NoX t u 0 := all_zero
theorem NoX.succ {t u k} (h : NoX t u k) (hk : NoY t u k t.length) : NoX t u (k + 1) := all_succ h hk
/-- l is the first fault, or there is none and l is empty -/
def IsFault (t u : List (List Int)) (l : List Int) : Prop :=
  (l = [] ∧ NoX t u t.length) ∨ ∃ x y z : Nat, x < t.length ∧ y < t.length ∧ z < t.length ∧ l = [(x : Int), (y : Int), (z : Int)] ∧ leftF t u x y z ≠ rightF t u x y z ∧ NoX t u x ∧ NoY t u x y ∧ NoZ t u x y z
theorem IsFault.uniq {t u : List (List Int)} {l m : List Int} (h : IsFault t u l) (k : IsFault t u m) : l = m := by
  rcases h with ⟨rfl, h⟩ | ⟨x, y, z, hx, hy, hz, rfl, hb, h1, h2, h3⟩
  · rcases k with ⟨rfl, _⟩ | ⟨x, y, z, hx, hy, hz, rfl, hb, _, _, _⟩
    · rfl
    · exact absurd (h x hx y hy z hz) hb
  · rcases k with ⟨rfl, k⟩ | ⟨x', y', z', hx', hy', hz', rfl, hb', k1, k2, k3⟩
    · exact absurd (k x hx y hy z hz) hb
    · have ex : x = x' := by
        rcases Nat.lt_trichotomy x x' with g | g | g
        · exact absurd (k1 x g y hy z hz) hb
        · exact g
        · exact absurd (h1 x' g y' hy' z' hz') hb'
      subst ex
      have ey : y = y' := by
        rcases Nat.lt_trichotomy y y' with g | g | g
        · exact absurd (k2 y g z hz) hb
        · exact g
        · exact absurd (h2 y' g z' hz') hb'
      subst ey
      have ez : z = z' := by
        rcases Nat.lt_trichotomy z z' with g | g | g
        · exact absurd (k3 z g) hb
        · exact g
        · exact absurd (h3 z' g) hb'
      subst ez
      rfl
open Classical in
/-- the first fault, or the empty list -/
@[irreducible] noncomputable def faultL (t u : List (List Int)) : List Int := if h : ∃ l, IsFault t u l then h.choose else []
theorem faultL_eq {t u : List (List Int)} {l : List Int} (h : IsFault t u l) : faultL t u = l := by
  unfold faultL
  rw [dif_pos ⟨l, h⟩]
  exact IsFault.uniq (Exists.choose_spec (p := fun l => IsFault t u l) ⟨l, h⟩) h
theorem faultL_none {t u : List (List Int)} (h : NoX t u t.length) : faultL t u = [] := faultL_eq (.inl ⟨rfl, h⟩)
theorem faultL_at {t u : List (List Int)} {x y z : Nat} (hx : x < t.length) (hy : y < t.length) (hz : z < t.length) (hb : leftF t u x y z ≠ rightF t u x y z) (h1 : NoX t u x) (h2 : NoY t u x y) (h3 : NoZ t u x y z) : faultL t u = [(x : Int), (y : Int), (z : Int)] :=
  faultL_eq (.inr ⟨x, y, z, hx, hy, hz, rfl, hb, h1, h2, h3⟩)

/-- both are groups of equally many elements -/
@[irreducible] def twoB (t u : List (List Int)) : Bool := groupB t && (groupB u && decide (t.length = u.length))
theorem twoB_iff {t u : List (List Int)} : twoB t u = true ↔ GroupOk t ∧ GroupOk u ∧ t.length = u.length := by
  unfold twoB; simp [groupB_iff]
theorem twoB_1 {t u : List (List Int)} (h : groupB t = false) : twoB t u = false := by unfold twoB; simp [h]
theorem twoB_2 {t u : List (List Int)} (h : groupB u = false) : twoB t u = false := by unfold twoB; simp [h]
theorem twoB_3 {t u : List (List Int)} (h : t.length ≠ u.length) : twoB t u = false := by unfold twoB; simp [h]
theorem twoB_yes {t u : List (List Int)} (h : groupB t = true) (h2 : groupB u = true) (h3 : t.length = u.length) : twoB t u = true := by unfold twoB; simp [h, h2, h3]
/-- a brace -/
@[irreducible] noncomputable def braceB (t u : List (List Int)) : Bool := twoB t u && (faultL t u).isEmpty
theorem braceB_1 {t u : List (List Int)} (h : twoB t u = false) : braceB t u = false := by unfold braceB; simp [h]
theorem braceB_2 {t u : List (List Int)} (h : faultL t u ≠ []) : braceB t u = false := by unfold braceB; simp [h]
theorem braceB_yes {t u : List (List Int)} (h : twoB t u = true) (h2 : faultL t u = []) : braceB t u = true := by unfold braceB; simp [h, h2]
theorem braceB_two {t u : List (List Int)} (h : braceB t u = true) : twoB t u = true := by
  cases h' : twoB t u with
  | true => rfl
  | false => rw [braceB_1 h'] at h; cases h
theorem braceB_fault {t u : List (List Int)} (h : braceB t u = true) : faultL t u = [] := by
  apply Classical.byContradiction
  intro h'; rw [braceB_2 h'] at h; cases h
theorem braceB_ok {t u : List (List Int)} (h : braceB t u = true) : GroupOk t ∧ GroupOk u ∧ t.length = u.length := twoB_iff.1 (braceB_two h)
@[irreducible] noncomputable def codeB (t u : List (List Int)) : Int := if braceB t u = true then 0 else 1
theorem codeB_yes {t u} (h : braceB t u = true) : codeB t u = 0 := by unfold codeB; rw [if_pos h]
theorem codeB_no {t u} (h : braceB t u = false) : codeB t u = 1 := by unfold codeB; rw [if_neg (by rw [h]; simp)]
@[irreducible] noncomputable def ifB {α : Type} (t u : List (List Int)) (a d : α) : α := if braceB t u = true then a else d
theorem ifB_yes {α : Type} {t u} {a d : α} (h : braceB t u = true) : ifB t u a d = a := by unfold ifB; rw [if_pos h]
theorem ifB_no {α : Type} {t u} {a d : α} (h : braceB t u = false) : ifB t u a d = d := by unfold ifB; rw [if_neg (by rw [h]; simp)]
end Go.Proofs.Ytjhfieegkgndfaa

/-
  Isomorphisms of groups: 0 goes to 0, and there are few. Plain.
-/
namespace Go.Proofs.Ytjhfieegkgndfaa
set_option linter.unusedVariables false
set_option linter.unusedSimpArgs false

theorem grp_inj_r {t : List (List Int)} (h : GroupOk t) {x y z : Nat} (hx : x < t.length) (hy : y < t.length) (hz : z < t.length) (e : ent t y x = ent t z x) : y = z := by
  obtain ⟨b0, b1, b2⟩ := backF_ok h hx
  have a1 := grp_assoc h hy hx (z := (backF t x).toNat) (by omega)
  have a2 := grp_assoc h hz hx (z := (backF t x).toNat) (by omega)
  rw [e, a2, b2] at a1
  have e1 := grp_unit_r h hy
  have e2 := grp_unit_r h hz
  simp only [Int.toNat_zero] at a1
  omega
theorem IsoOk.zero {n : Nat} {az bz : List (List (List Int))} {p : List Int} (hp : IsoOk n az bz p) (h0 : 0 < az.length) (hA : GroupOk (tab az 0)) (hB : GroupOk (tab bz 0)) (la : (tab az 0).length = n) (lb : (tab bz 0).length = n) : ix p 0 = 0 := by
  have h1 : 1 ≤ n := by have := hA.1.1; omega
  have hb := hp.bd (x := 0) (by omega)
  have hm := hp.2.2 0 h0 0 (by omega) 0 (by omega)
  rw [grp_unit_l hA (by omega)] at hm
  have hu := grp_unit_r hB (x := (ix p 0).toNat) (by omega)
  have := grp_inj hB (x := (ix p 0).toNat) (y := 0) (z := (ix p 0).toNat) (by omega) (by omega) (by omega) (by
    rw [hu, ← hm]
    simp
    omega)
  omega
theorem extL_zero {n : Nat} {az bz : List (List (List Int))} (h0 : 0 < az.length) (hA : GroupOk (tab az 0)) (hB : GroupOk (tab bz 0)) (la : (tab az 0).length = n) (lb : (tab bz 0).length = n) : extL n az bz [0] = isoL n az bz :=
  extL_all fun p hp i hi _ => by
    have : i = 0 := by simpa using hi
    subst this
    rw [hp.zero h0 hA hB la lb, ix_eq]; rfl

theorem nodup_filter {α : Type} {l : List α} (p : α → Bool) (h : l.Nodup) : (l.filter p).Nodup := by
  rw [List.nodup_iff_pairwise_ne] at h ⊢
  exact h.filter _
/-- where all of M agree -/
def Agr (M : List (List Int)) (x : Nat) : Prop := ∀ p, p ∈ M → ∀ q, q ∈ M → ix p x = ix q x
open Classical in
noncomputable def agrL (n : Nat) (M : List (List Int)) : List Nat := (List.range n).filter fun x => decide (Agr M x)
theorem mem_agrL {n : Nat} {M : List (List Int)} {x : Nat} : x ∈ agrL n M ↔ x < n ∧ Agr M x := by
  unfold agrL; rw [List.mem_filter, List.mem_range]; simp
theorem nodup_agrL (n : Nat) (M : List (List Int)) : (agrL n M).Nodup := by
  unfold agrL; exact nodup_filter _ List.nodup_range
theorem agrL_le (n : Nat) (M : List (List Int)) : (agrL n M).length ≤ n := by
  unfold agrL
  exact Nat.le_trans (List.length_filter_le _ _) (by simp)
/-- the part that leads x to v -/
def part (M : List (List Int)) (x : Nat) (v : Nat) : List (List Int) := M.filter fun p => decide (ix p x = (v : Int))
theorem mem_part {M : List (List Int)} {x v : Nat} {p : List Int} : p ∈ part M x v ↔ p ∈ M ∧ ix p x = (v : Int) := by
  unfold part; rw [List.mem_filter]; simp
theorem len_parts (x B : Nat) : ∀ (n : Nat) (M : List (List Int)), (∀ p, p ∈ M → 0 ≤ ix p x ∧ ix p x < (n : Int)) → (∀ v, v < n → (part M x v).length ≤ B) → M.length ≤ n * B
  | 0, M, hb, _ => by
    cases M with
    | nil => simp
    | cons p M => have := hb p (by simp); omega
  | n + 1, M, hb, hv => by
    have h := List.length_eq_countP_add_countP (fun p : List Int => decide (ix p x = (n : Int))) (l := M)
    have h1 := hv n (by omega)
    unfold part at h1
    rw [← List.countP_eq_length_filter] at h1
    have h2 := len_parts x B n (M.filter fun p => ! decide (ix p x = (n : Int))) (fun p hp => by
        rw [List.mem_filter] at hp
        have := hb p hp.1
        have h3 : ¬ ix p x = (n : Int) := by simpa using hp.2
        omega) (fun v hvn => by
        refine Nat.le_trans ?_ (hv v (by omega))
        unfold part
        rw [List.filter_filter, ← List.countP_eq_length_filter, ← List.countP_eq_length_filter]
        exact List.countP_mono_left fun p _ => by simp; intro a _; exact a)
    rw [← List.countP_eq_length_filter] at h2
    have e : List.countP (fun p : List Int => ! decide (ix p x = (n : Int))) M = List.countP (fun a : List Int => decide (¬ (decide (ix a x = (n : Int))) = true)) M := by
      congr 1; funext p; simp
    rw [e] at h2
    rw [Nat.add_mul, Nat.one_mul]
    omega
section
variable {n : Nat} {az bz : List (List (List Int))} (h0 : 0 < az.length) (hA : GroupOk (tab az 0)) (hB : GroupOk (tab bz 0)) (la : (tab az 0).length = n) (lb : (tab bz 0).length = n)
include h0 hA hB la lb
omit hA hB la lb in
theorem agr_mul {M : List (List Int)} (hM : ∀ p, p ∈ M → IsoOk n az bz p) {x y : Nat} (hx : x < n) (hy : y < n) (ax : Agr M x) (ay : Agr M y) : Agr M (ent (tab az 0) x y).toNat := fun p hp q hq => by
  rw [(hM p hp).2.2 0 h0 x hx y hy, (hM q hq).2.2 0 h0 x hx y hy, ax p hp q hq, ay p hp q hq]
omit hA la in
theorem agr_back {M : List (List Int)} (hM : ∀ p, p ∈ M → IsoOk n az bz p) {x y : Nat} (hx : x < n) (hy : y < n) (ay : Agr M y) (axy : Agr M (ent (tab az 0) x y).toNat) : Agr M x := fun p hp q hq => by
  have h := axy p hp q hq
  rw [(hM p hp).2.2 0 h0 x hx y hy, (hM q hq).2.2 0 h0 x hx y hy, ay p hp q hq] at h
  have b1 := (hM p hp).bd hx
  have b2 := (hM q hq).bd hx
  have b3 := (hM q hq).bd hy
  have := grp_inj_r hB (x := (ix q y).toNat) (y := (ix p x).toNat) (z := (ix q x).toNat) (by omega) (by omega) (by omega) h
  omega
theorem agr_two {M : List (List Int)} (hM : ∀ p, p ∈ M → IsoOk n az bz p) {x v : Nat} (hx : x < n) (hn : ¬ Agr M x) : 2 * (agrL n M).length ≤ (agrL n (part M x v)).length := by
  have hs : ∀ y, Agr M y → Agr (part M x v) y := fun y h p hp q hq => h p (mem_part.1 hp).1 q (mem_part.1 hq).1
  have hP : ∀ p, p ∈ part M x v → IsoOk n az bz p := fun p hp => hM p (mem_part.1 hp).1
  have hax : Agr (part M x v) x := fun p hp q hq => by rw [(mem_part.1 hp).2, (mem_part.1 hq).2]
  have hbd : ∀ y, y < n → 0 ≤ ent (tab az 0) x y ∧ (ent (tab az 0) x y).toNat < n := fun y hy => by
    have := hA.1.bd (x := x) (y := y) (by omega) (by omega)
    omega
  have h := nodup_le (agrL n M ++ (agrL n M).map fun y => (ent (tab az 0) x y).toNat) (agrL n (part M x v)) (by
      rw [List.nodup_append]
      refine ⟨nodup_agrL _ _, ?_, ?_⟩
      · rw [List.nodup_iff_pairwise_ne, List.pairwise_map]
        have hn2 := nodup_agrL n M
        rw [List.nodup_iff_pairwise_ne] at hn2
        refine hn2.imp_of_mem ?_
        intro a b ha hb hab e
        have ba := hbd a (mem_agrL.1 ha).1
        have bb := hbd b (mem_agrL.1 hb).1
        exact hab (grp_inj hA (x := x) (by omega) (by have := (mem_agrL.1 ha).1; omega) (by have := (mem_agrL.1 hb).1; omega) (by omega))
      · intro a ha b hb e
        rw [List.mem_map] at hb
        obtain ⟨y, hy, rfl⟩ := hb
        subst e
        exact hn (agr_back h0 hB lb hM hx (mem_agrL.1 hy).1 (mem_agrL.1 hy).2 (mem_agrL.1 ha).2))
    (fun y hy => by
      rw [List.mem_append, List.mem_map] at hy
      rcases hy with hy | ⟨z, hz, rfl⟩
      · exact mem_agrL.2 ⟨(mem_agrL.1 hy).1, hs y (mem_agrL.1 hy).2⟩
      · exact mem_agrL.2 ⟨(hbd z (mem_agrL.1 hz).1).2, agr_mul h0 hP hx (mem_agrL.1 hz).1 hax (hs z (mem_agrL.1 hz).2)⟩)
  rw [List.length_append, List.length_map] at h
  omega
theorem few : ∀ (f : Nat) (M : List (List Int)), M.Nodup → (∀ p, p ∈ M → IsoOk n az bz p) → n < 2 ^ f * (agrL n M).length → M.length ≤ n ^ f
  | 0, M, _, _, hl => by have := agrL_le n M; omega
  | f + 1, M, hn, hM, hl => by
    have h1 : 1 ≤ n := by have := hA.1.1; omega
    by_cases hall : ∀ x, x < n → Agr M x
    · have : M.length ≤ 1 := by
        rcases M with _ | ⟨p, _ | ⟨q, r⟩⟩
        · simp
        · simp
        · have hpq : p = q := ix_ext (by rw [(hM p (by simp)).1, (hM q (by simp)).1]) fun i hi => hall i (by rw [(hM p (by simp)).1] at hi; exact hi) p (by simp) q (by simp)
          subst hpq
          simp at hn
      exact Nat.le_trans this (Nat.pow_pos (by omega))
    · obtain ⟨x, hx⟩ := Classical.not_forall.1 hall
      obtain ⟨hx, hna⟩ := Classical.not_imp.1 hx
      have := len_parts x (n ^ f) n M (fun p hp => by have := (hM p hp).bd hx; omega) (fun v _ => few f (part M x v) (by unfold part; exact nodup_filter _ hn) (fun p hp => hM p (mem_part.1 hp).1) (by
        have h2 := agr_two h0 hA hB la lb hM (v := v) hx hna
        rw [Nat.pow_succ] at hl
        have h3 := Nat.mul_le_mul_left (2 ^ f) h2
        rw [← Nat.mul_assoc] at h3
        omega))
      rw [Nat.pow_succ, Nat.mul_comm]
      exact this
theorem few_iso (h12 : n ≤ 12) : (isoL n az bz).length ≤ 1000000 := by
  have h1 : 1 ≤ n := by have := hA.1.1; omega
  have hnd : (isoL n az bz).Nodup := by
    have := nodup_extL n az bz [0]
    rwa [extL_zero h0 hA hB la lb] at this
  have := few h0 hA hB la lb 4 (isoL n az bz) hnd (fun p hp => mem_isoL.1 hp) (by
    have : 0 < (agrL n (isoL n az bz)).length := List.length_pos_of_mem (a := 0) (mem_agrL.2 ⟨by omega, fun p hp q hq => by
      rw [(mem_isoL.1 hp).zero h0 hA hB la lb, (mem_isoL.1 hq).zero h0 hA hB la lb]⟩)
    omega)
  have h2 : n ^ 4 ≤ 12 ^ 4 := Nat.pow_le_pow_left h12 4
  omega
theorem take_iso (h12 : n ≤ 12) : (extL n az bz [0]).take 1000000 = isoL n az bz := by
  rw [extL_zero h0 hA hB la lb]
  exact List.take_of_length_le (few_iso h0 hA hB la lb h12)
end
/-- the first of the isomorphisms, or nothing -/
@[irreducible] noncomputable def isoF (az bz : List (List (List Int))) : List Int := if (tab az 0).length = (tab bz 0).length then (isoL (tab az 0).length az bz).headD [] else []
theorem isoF_len {az bz : List (List (List Int))} (h : ¬ (tab az 0).length = (tab bz 0).length) : isoF az bz = [] := by unfold isoF; rw [if_neg h]
theorem isoF_nil {n : Nat} {az bz : List (List (List Int))} (ha : (tab az 0).length = n) (h : isoL n az bz = []) : isoF az bz = [] := by
  unfold isoF
  subst ha
  split
  · rw [h]; rfl
  · rfl
theorem isoF_cons {n : Nat} {az bz : List (List (List Int))} (ha : (tab az 0).length = n) (hb : (tab bz 0).length = n) {p : List Int} {r : List (List Int)} (h : isoL n az bz = p :: r) : isoF az bz = p := by
  unfold isoF
  subst ha
  rw [if_pos (by omega), h]; rfl
theorem isoF_ne {n : Nat} {az bz : List (List (List Int))} (h1 : 1 ≤ n) {p : List Int} {r : List (List Int)} (h : isoL n az bz = p :: r) : p.length = n ∧ 0 < p.length := by
  have := (mem_isoL.1 (show p ∈ isoL n az bz by rw [h]; simp)).1
  omega
end Go.Proofs.Ytjhfieegkgndfaa

/-
  A partial map taken back: plain.
-/
namespace Go.Proofs.Ytjhfieegkgndfaa
set_option linter.unusedVariables false
set_option linter.unusedSimpArgs false

/-- the elements l taken back -/
@[irreducible] def clearL (f l : List Int) : List Int := l.foldl (fun g x => g.set x.toNat (-1)) f
theorem clearL_nil (f : List Int) : clearL f [] = f := by unfold clearL; rfl
theorem clearL_snoc (f l : List Int) (x : Int) : clearL f (l ++ [x]) = (clearL f l).set x.toNat (-1) := by unfold clearL; rw [List.foldl_append]; rfl
theorem clearL_cons (f l : List Int) (x : Int) : clearL f (x :: l) = clearL (f.set x.toNat (-1)) l := by unfold clearL; rfl
theorem length_clearL : ∀ (l f : List Int), (clearL f l).length = f.length
  | [], f => by rw [clearL_nil]
  | x :: l, f => by rw [clearL_cons, length_clearL l, List.length_set]
/-- what is not among them stays -/
theorem clearL_not : ∀ (l f : List Int) (y : Nat), (∀ z, z ∈ l → 0 ≤ z) → (y : Int) ∉ l → ix (clearL f l) y = ix f y
  | [], f, y, _, _ => by rw [clearL_nil]
  | x :: l, f, y, h0, hn => by
    rw [clearL_cons, clearL_not l _ y (fun z hz => h0 z (by simp [hz])) (fun h => hn (by simp [h])), ix_set_other]
    intro e
    have := h0 x (by simp)
    exact hn (by simp; left; omega)
theorem clearL_in : ∀ (l f : List Int) (y : Nat), (∀ z, z ∈ l → 0 ≤ z) → y < f.length → (y : Int) ∈ l → ix (clearL f l) y = -1
  | x :: l, f, y, h0, hy, hm => by
    rw [clearL_cons]
    by_cases hl : (y : Int) ∈ l
    · exact clearL_in l _ y (fun z hz => h0 z (by simp [hz])) (by rw [List.length_set]; exact hy) hl
    · rw [clearL_not l _ y (fun z hz => h0 z (by simp [hz])) hl]
      have : x = (y : Int) := by
        rcases List.mem_cons.1 hm with h | h
        · exact h.symm
        · exact absurd h hl
      subst this
      rw [Int.toNat_natCast, ix_set_same _ _ _ hy]
/-- what was set since is taken back -/
theorem clearL_back {n : Nat} {f g s l : List Int} (hf : PartOk n f s) (hg : PartOk n g (s ++ l)) (hgo : Goes n f g) : clearL g l = f := by
  have h0 : ∀ z, z ∈ l → 0 ≤ z := fun z hz => by
    obtain ⟨i, hi, e⟩ := mem_ix (show z ∈ s ++ l by simp [hz])
    have := (hg.bd i hi).1
    omega
  refine ix_ext (by rw [length_clearL, hg.len, hf.len]) fun i hi => ?_
  rw [length_clearL, hg.len] at hi
  by_cases hm : (i : Int) ∈ l
  · rw [clearL_in l g i h0 (by rw [hg.len]; exact hi) hm]
    have hns : (i : Int) ∉ s := fun h => by
      have := hg.nodup
      rw [List.nodup_append] at this
      exact this.2.2 _ h _ hm rfl
    have h1 : ¬ 0 ≤ ix f i := fun h => hns ((hf.mem i hi).2 h)
    have := (hf.rng i hi).1
    omega
  · rw [clearL_not l g i h0 hm]
    by_cases hs : (i : Int) ∈ s
    · exact hgo.2 i hi ((hf.mem i hi).1 hs)
    · have h1 : ¬ 0 ≤ ix f i := fun h => hs ((hf.mem i hi).2 h)
      have h2 : ¬ 0 ≤ ix g i := fun h => by
        rcases List.mem_append.1 ((hg.mem i hi).2 h) with h3 | h3
        · exact hs h3
        · exact hm h3
      have := (hf.rng i hi).1
      have := (hg.rng i hi).1
      omega
/-- a partial map, its elements aside -/
def PartF (n : Nat) (f : List Int) : Prop := f.length = n ∧ (∀ x, x < n → -1 ≤ ix f x ∧ ix f x < (n : Int)) ∧ ∀ x, x < n → ∀ y, y < n → 0 ≤ ix f x → ix f x = ix f y → x = y
theorem PartOk.toF {n : Nat} {f s : List Int} (h : PartOk n f s) : PartF n f := ⟨h.len, h.rng, h.inj⟩
theorem PartF.clear {n : Nat} {f : List Int} (h : PartF n f) {x : Nat} (hx : x < n) : PartF n (f.set x (-1)) := by
  obtain ⟨h1, h2, h3⟩ := h
  have hxl : x < f.length := by omega
  refine ⟨by rw [List.length_set]; exact h1, fun y hy => ?_, fun y hy z hz h0 e => ?_⟩
  · by_cases e : y = x
    · subst e; rw [ix_set_same _ _ _ hxl]; omega
    · rw [ix_set_other _ _ _ _ e]; exact h2 y hy
  · by_cases ey : y = x
    · subst ey; rw [ix_set_same _ _ _ hxl] at h0; omega
    · rw [ix_set_other _ _ _ _ ey] at h0
      rw [ix_set_other _ _ _ _ ey] at e
      by_cases ez : z = x
      · subst ez; rw [ix_set_same _ _ _ hxl] at e; omega
      · rw [ix_set_other _ _ _ _ ez] at e; exact h3 y hy z hz h0 e
theorem hasB_has {l : List Int} {v : Int} : hasB l v = true ↔ ∃ i, i < l.length ∧ ix l i = v := by
  rw [hasB_iff]
  rcases indexOf_spec l v with ⟨h, hn⟩ | ⟨i, hi, h, e, _⟩
  · constructor
    · intro h2; omega
    · rintro ⟨i, hi, e⟩; exact absurd e (hn i hi)
  · exact ⟨fun _ => ⟨i, hi, e⟩, fun _ => by omega⟩
theorem bool_ext {a b : Bool} (h : a = true ↔ b = true) : a = b := by cases a <;> cases b <;> simp_all
theorem hasB_clear {n : Nat} {f : List Int} (h : PartF n f) {x : Nat} (hx : x < n) (h0 : 0 ≤ ix f x) (i : Nat) : hasB (f.set x (-1)) i = if i = (ix f x).toNat then false else hasB f i := by
  obtain ⟨h1, h2, h3⟩ := h
  have hxl : x < f.length := by omega
  by_cases e : i = (ix f x).toNat
  · rw [if_pos e, ← Bool.not_eq_true, hasB_has]
    rintro ⟨y, hy, e2⟩
    rw [List.length_set] at hy
    by_cases ey : y = x
    · subst ey; rw [ix_set_same _ _ _ hxl] at e2; omega
    · rw [ix_set_other _ _ _ _ ey] at e2
      exact ey (h3 x hx y (by omega) h0 (by omega)).symm
  · rw [if_neg e]
    refine bool_ext ?_
    rw [hasB_has, hasB_has, List.length_set]
    constructor
    · rintro ⟨y, hy, e2⟩
      by_cases ey : y = x
      · subst ey; rw [ix_set_same _ _ _ hxl] at e2; omega
      · rw [ix_set_other _ _ _ _ ey] at e2; exact ⟨y, hy, e2⟩
    · rintro ⟨y, hy, e2⟩
      have ey : y ≠ x := fun h => by subst h; omega
      exact ⟨y, hy, by rw [ix_set_other _ _ _ _ ey]; exact e2⟩
theorem hasB_set {n : Nat} {f : List Int} (hl : f.length = n) {x v : Nat} (hx : x < n) (hf : ix f x < 0) (i : Nat) : hasB (f.set x (v : Int)) i = if i = v then true else hasB f i := by
  have hxl : x < f.length := by omega
  by_cases e : i = v
  · rw [if_pos e, hasB_has]
    subst e
    exact ⟨x, by rw [List.length_set]; exact hxl, ix_set_same _ _ _ hxl⟩
  · rw [if_neg e]
    refine bool_ext ?_
    rw [hasB_has, hasB_has, List.length_set]
    constructor
    · rintro ⟨y, hy, e2⟩
      by_cases ey : y = x
      · subst ey; rw [ix_set_same _ _ _ hxl] at e2; omega
      · rw [ix_set_other _ _ _ _ ey] at e2; exact ⟨y, hy, e2⟩
    · rintro ⟨y, hy, e2⟩
      have ey : y ≠ x := fun h => by subst h; omega
      exact ⟨y, hy, by rw [ix_set_other _ _ _ _ ey]; exact e2⟩
theorem PartOk.le {n : Nat} {f s : List Int} (h : PartOk n f s) : s.length ≤ n := by
  have := nodup_le s (intRange n) h.nodup (fun z hz => by
    obtain ⟨i, hi, e⟩ := mem_ix hz
    have := h.bd i hi
    rw [mem_intRange]; omega)
  simpa [intRange] using this
end Go.Proofs.Ytjhfieegkgndfaa

/-
  Assigning an element of a partial map and all that follows: plain.
-/
namespace Go.Proofs.Ytjhfieegkgndfaa
set_option linter.unusedVariables false
set_option linter.unusedSimpArgs false

/-- the pair x, y is good at table k -/
def Gd (az bz : List (List (List Int))) (f : List Int) (k x y : Nat) : Prop :=
  0 ≤ ix f (ent (tab az k) x y).toNat ∧ ix f (ent (tab az k) x y).toNat = ent (tab bz k) (ix f x).toNat (ix f y).toNat
theorem Gd.goes {n : Nat} {az bz : List (List (List Int))} {f g : List Int} {k x y : Nat} (hA : TabsOk n az) (hk : k < az.length) (h : Gd az bz f k x y) (hg : Goes n f g) (hx : x < n) (hy : y < n) (fx : 0 ≤ ix f x) (fy : 0 ≤ ix f y) : Gd az bz g k x y := by
  obtain ⟨h1, h2⟩ := h
  have hb := hA.bd hk hx hy
  have e := hg.2 _ hb.2 h1
  unfold Gd
  rw [e, hg.2 x hx fx, hg.2 y hy fy]
  exact ⟨h1, h2⟩
/-- what assigning v to x has led to: f and s turned to f' and s' -/
structure AsgR (n : Nat) (az bz : List (List (List Int))) (f s : List Int) (x v : Nat) (r : Bool) (f' s' : List Int) : Prop where
  part : PartOk n f' s'
  goes : Goes n f f'
  more : ∃ l, s' = s ++ l
  new : ix f x < 0 → hasB f v = false → ∃ l, s' = s ++ [(x : Int)] ++ l
  here : r = true → ix f' x = (v : Int)
  good : r = true → ∀ a, a < n → ∀ b, b < n → ix f a < 0 → 0 ≤ ix f' a → 0 ≤ ix f' b → ∀ k, k < az.length → Gd az bz f' k a b ∧ Gd az bz f' k b a
  ext : r = true → ∀ p, IsoOk n az bz p → ExtP f p → ix p x = (v : Int) → ExtP f' p
  no : r = false → ∀ p, IsoOk n az bz p → ExtP f p → ix p x ≠ (v : Int)
theorem AsgR.old {n : Nat} {az bz : List (List (List Int))} {f s : List Int} {x v : Nat} (h : PartOk n f s) (hx : x < n) (hf : 0 ≤ ix f x) : AsgR n az bz f s x v (decide (ix f x = (v : Int))) f s where
  part := h
  goes := Goes.refl h.len
  more := ⟨[], by simp⟩
  new := fun h _ => by omega
  here := fun e => by simpa using e
  good := fun _ a _ b _ h1 h2 => by omega
  ext := fun _ p _ he _ => he
  no := fun e p _ he h2 => by
    have e1 := he x (by rw [h.len]; exact hx) hf
    have : ¬ ix f x = (v : Int) := by simpa using e
    omega
theorem AsgR.used {n : Nat} {az bz : List (List (List Int))} {f s : List Int} {x v : Nat} (h : PartOk n f s) (hx : x < n) (hf : ix f x < 0) (hu : hasB f v = true) : AsgR n az bz f s x v false f s where
  part := h
  goes := Goes.refl h.len
  more := ⟨[], by simp⟩
  new := fun _ h => by rw [hu] at h; cases h
  here := fun e => by cases e
  good := fun e => by cases e
  ext := fun e => by cases e
  no := fun _ p hp he => by
    obtain ⟨y, hy, e⟩ := hasB_has.1 hu
    exact used_no h.len hp he hx (by rw [← h.len]; exact hy) hf (by omega) e
/-- within the loops: f1 and s1 are what f and s have become -/
structure Lp (n : Nat) (az bz : List (List (List Int))) (f s : List Int) (x v : Nat) (f1 s1 : List Int) (P : Nat → Nat → Nat → Prop) : Prop where
  part : PartOk n f1 s1
  goes : Goes n f f1
  more : ∃ l, s1 = s ++ [(x : Int)] ++ l
  here : ix f1 x = (v : Int)
  good : ∀ a, a < n → ∀ b, b < n → ix f a < 0 → a ≠ x → 0 ≤ ix f1 a → 0 ≤ ix f1 b → ∀ k, k < az.length → Gd az bz f1 k a b ∧ Gd az bz f1 k b a
  done : ∀ k a b, P k a b → k < az.length ∧ a < n ∧ b < n ∧ 0 ≤ ix f1 a ∧ 0 ≤ ix f1 b ∧ Gd az bz f1 k a b
  ext : ∀ p, IsoOk n az bz p → ExtP f p → ix p x = (v : Int) → ExtP f1 p
theorem Lp.start {n : Nat} {az bz : List (List (List Int))} {f s : List Int} {x v : Nat} (h : PartOk n f s) (hx : x < n) (hv : v < n) (hf : ix f x < 0) (hu : hasB f v = false) : Lp n az bz f s x v (f.set x (v : Int)) (s ++ [(x : Int)]) (fun _ _ _ => False) where
  part := h.set hx hv hf fun y hy e => by
    have := hasB_has.2 ⟨y, by rw [h.len]; exact hy, e⟩
    rw [hu] at this; cases this
  goes := goes_set h.len hf
  more := ⟨[], by simp⟩
  here := ix_set_same _ _ _ (by rw [h.len]; exact hx)
  good := fun a ha b hb h1 hne h2 => by
    rw [ix_set_other _ _ _ _ hne] at h2; omega
  done := fun _ _ _ e => e.elim
  ext := fun p _ he e => (extP_set (by rw [h.len]; exact hx) hf (by omega)).1 ⟨he, e⟩
theorem Lp.mono {n : Nat} {az bz : List (List (List Int))} {f s : List Int} {x v : Nat} {f1 s1 : List Int} {P P' : Nat → Nat → Nat → Prop} (h : Lp n az bz f s x v f1 s1 P) (hp : ∀ k a b, P' k a b → P k a b) : Lp n az bz f s x v f1 s1 P' where
  part := h.part
  goes := h.goes
  more := h.more
  here := h.here
  good := h.good
  done := fun k a b e => h.done k a b (hp k a b e)
  ext := h.ext
/-- a pair's value has been assigned -/
theorem Lp.call {n : Nat} {az bz : List (List (List Int))} {f s : List Int} {x v : Nat} {f1 s1 f2 s2 : List Int} {P : Nat → Nat → Nat → Prop} (hA : TabsOk n az) (h : Lp n az bz f s x v f1 s1 P) {k a b x' v' : Nat} (hk : k < az.length) (ha : a < n) (hb : b < n) (h1 : 0 ≤ ix f1 a) (h2 : 0 ≤ ix f1 b)
    (ex : ent (tab az k) a b = (x' : Int)) (ev : ent (tab bz k) (ix f1 a).toNat (ix f1 b).toNat = (v' : Int)) (g : AsgR n az bz f1 s1 x' v' true f2 s2) : Lp n az bz f s x v f2 s2 (fun k' a' b' => P k' a' b' ∨ (k' = k ∧ a' = a ∧ b' = b)) where
  part := g.part
  goes := h.goes.trans g.goes
  more := by
    obtain ⟨l, e⟩ := h.more
    obtain ⟨m, e2⟩ := g.more
    exact ⟨l ++ m, by rw [e2, e]; simp⟩
  here := by
    have hxn : x < n := by
      obtain ⟨l, e⟩ := h.more
      have hm : (x : Int) ∈ s1 := by rw [e]; simp
      obtain ⟨i, hi, e2⟩ := mem_ix hm
      have := h.part.bd i hi
      omega
    rw [g.goes.2 x hxn (by rw [h.here]; omega)]; exact h.here
  good := fun c hc d hd hn hne hc2 hd2 q hq => by
    by_cases g1 : 0 ≤ ix f1 c
    · by_cases g2 : 0 ≤ ix f1 d
      · obtain ⟨r1, r2⟩ := h.good c hc d hd hn hne g1 g2 q hq
        exact ⟨r1.goes hA hq g.goes hc hd g1 g2, r2.goes hA hq g.goes hd hc g2 g1⟩
      · obtain ⟨r1, r2⟩ := g.good rfl d hd c hc (by omega) hd2 hc2 q hq
        exact ⟨r2, r1⟩
    · exact g.good rfl c hc d hd (by omega) hc2 hd2 q hq
  done := fun k' a' b' e => by
    rcases e with e | ⟨rfl, rfl, rfl⟩
    · obtain ⟨d1, d2, d3, d4, d5, d6⟩ := h.done k' a' b' e
      refine ⟨d1, d2, d3, ?_, ?_, d6.goes hA d1 g.goes d2 d3 d4 d5⟩
      · rw [g.goes.2 a' d2 d4]; exact d4
      · rw [g.goes.2 b' d3 d5]; exact d5
    · have e1 := g.goes.2 a' ha h1
      have e2 := g.goes.2 b' hb h2
      refine ⟨hk, ha, hb, by rw [e1]; exact h1, by rw [e2]; exact h2, ?_⟩
      unfold Gd
      rw [ex, e1, e2, ev, Int.toNat_natCast, g.here rfl]
      exact ⟨by omega, rfl⟩
  ext := fun p hp he e => by
    have h3 := h.ext p hp he e
    refine g.ext rfl p hp h3 ?_
    have h4 := ext_follows h.part.len hp h3 ha hb h1 h2 hk
    rw [ex, ev, Int.toNat_natCast] at h4
    exact h4
theorem Lp.no {n : Nat} {az bz : List (List (List Int))} {f s : List Int} {x v : Nat} {f1 s1 f2 s2 : List Int} {P : Nat → Nat → Nat → Prop} (h : Lp n az bz f s x v f1 s1 P) {k a b x' v' : Nat} (hk : k < az.length) (ha : a < n) (hb : b < n) (h1 : 0 ≤ ix f1 a) (h2 : 0 ≤ ix f1 b)
    (ex : ent (tab az k) a b = (x' : Int)) (ev : ent (tab bz k) (ix f1 a).toNat (ix f1 b).toNat = (v' : Int)) (g : AsgR n az bz f1 s1 x' v' false f2 s2) : AsgR n az bz f s x v false f2 s2 where
  part := g.part
  goes := h.goes.trans g.goes
  more := by
    obtain ⟨l, e⟩ := h.more
    obtain ⟨m, e2⟩ := g.more
    exact ⟨[(x : Int)] ++ l ++ m, by rw [e2, e]; simp⟩
  new := fun _ _ => by
    obtain ⟨l, e⟩ := h.more
    obtain ⟨m, e2⟩ := g.more
    exact ⟨l ++ m, by rw [e2, e]; simp⟩
  here := fun e => by cases e
  good := fun e => by cases e
  ext := fun e => by cases e
  no := fun _ p hp he e => by
    have h3 := h.ext p hp he e
    refine g.no rfl p hp h3 ?_
    have h4 := ext_follows h.part.len hp h3 ha hb h1 h2 hk
    rw [ex, ev, Int.toNat_natCast] at h4
    exact h4
theorem Lp.fin {n : Nat} {az bz : List (List (List Int))} {f s : List Int} {x v : Nat} {f1 s1 : List Int} {P : Nat → Nat → Nat → Prop} (h : Lp n az bz f s x v f1 s1 P) (hall : ∀ k, k < az.length → ∀ j, j < s1.length → P k x (ix s1 j).toNat ∧ P k (ix s1 j).toNat x) : AsgR n az bz f s x v true f1 s1 where
  part := h.part
  goes := h.goes
  more := by
    obtain ⟨l, e⟩ := h.more
    exact ⟨[(x : Int)] ++ l, by rw [e]; simp⟩
  new := fun _ _ => h.more
  here := fun _ => h.here
  good := fun _ a ha b hb hn ha2 hb2 k hk => by
    by_cases e : a = x
    · subst e
      obtain ⟨j, hj, e2⟩ := mem_ix ((h.part.mem b hb).2 hb2)
      have := hall k hk j hj
      rw [e2, Int.toNat_natCast] at this
      exact ⟨(h.done _ _ _ this.1).2.2.2.2.2, (h.done _ _ _ this.2).2.2.2.2.2⟩
    · exact h.good a ha b hb hn e ha2 hb2 k hk
  ext := fun _ => h.ext
  no := fun e => by cases e
/-- the pairs done: x with the first i elements, at all tables; with y at the first kk tables, and one way at the next perhaps -/
def PrO (az : List (List (List Int))) (x i : Nat) (s1 : List Int) (k a b : Nat) : Prop := k < az.length ∧ ∃ j, j < i ∧ ((a = x ∧ b = (ix s1 j).toNat) ∨ (b = x ∧ a = (ix s1 j).toNat))
def PrI (az : List (List (List Int))) (x i : Nat) (s1 : List Int) (y kk k a b : Nat) : Prop := PrO az x i s1 k a b ∨ (k < kk ∧ ((a = x ∧ b = y) ∨ (b = x ∧ a = y)))
theorem prO_app {az : List (List (List Int))} {x i : Nat} {s1 l : List Int} {k a b : Nat} (hi : i ≤ s1.length) (h : PrO az x i (s1 ++ l) k a b) : PrO az x i s1 k a b := by
  obtain ⟨h0, j, hj, h⟩ := h
  rw [ix_app (by omega)] at h
  exact ⟨h0, j, hj, h⟩
theorem prO_succ {az : List (List (List Int))} {x i : Nat} {s1 : List Int} {k a b y : Nat} (hy : (ix s1 i).toNat = y) (h : PrO az x (i + 1) s1 k a b) : PrI az x i s1 y az.length k a b := by
  obtain ⟨h0, j, hj, h⟩ := h
  by_cases e : j < i
  · exact .inl ⟨h0, j, e, h⟩
  · have : j = i := by omega
    subst this
    rw [hy] at h
    exact .inr ⟨h0, h⟩
end Go.Proofs.Ytjhfieegkgndfaa

/-
  Assigning as a function of plain lists.
-/
namespace Go.Proofs.Ytjhfieegkgndfaa
set_option linter.unusedVariables false
set_option linter.unusedSimpArgs false

/-- whether it went well, the map, its elements -/
abbrev ARes := Bool × List Int × List Int
/-- the calls for the element y at m tables from k on -/
def tabsL (call : List Int → List Int → Nat → Nat → ARes) (az bz : List (List (List Int))) (x v y : Nat) : Nat → Nat → List Int → List Int → ARes
  | 0, _, f, s => (true, f, s)
  | m + 1, k, f, s =>
    let p := call f s (ent (tab az k) x y).toNat (ent (tab bz k) v (ix f y).toNat).toNat
    if p.1 then
      let q := call p.2.1 p.2.2 (ent (tab az k) y x).toNat (ent (tab bz k) (ix p.2.1 y).toNat v).toNat
      if q.1 then tabsL call az bz x v y m (k + 1) q.2.1 q.2.2 else q
    else p
def asgE (call : List Int → List Int → Nat → Nat → ARes) (az bz : List (List (List Int))) (x v : Nat) : Nat → Nat → List Int → List Int → ARes
  | 0, _, f, s => (true, f, s)
  | m + 1, i, f, s => if i < s.length then
      let p := tabsL call az bz x v (ix s i).toNat az.length 0 f s
      if p.1 then asgE call az bz x v m (i + 1) p.2.1 p.2.2 else p
    else (true, f, s)
def asgF (n : Nat) (az bz : List (List (List Int))) : Nat → List Int → List Int → Nat → Nat → ARes
  | 0, f, s, x, v => (decide (ix f x = (v : Int)), f, s)
  | d + 1, f, s, x, v => if 0 ≤ ix f x then (decide (ix f x = (v : Int)), f, s) else if hasB f v then (false, f, s) else asgE (asgF n az bz d) az bz x v n 0 (f.set x (v : Int)) (s ++ [(x : Int)])

section
variable {call : List Int → List Int → Nat → Nat → ARes} {az bz : List (List (List Int))} {x v y m k i : Nat} {f s : List Int}
theorem tabsL_zero : tabsL call az bz x v y 0 k f s = (true, f, s) := rfl
theorem tabsL_one {x1 v1 : Nat} {f1 s1 : List Int} (ex : ent (tab az k) x y = (x1 : Int)) (ev : ent (tab bz k) v (ix f y).toNat = (v1 : Int)) (h : call f s x1 v1 = (false, f1, s1)) : tabsL call az bz x v y (m + 1) k f s = (false, f1, s1) := by
  have : (ent (tab az k) x y).toNat = x1 := by omega
  have e2 : (ent (tab bz k) v (ix f y).toNat).toNat = v1 := by omega
  simp [tabsL, this, e2, h]
theorem tabsL_two {x1 v1 x2 v2 : Nat} {f1 s1 f2 s2 : List Int} (ex : ent (tab az k) x y = (x1 : Int)) (ev : ent (tab bz k) v (ix f y).toNat = (v1 : Int)) (h : call f s x1 v1 = (true, f1, s1)) (ex2 : ent (tab az k) y x = (x2 : Int)) (ev2 : ent (tab bz k) (ix f1 y).toNat v = (v2 : Int)) (h2 : call f1 s1 x2 v2 = (false, f2, s2)) : tabsL call az bz x v y (m + 1) k f s = (false, f2, s2) := by
  have e1 : (ent (tab az k) x y).toNat = x1 := by omega
  have e2 : (ent (tab bz k) v (ix f y).toNat).toNat = v1 := by omega
  have e3 : (ent (tab az k) y x).toNat = x2 := by omega
  have e4 : (ent (tab bz k) (ix f1 y).toNat v).toNat = v2 := by omega
  simp [tabsL, e1, e2, h, e3, e4, h2]
theorem tabsL_go {x1 v1 x2 v2 : Nat} {f1 s1 f2 s2 : List Int} (ex : ent (tab az k) x y = (x1 : Int)) (ev : ent (tab bz k) v (ix f y).toNat = (v1 : Int)) (h : call f s x1 v1 = (true, f1, s1)) (ex2 : ent (tab az k) y x = (x2 : Int)) (ev2 : ent (tab bz k) (ix f1 y).toNat v = (v2 : Int)) (h2 : call f1 s1 x2 v2 = (true, f2, s2)) : tabsL call az bz x v y (m + 1) k f s = tabsL call az bz x v y m (k + 1) f2 s2 := by
  have e1 : (ent (tab az k) x y).toNat = x1 := by omega
  have e2 : (ent (tab bz k) v (ix f y).toNat).toNat = v1 := by omega
  have e3 : (ent (tab az k) y x).toNat = x2 := by omega
  have e4 : (ent (tab bz k) (ix f1 y).toNat v).toNat = v2 := by omega
  simp [tabsL, e1, e2, h, e3, e4, h2]
/-- what is left of the round for an element, and of the loop behind it -/
def contL (call : List Int → List Int → Nat → Nat → ARes) (az bz : List (List (List Int))) (x v m i : Nat) (p : ARes) : ARes := if p.1 then asgE call az bz x v m (i + 1) p.2.1 p.2.2 else p
theorem asgE_zero : asgE call az bz x v 0 i f s = (true, f, s) := rfl
theorem asgE_end (h : ¬ i < s.length) : asgE call az bz x v m i f s = (true, f, s) := by
  cases m with
  | zero => rfl
  | succ m => simp [asgE, h]
theorem asgE_go (h : i < s.length) : asgE call az bz x v (m + 1) i f s = contL call az bz x v m i (tabsL call az bz x v (ix s i).toNat az.length 0 f s) := by simp [asgE, contL, h]
theorem contL_go : contL call az bz x v m i (true, f, s) = asgE call az bz x v m (i + 1) f s := rfl
theorem contL_no : contL call az bz x v m i (false, f, s) = (false, f, s) := rfl
end

theorem asgF_old {n d : Nat} {az bz : List (List (List Int))} {f s : List Int} {x v : Nat} (h : 0 ≤ ix f x) : asgF n az bz d f s x v = (decide (ix f x = (v : Int)), f, s) := by
  cases d with
  | zero => rfl
  | succ d => simp [asgF, h]
theorem asgF_used {n d : Nat} {az bz : List (List (List Int))} {f s : List Int} {x v : Nat} (h : ix f x < 0) (hu : hasB f v = true) : asgF n az bz (d + 1) f s x v = (false, f, s) := by
  have : ¬ 0 ≤ ix f x := by omega
  simp [asgF, this, hu]
theorem asgF_go {n d : Nat} {az bz : List (List (List Int))} {f s : List Int} {x v : Nat} (h : ix f x < 0) (hu : hasB f v = false) : asgF n az bz (d + 1) f s x v = asgE (asgF n az bz d) az bz x v n 0 (f.set x (v : Int)) (s ++ [(x : Int)]) := by
  have : ¬ 0 ≤ ix f x := by omega
  simp [asgF, this, hu]

/-- what a call with d steps to go gives -/
def CallOk (n : Nat) (az bz : List (List (List Int))) (d : Nat) (call : List Int → List Int → Nat → Nat → ARes) : Prop :=
  ∀ f s x v r f' s', n - s.length ≤ d → PartOk n f s → x < n → v < n → call f s x v = (r, f', s') → AsgR n az bz f s x v r f' s'

theorem PartOk.full {n : Nat} {f s : List Int} (h : PartOk n f s) (hl : n ≤ s.length) {x : Nat} (hx : x < n) : 0 ≤ ix f x := by
  have hp := (pigeon s (intRange n) h.nodup (fun z hz => by
    obtain ⟨i, hi, e⟩ := mem_ix hz
    have := h.bd i hi
    rw [mem_intRange]; omega) (by simpa [intRange] using hl)).1
  exact (h.mem x hx).1 (hp _ (mem_intRange.2 (by omega)))
theorem Lp.len {n : Nat} {az bz : List (List (List Int))} {f s : List Int} {x v : Nat} {f1 s1 : List Int} {P : Nat → Nat → Nat → Prop} (h : Lp n az bz f s x v f1 s1 P) : s.length + 1 ≤ s1.length := by
  obtain ⟨l, e⟩ := h.more
  rw [e]; simp
theorem Lp.mapped {n : Nat} {az bz : List (List (List Int))} {f s : List Int} {x v : Nat} {f1 s1 : List Int} {P : Nat → Nat → Nat → Prop} (h : Lp n az bz f s x v f1 s1 P) {y : Nat} (hy : y < n) (hm : (y : Int) ∈ s1) : 0 ≤ ix f1 y ∧ (ix f1 y).toNat < n := by
  have h1 := (h.part.mem y hy).1 hm
  have := h.part.rng y hy
  omega
/-- the values of the pairs x, y and y, x -/
structure Two (az bz : List (List (List Int))) (n k x y v q x1 v1 x2 v2 : Nat) : Prop where
  e1 : ent (tab az k) x y = (x1 : Int)
  e2 : ent (tab bz k) v q = (v1 : Int)
  e3 : ent (tab az k) y x = (x2 : Int)
  e4 : ent (tab bz k) q v = (v2 : Int)
  l1 : x1 < n
  l2 : v1 < n
  l3 : x2 < n
  l4 : v2 < n
theorem two_of {n : Nat} {az bz : List (List (List Int))} (hA : TabsOk n az) (hB : TabsOk n bz) {k x y v q : Nat} (hk : k < az.length) (hk2 : k < bz.length) (hx : x < n) (hy : y < n) (hv : v < n) (hq : q < n) : ∃ x1 v1 x2 v2, Two az bz n k x y v q x1 v1 x2 v2 := by
  have h1 := hA.bd hk hx hy
  have h2 := hB.bd hk2 hv hq
  have h3 := hA.bd hk hy hx
  have h4 := hB.bd hk2 hq hv
  exact ⟨_, _, _, _, (Int.toNat_of_nonneg h1.1).symm, (Int.toNat_of_nonneg h2.1).symm, (Int.toNat_of_nonneg h3.1).symm, (Int.toNat_of_nonneg h4.1).symm, h1.2, h2.2, h3.2, h4.2⟩
/-- both calls at table k -/
theorem Lp.both {n d : Nat} {az bz : List (List (List Int))} {f s : List Int} {x v : Nat} {call : List Int → List Int → Nat → Nat → ARes} (hA : TabsOk n az) (hc : CallOk n az bz d call) (hd : n - s.length ≤ d + 1) {f2 s2 s1 l : List Int} {i y k x1 v1 x2 v2 q : Nat}
    (h : Lp n az bz f s x v f2 s2 (PrI az x i s1 y k)) (hx : x < n) (hy : y < n) (hym : (y : Int) ∈ s2) (hk : k < az.length) (hq : ix f2 y = (q : Int)) (ht : Two az bz n k x y v q x1 v1 x2 v2) (hs : s2 = s1 ++ l) :
    (∀ f3 s3, call f2 s2 x1 v1 = (false, f3, s3) → AsgR n az bz f s x v false f3 s3) ∧
    (∀ f3 s3, call f2 s2 x1 v1 = (true, f3, s3) → AsgR n az bz f2 s2 x1 v1 true f3 s3 ∧ ix f3 y = (q : Int) ∧ (∃ l, s3 = s1 ++ l) ∧ PartOk n f3 s3 ∧ n - s3.length ≤ d ∧
      (∀ f4 s4, call f3 s3 x2 v2 = (false, f4, s4) → AsgR n az bz f s x v false f4 s4) ∧
      (∀ f4 s4, call f3 s3 x2 v2 = (true, f4, s4) → Lp n az bz f s x v f4 s4 (PrI az x i s1 y (k + 1)) ∧ ∃ l, s4 = s1 ++ l)) := by
  have hfx : ix f2 x = (v : Int) := h.here
  have hlen := h.len
  have e2 : ent (tab bz k) (ix f2 x).toNat (ix f2 y).toNat = (v1 : Int) := by rw [hfx, hq]; exact ht.e2
  refine ⟨fun f3 s3 e => h.no hk hx hy (by omega) (by omega) ht.e1 e2 (hc _ _ _ _ _ _ _ (by omega) h.part ht.l1 ht.l2 e), fun f3 s3 e => ?_⟩
  have g := hc _ _ _ _ _ _ _ (by omega) h.part ht.l1 ht.l2 e
  have h3 := h.call hA hk hx hy (by omega) (by omega) ht.e1 e2 g
  have e3 : ix f3 y = (q : Int) := by rw [g.goes.2 y hy (by omega)]; exact hq
  have e3x : ix f3 x = (v : Int) := h3.here
  have hlen3 := h3.len
  have e4 : ent (tab bz k) (ix f3 y).toNat (ix f3 x).toNat = (v2 : Int) := by rw [e3, e3x]; exact ht.e4
  obtain ⟨l3, hl3⟩ := g.more
  refine ⟨g, e3, ⟨l ++ l3, by rw [hl3, hs]; simp⟩, h3.part, by omega, fun f4 s4 e' => h3.no hk hy hx (by omega) (by omega) ht.e3 e4 (hc _ _ _ _ _ _ _ (by omega) h3.part ht.l3 ht.l4 e'), fun f4 s4 e' => ?_⟩
  have g4 := hc _ _ _ _ _ _ _ (by omega) h3.part ht.l3 ht.l4 e'
  have h4 := h3.call hA hk hy hx (by omega) (by omega) ht.e3 e4 g4
  obtain ⟨l4, hl4⟩ := g4.more
  refine ⟨h4.mono fun k' a b hp => ?_, l ++ l3 ++ l4, by rw [hl4, hl3, hs]; simp⟩
  rcases hp with hp | ⟨hk', hp⟩
  · exact .inl (.inl (.inl hp))
  · by_cases e : k' < k
    · exact .inl (.inl (.inr ⟨e, hp⟩))
    · have : k' = k := by omega
      rcases hp with ⟨ha, hb⟩ | ⟨hb, ha⟩
      · exact .inl (.inr ⟨this, ha, hb⟩)
      · exact .inr ⟨this, ha, hb⟩
theorem tabs_ok {n d : Nat} {az bz : List (List (List Int))} {f s : List Int} {x v : Nat} {call : List Int → List Int → Nat → Nat → ARes} (hA : TabsOk n az) (hB : TabsOk n bz) (hab : az.length = bz.length) (hc : CallOk n az bz d call) (hd : n - s.length ≤ d + 1) (hx : x < n) (hv : v < n) {s1 : List Int} {i y : Nat} (hy : y < n) (hym : (y : Int) ∈ s1) :
    ∀ (m k : Nat) (f2 s2 l : List Int), m + k = az.length → Lp n az bz f s x v f2 s2 (PrI az x i s1 y k) → s2 = s1 ++ l → ∀ r f3 s3, tabsL call az bz x v y m k f2 s2 = (r, f3, s3) →
      (r = true → Lp n az bz f s x v f3 s3 (PrI az x i s1 y az.length) ∧ ∃ l, s3 = s1 ++ l) ∧ (r = false → AsgR n az bz f s x v false f3 s3)
  | 0, k, f2, s2, l, hk, h, hs, r, f3, s3, e => by
    rw [tabsL_zero] at e
    simp only [Prod.mk.injEq] at e
    obtain ⟨rfl, rfl, rfl⟩ := e
    obtain rfl : k = az.length := by omega
    exact ⟨fun _ => ⟨h, l, hs⟩, fun e => by cases e⟩
  | m + 1, k, f2, s2, l, hk, h, hs, r, f3, s3, e => by
    have hym2 : (y : Int) ∈ s2 := by rw [hs]; simp [hym]
    obtain ⟨q, hq⟩ : ∃ q : Nat, ix f2 y = (q : Int) := ⟨_, (Int.toNat_of_nonneg (h.mapped hy hym2).1).symm⟩
    have hqn : q < n := by have := (h.mapped hy hym2).2; omega
    obtain ⟨x1, v1, x2, v2, ht⟩ := two_of hA hB (k := k) (by omega) (by omega) hx hy hv hqn
    obtain ⟨b1, b2⟩ := h.both hA hc hd hx hy hym2 (by omega) hq ht hs
    have ev : ent (tab bz k) v (ix f2 y).toNat = (v1 : Int) := by rw [hq]; exact ht.e2
    rcases e1 : call f2 s2 x1 v1 with ⟨r1, f4, s4⟩
    cases r1 with
    | false =>
      rw [tabsL_one ht.e1 ev e1] at e
      simp only [Prod.mk.injEq] at e
      obtain ⟨rfl, rfl, rfl⟩ := e
      exact ⟨fun e => by (cases e), fun _ => b1 _ _ e1⟩
    | true =>
      obtain ⟨g, e3, -, -, -, c1, c2⟩ := b2 _ _ e1
      have ev2 : ent (tab bz k) (ix f4 y).toNat v = (v2 : Int) := by rw [e3]; exact ht.e4
      rcases e2 : call f4 s4 x2 v2 with ⟨r2, f5, s5⟩
      cases r2 with
      | false =>
        rw [tabsL_two ht.e1 ev e1 ht.e3 ev2 e2] at e
        simp only [Prod.mk.injEq] at e
        obtain ⟨rfl, rfl, rfl⟩ := e
        exact ⟨fun e => by (cases e), fun _ => c1 _ _ e2⟩
      | true =>
        rw [tabsL_go ht.e1 ev e1 ht.e3 ev2 e2] at e
        obtain ⟨h5, l5, hl5⟩ := c2 _ _ e2
        exact tabs_ok hA hB hab hc hd hx hv hy hym m (k + 1) f5 s5 l5 (by omega) h5 hl5 r f3 s3 e
/-- the next element's round begins -/
theorem Lp.next {n : Nat} {az bz : List (List (List Int))} {f s : List Int} {x v : Nat} {f1 s1 : List Int} {i y : Nat} (h : Lp n az bz f s x v f1 s1 (PrO az x i s1)) : Lp n az bz f s x v f1 s1 (PrI az x i s1 y 0) := h.mono fun k a b hp => by
  rcases hp with hp | ⟨hk, _⟩
  · exact hp
  · omega
/-- .. is over -/
theorem Lp.over {n : Nat} {az bz : List (List (List Int))} {f s : List Int} {x v : Nat} {f2 s2 s1 l : List Int} {i y : Nat} (h : Lp n az bz f s x v f2 s2 (PrI az x i s1 y az.length)) (hi : i < s1.length) (hy : (ix s1 i).toNat = y) (hs : s2 = s1 ++ l) : Lp n az bz f s x v f2 s2 (PrO az x (i + 1) s2) := h.mono fun k a b hp => by
  rw [hs] at hp
  exact prO_succ hy (prO_app (by omega) hp)
theorem Lp.all {n : Nat} {az bz : List (List (List Int))} {f s : List Int} {x v : Nat} {f1 s1 : List Int} (h : Lp n az bz f s x v f1 s1 (PrO az x s1.length s1)) : AsgR n az bz f s x v true f1 s1 :=
  h.fin fun k hk j hj => ⟨⟨hk, j, hj, .inl ⟨rfl, rfl⟩⟩, ⟨hk, j, hj, .inr ⟨rfl, rfl⟩⟩⟩
theorem Lp.elem {n : Nat} {az bz : List (List (List Int))} {f s : List Int} {x v : Nat} {f1 s1 : List Int} {P : Nat → Nat → Nat → Prop} (h : Lp n az bz f s x v f1 s1 P) {i : Nat} (hi : i < s1.length) : ∃ y : Nat, ix s1 i = (y : Int) ∧ y < n ∧ (y : Int) ∈ s1 := by
  have := h.part.bd i hi
  refine ⟨(ix s1 i).toNat, (Int.toNat_of_nonneg this.1).symm, this.2, ?_⟩
  rw [Int.toNat_of_nonneg this.1]; exact ix_mem s1 i hi
theorem asgE_ok {n d : Nat} {az bz : List (List (List Int))} {f s : List Int} {x v : Nat} {call : List Int → List Int → Nat → Nat → ARes} (hA : TabsOk n az) (hB : TabsOk n bz) (hab : az.length = bz.length) (hc : CallOk n az bz d call) (hd : n - s.length ≤ d + 1) (hx : x < n) (hv : v < n) :
    ∀ (m i : Nat) (f1 s1 : List Int), n ≤ m + i → i ≤ s1.length → Lp n az bz f s x v f1 s1 (PrO az x i s1) → ∀ r f3 s3, asgE call az bz x v m i f1 s1 = (r, f3, s3) → AsgR n az bz f s x v r f3 s3
  | m, i, f1, s1, hm, hi, h, r, f3, s3, e => by
    by_cases hil : i < s1.length
    · have hle := h.part.le
      cases m with
      | zero => omega
      | succ m =>
        obtain ⟨y, hy, hyn, hym⟩ := h.elem hil
        have hyt : (ix s1 i).toNat = y := by omega
        rw [asgE_go hil, hyt] at e
        rcases e1 : tabsL call az bz x v y az.length 0 f1 s1 with ⟨r1, f4, s4⟩
        obtain ⟨g1, g2⟩ := tabs_ok hA hB hab hc hd hx hv hyn hym az.length 0 f1 s1 [] (by omega) h.next (by simp) _ _ _ e1
        rw [e1] at e
        cases r1 with
        | false =>
          rw [contL_no] at e
          simp only [Prod.mk.injEq] at e
          obtain ⟨rfl, rfl, rfl⟩ := e
          exact g2 rfl
        | true =>
          rw [contL_go] at e
          obtain ⟨h4, l4, hl4⟩ := g1 rfl
          exact asgE_ok hA hB hab hc hd hx hv m (i + 1) f4 s4 (by omega) (by rw [hl4]; simp; omega) (h4.over hil hyt hl4) r f3 s3 e
    · rw [asgE_end hil] at e
      simp only [Prod.mk.injEq] at e
      obtain ⟨rfl, rfl, rfl⟩ := e
      obtain rfl : i = s1.length := by omega
      exact h.all
theorem asgF_ok {n : Nat} {az bz : List (List (List Int))} (hA : TabsOk n az) (hB : TabsOk n bz) (hab : az.length = bz.length) : ∀ d, CallOk n az bz d (asgF n az bz d)
  | 0, f, s, x, v, r, f', s', hd, hp, hx, hv, e => by
    have h0 := hp.full (by omega) hx
    rw [asgF_old h0] at e
    simp only [Prod.mk.injEq] at e
    obtain ⟨rfl, rfl, rfl⟩ := e
    exact AsgR.old hp hx h0
  | d + 1, f, s, x, v, r, f', s', hd, hp, hx, hv, e => by
    by_cases h0 : 0 ≤ ix f x
    · rw [asgF_old h0] at e
      simp only [Prod.mk.injEq] at e
      obtain ⟨rfl, rfl, rfl⟩ := e
      exact AsgR.old hp hx h0
    · cases hu : hasB f v with
      | true =>
        rw [asgF_used (by omega) hu] at e
        simp only [Prod.mk.injEq] at e
        obtain ⟨rfl, rfl, rfl⟩ := e
        exact AsgR.used hp hx (by omega) hu
      | false =>
        rw [asgF_go (by omega) hu] at e
        exact asgE_ok hA hB hab (asgF_ok hA hB hab d) (by omega) hx hv n 0 _ _ (by omega) (by omega) ((Lp.start hp hx hv (by omega) hu).mono fun k a b hp => by
          obtain ⟨_, j, hj, _⟩ := hp
          omega) r f' s' e
attribute [irreducible] asgF tabsL asgE contL
end Go.Proofs.Ytjhfieegkgndfaa

/-
  The search by partial maps: plain.
-/
namespace Go.Proofs.Ytjhfieegkgndfaa
set_option linter.unusedVariables false
set_option linter.unusedSimpArgs false

theorem AsgR.iff {n : Nat} {az bz : List (List (List Int))} {f s f' s' : List Int} {x v : Nat} (hf : PartOk n f s) (hx : x < n) (h : AsgR n az bz f s x v true f' s') (p : List Int) (hp : IsoOk n az bz p) : (ExtP f p ∧ ix p x = (v : Int)) ↔ ExtP f' p := by
  constructor
  · rintro ⟨h1, h2⟩; exact h.ext rfl p hp h1 h2
  · intro h1
    refine ⟨fun i hi h0 => ?_, ?_⟩
    · rw [hf.len] at hi
      have e := h.goes.2 i hi h0
      have := h1 i (by rw [h.part.len]; exact hi) (by omega)
      omega
    · have := h.here rfl
      rw [h1 x (by rw [h.part.len]; exact hx) (by omega), this]
theorem extL_yes {n : Nat} {az bz : List (List (List Int))} {f s f' s' : List Int} {x v : Nat} (hf : PartOk n f s) (hx : x < n) (h : AsgR n az bz f s x v true f' s') : ((extL n az bz f).filter fun p => decide (ix p x = (v : Int))) = extL n az bz f' := extL_at fun p hp => h.iff hf hx p hp
theorem extL_no {n : Nat} {az bz : List (List (List Int))} {f s f' s' : List Int} {x v : Nat} (h : AsgR n az bz f s x v false f' s') : ((extL n az bz f).filter fun p => decide (ix p x = (v : Int))) = [] := by
  rw [List.filter_eq_nil_iff]
  intro p hp
  obtain ⟨h1, h2⟩ := mem_extL.1 hp
  have := h.no rfl p h1 h2
  simpa using this
theorem extL_used {n : Nat} {az bz : List (List (List Int))} {f s : List Int} {x v : Nat} (hf : PartOk n f s) (hx : x < n) (h0 : ix f x < 0) (hu : hasB f v = true) : ((extL n az bz f).filter fun p => decide (ix p x = (v : Int))) = [] := extL_no (AsgR.used (az := az) (bz := bz) hf hx h0 hu)
theorem good_next {n : Nat} {az bz : List (List (List Int))} {f s f' s' : List Int} {x v : Nat} (hA : TabsOk n az) (hg : GoodAll az bz n f) (h : AsgR n az bz f s x v true f' s') : GoodAll az bz n f' := fun a ha b hb h1 h2 => by
  by_cases g1 : 0 ≤ ix f a
  · by_cases g2 : 0 ≤ ix f b
    · exact (hg a ha b hb g1 g2).goes hA h.goes ha hb g1 g2
    · exact fun k hk => (h.good rfl b hb a ha (by omega) h2 h1 k hk).2
  · exact fun k hk => (h.good rfl a ha b hb (by omega) h1 h2 k hk).1
theorem whole_one {n : Nat} {az bz : List (List (List Int))} {f s : List Int} (hf : PartOk n f s) (hg : GoodAll az bz n f) (h : indexOf f (-1) = -1) : IsoOk n az bz f ∧ extL n az bz f = [f] := by
  have hi : IsoOk n az bz f := iso_of_good hf (fun x hx => by
    rcases indexOf_spec f (-1) with ⟨_, hn⟩ | ⟨i, _, e, _⟩
    · have h1 := hn x (by rw [hf.len]; exact hx)
      have := (hf.rng x hx).1
      omega
    · omega) hg
  exact ⟨hi, extL_one hi⟩
theorem first_unset {n : Nat} {f s : List Int} (hf : PartOk n f s) (h : indexOf f (-1) ≠ -1) : ∃ x : Nat, x < n ∧ indexOf f (-1) = (x : Int) ∧ ix f x = -1 ∧ ∀ i, i < x → 0 ≤ ix f i := by
  rcases indexOf_spec f (-1) with ⟨e, _⟩ | ⟨x, hx, e, e2, hn⟩
  · exact absurd e h
  · rw [hf.len] at hx
    refine ⟨x, hx, e, e2, fun i hi => ?_⟩
    have h1 := hn i hi
    have := (hf.rng i (by omega)).1
    omega
theorem prefix_part {α : Type} {xs a b c L : List α} (h : xs ++ (a ++ b ++ c) <+: L) : (xs ++ a) ++ b <+: L := by
  obtain ⟨r, e⟩ := h
  exact ⟨c ++ r, by rw [← e]; simp⟩
theorem prefix_app {α : Type} {q b a c : List α} (h : q <+: b) : a ++ q <+: a ++ b ++ c := by
  obtain ⟨r, e⟩ := h
  exact ⟨r ++ c, by rw [← e]; simp⟩
end Go.Proofs.Ytjhfieegkgndfaa

/-
  What GroupIsomorphism and BraceIsomorphism return: plain.
-/
namespace Go.Proofs.Ytjhfieegkgndfaa
set_option linter.unusedVariables false
set_option linter.unusedSimpArgs false

@[irreducible] noncomputable def gisoV (t u : List (List Int)) : List Int := if groupB t = true ∧ groupB u = true then isoF [t] [u] else []
@[irreducible] noncomputable def gisoC (t u : List (List Int)) : Int := if groupB t = true ∧ groupB u = true then (if isoF [t] [u] = [] then 4 else 0) else 1
theorem giso_1 {t u : List (List Int)} (h : ¬ (groupB t = true ∧ groupB u = true)) : gisoV t u = [] ∧ gisoC t u = 1 := by
  unfold gisoV gisoC; rw [if_neg h, if_neg h]; exact ⟨rfl, rfl⟩
theorem giso_2 {t u : List (List Int)} (h : groupB t = true ∧ groupB u = true) (h2 : isoF [t] [u] = []) : gisoV t u = [] ∧ gisoC t u = 4 := by
  unfold gisoV gisoC; rw [if_pos h, if_pos h, if_pos h2, h2]; exact ⟨rfl, rfl⟩
theorem giso_3 {t u : List (List Int)} (h : groupB t = true ∧ groupB u = true) (h2 : ¬ isoF [t] [u] = []) : gisoV t u = isoF [t] [u] ∧ gisoC t u = 0 := by
  unfold gisoV gisoC; rw [if_pos h, if_pos h, if_neg h2]; exact ⟨rfl, rfl⟩
@[irreducible] noncomputable def bisoV (t u a d : List (List Int)) : List Int := if braceB t u = true ∧ braceB a d = true then isoF [t, u] [a, d] else []
@[irreducible] noncomputable def bisoC (t u a d : List (List Int)) : Int := if braceB t u = true ∧ braceB a d = true then (if isoF [t, u] [a, d] = [] then 4 else 0) else 1
theorem biso_1 {t u a d : List (List Int)} (h : ¬ (braceB t u = true ∧ braceB a d = true)) : bisoV t u a d = [] ∧ bisoC t u a d = 1 := by
  unfold bisoV bisoC; rw [if_neg h, if_neg h]; exact ⟨rfl, rfl⟩
theorem biso_2 {t u a d : List (List Int)} (h : braceB t u = true ∧ braceB a d = true) (h2 : isoF [t, u] [a, d] = []) : bisoV t u a d = [] ∧ bisoC t u a d = 4 := by
  unfold bisoV bisoC; rw [if_pos h, if_pos h, if_pos h2, h2]; exact ⟨rfl, rfl⟩
theorem biso_3 {t u a d : List (List Int)} (h : braceB t u = true ∧ braceB a d = true) (h2 : ¬ isoF [t, u] [a, d] = []) : bisoV t u a d = isoF [t, u] [a, d] ∧ bisoC t u a d = 0 := by
  unfold bisoV bisoC; rw [if_pos h, if_pos h, if_neg h2]; exact ⟨rfl, rfl⟩
/-- what the reference's list of one map holds -/
theorem biso_cases {t u a d : List (List Int)} (h : GroupOk t) : ((if t.length = a.length then (isoL t.length [t, u] [a, d]).take 1 else []) = [] ∧ isoF [t, u] [a, d] = []) ∨
    ∃ p, (if t.length = a.length then (isoL t.length [t, u] [a, d]).take 1 else []) = [p] ∧ isoF [t, u] [a, d] = p ∧ 0 < p.length := by
  by_cases hl : t.length = a.length
  · rw [if_pos hl]
    cases hi : isoL t.length [t, u] [a, d] with
    | nil => exact .inl ⟨rfl, isoF_nil (n := t.length) (by rw [tab_two0]) hi⟩
    | cons p r => exact .inr ⟨p, rfl, isoF_cons (n := t.length) (by rw [tab_two0]) (by rw [tab_two0]; exact hl.symm) hi, (isoF_ne h.1.1 hi).2⟩
  · rw [if_neg hl]
    exact .inl ⟨rfl, isoF_len (by rw [tab_two0, tab_two0]; exact hl)⟩
end Go.Proofs.Ytjhfieegkgndfaa
