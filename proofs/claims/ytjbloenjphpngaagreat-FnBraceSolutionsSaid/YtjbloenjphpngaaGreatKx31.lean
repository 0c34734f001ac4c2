/-
  From the reading of an argument of bytes to what the walks are told of it.
-/
import Derived.ProofKit
import Derived.OpenShut
import Derived.ChangeSlices
import Derived.Deep.Matrix
import Derived.Lib.SmallJoins
import Derived.Test.YtjbloenjphpngaaGreatKx0
import Derived.Test.YtjbloenjphpngaaGreatKx1
import Derived.Test.YtjbloenjphpngaaGreatKx25
import Derived.Test.YtjbloenjphpngaaGreatKx4
import Derived.Test.YtjbloenjphpngaaGreatKx5
import Derived.Test.YtjbloenjphpngaaGreatKx8
import Derived.Test.YtjbloenjphpngaaGreatKx3
import Derived.Test.YtjbloenjphpngaaGreatKx22
import Derived.Test.YtjbloenjphpngaaGreatKx9
import Derived.Test.YtjbloenjphpngaaGreatKx30
import Derived.Test.YtjbloenjphpngaaGreatKx27
import Derived.Test.YtjbloenjphpngaaGreatKx29
namespace Go.Proofs.YtjbloenjphpngaaGreat
set_option linter.unusedVariables false
set_option linter.unusedSimpArgs false
open Go.RowKit Go.ChangeShapes Go.WideShapes Go.ChangeAt Go.Joins

theorem bytesR_of_trod {H : Type} {enc : TypeId × Value → H} {P : Program} {w : World} {base : Nat} {held : Bool} {t e : TypeId} {fuel : Nat} {c : Value} {x : DataW H × List MemPlace} (ht : P.underlying t = some (.slice e)) (he : P.underlying e = some (.int .u8)) (ce : P.cellsOf e = 1)
    (h : DataW.trod enc P w base (fun _ => true) held fuel t [c] = some x) : ∃ bs : List Int, BytesR w c bs := by
  rcases open_ints ht he ce h with ⟨hcs, _⟩ | ⟨a, len, cap, zs, hcs, _, hl, hm, hz, _, hcell, hwf⟩
  · simp at hcs
    subst hcs
    exact ⟨[], none, 0, rfl, fun i hi => by simp at hi, fun h => absurd rfl h⟩
  · simp at hcs
    subst hcs
    rw [if_pos rfl] at hz
    have hlen : (zs.take len).length = len := by rw [List.length_take]; omega
    have hix : ∀ i, i < len → ix (zs.take len) i = zs.getD i 0 := fun i hi => by rw [ix_eq]; simp [List.getD, List.getElem?_take, hi]
    refine ⟨zs.take len, some a, cap, by rw [hlen], fun i hi => ?_, fun hne => ?_⟩
    · rw [hlen] at hi
      rw [hix i hi]
      have hm : zs.getD i 0 ∈ zs := by
        rw [List.getD_eq_getElem?_getD, List.getElem?_eq_getElem (by omega)]
        exact List.getElem_mem _
      exact bounds_u8 (hwf _ hm)
    · have hpos : 0 < len := by
        rcases Nat.eq_zero_or_pos len with h0 | h0
        · subst h0; exact absurd (by simp) hne
        · exact h0
      obtain ⟨b, o, rfl, hc⟩ := ints_at hcell (by omega)
      refine ⟨b, o, rfl, fun i hi => ?_⟩
      rw [hlen] at hi
      rw [hix i hi]
      exact hc i (by omega)
end Go.Proofs.YtjbloenjphpngaaGreat

/-
  What FnGroupTables says of a group: plain.
-/
namespace Go.Proofs.YtjbloenjphpngaaGreat
set_option linter.unusedVariables false
set_option linter.unusedSimpArgs false

section
variable {t : List (List Int)} (hG : GroupOk t)
include hG
end
section
variable {t : List (List Int)} (hG : GroupOk t)
include hG
/-- the opposite group -/
theorem opp_group : GroupOk (turnT t) := by
  have hg := grp_of hG
  rw [turnT_def]
  refine group_made (g := fun x y => mulN t y x) hG.1.1 hG.1.2.1 (fun x hx y hy => ?_) (fun x hx y hy => hg.bd y hy x hx) (fun x hx y hy z hz => ?_) (fun x hx => hg.ur x hx) (fun x hx => hg.ul x hx) (fun x hx y hy z hz e => hg.inj_r hx hy hz e)
  · rw [turnF_def]
    have := hG.1.bd (x := y) (y := x) hy hx
    unfold mulN; omega
  · exact (hg.assoc z hz y hy x hx).symm
end
end Go.Proofs.YtjbloenjphpngaaGreat

/-
  Skew braces as two groups on the numbers below n: plain.
-/
namespace Go.Proofs.YtjbloenjphpngaaGreat
set_option linter.unusedVariables false
set_option linter.unusedSimpArgs false

/-- x o (y + z) = x o y - x + x o z -/
structure Skew (n : Nat) (m : Nat → Nat → Nat) (v : Nat → Nat) (c : Nat → Nat → Nat) (d : Nat → Nat) : Prop where
  add : Grp n m v
  cir : Grp n c d
  law : ∀ x, x < n → ∀ y, y < n → ∀ z, z < n → c x (m y z) = m (m (c x y) (v x)) (c x z)
/-- lambda -/
def lamN (m : Nat → Nat → Nat) (v : Nat → Nat) (c : Nat → Nat → Nat) (x y : Nat) : Nat := m (v x) (c x y)
section
variable {n : Nat} {m : Nat → Nat → Nat} {v : Nat → Nat} {c : Nat → Nat → Nat} {d : Nat → Nat} (h : Skew n m v c d)
include h
theorem Skew.lb {x y : Nat} (hx : x < n) (hy : y < n) : lamN m v c x y < n := h.add.bd _ (h.add.vb x hx) _ (h.cir.bd x hx y hy)
theorem Skew.add_lam {x y : Nat} (hx : x < n) (hy : y < n) : m x (lamN m v c x y) = c x y := by
  unfold lamN
  rw [← h.add.assoc x hx _ (h.add.vb x hx) _ (h.cir.bd x hx y hy), h.add.vr x hx, h.add.ul _ (h.cir.bd x hx y hy)]
theorem Skew.lam_add {x y z : Nat} (hx : x < n) (hy : y < n) (hz : z < n) : lamN m v c x (m y z) = m (lamN m v c x y) (lamN m v c x z) := by
  unfold lamN
  have b1 := h.cir.bd x hx y hy
  have b2 := h.cir.bd x hx z hz
  have b3 := h.add.vb x hx
  rw [h.law x hx y hy z hz, ← h.add.assoc _ b3 _ (h.add.bd _ b1 _ b3) _ b2, ← h.add.assoc _ b3 _ b1 _ b3, h.add.assoc _ (h.add.bd _ b3 _ b1) _ b3 _ b2]
theorem Skew.lam_inj {x y z : Nat} (hx : x < n) (hy : y < n) (hz : z < n) (e : lamN m v c x y = lamN m v c x z) : y = z :=
  h.cir.inj_l hx hy hz (h.add.inj_l (h.add.vb x hx) (h.cir.bd x hx y hy) (h.cir.bd x hx z hz) e)
theorem Skew.lam_cir {x y z : Nat} (hx : x < n) (hy : y < n) (hz : z < n) : lamN m v c (c x y) z = lamN m v c x (lamN m v c y z) := by
  have b1 := h.cir.bd x hx y hy
  have b2 := h.lb hy hz
  have b3 := h.add.vb x hx
  have e : c (c x y) z = m (m (c x y) (v x)) (c x (lamN m v c y z)) := by
    rw [h.cir.assoc x hx y hy z hz, ← h.add_lam hy hz, h.law x hx y hy _ b2]
  have b4 := h.cir.bd x hx _ b2
  have b5 := h.add.vb _ b1
  show m (v (c x y)) (c (c x y) z) = m (v x) (c x (lamN m v c y z))
  rw [e, ← h.add.assoc _ b5 _ (h.add.bd _ b1 _ b3) _ b4, ← h.add.assoc _ b5 _ b1 _ b3, h.add.vl _ b1, h.add.ul _ b3]
/-- lambda of 0 is the identity; lambda leaves 0 -/
theorem Skew.lam_zero {y : Nat} (h0 : 0 < n) (hy : y < n) : lamN m v c 0 y = y := by
  have e := h.add_lam h0 hy
  rw [h.add.ul _ (h.lb h0 hy), h.cir.ul y hy] at e
  exact e
theorem Skew.lam_at_zero {x : Nat} (h0 : 0 < n) (hx : x < n) : lamN m v c x 0 = 0 := by
  have e := h.add_lam hx h0
  rw [h.cir.ur x hx] at e
  exact h.add.inj_l hx (h.lb hx h0) h0 (by rw [e, h.add.ur x hx])
end
theorem least_not {P : Nat → Prop} : ∀ (n : Nat), (¬ ∀ x, x < n → P x) → ∃ x, x < n ∧ ¬ P x ∧ ∀ y, y < x → P y
  | 0, h => absurd (fun x hx => by omega) h
  | n + 1, h => by
    by_cases h1 : ∀ x, x < n → P x
    · refine ⟨n, by omega, fun hp => h fun x hx => ?_, h1⟩
      by_cases e : x < n
      · exact h1 x e
      · have : x = n := by omega
        subst this; exact hp
    · obtain ⟨x, h2, h3, h4⟩ := least_not n h1
      exact ⟨x, by omega, h3, h4⟩
theorem noX_of_fault {t u : List (List Int)} (hf : faultL t u = []) : NoX t u t.length := by
  apply Classical.byContradiction
  intro hno
  obtain ⟨x, hx, h1, h2⟩ := least_not t.length hno
  obtain ⟨y, hy, h3, h4⟩ := least_not t.length h1
  obtain ⟨z, hz, h5, h6⟩ := least_not t.length h3
  rw [faultL_at hx hy hz h5 h2 h4 h6] at hf
  cases hf
theorem skew_of {t u : List (List Int)} (hb : braceB t u = true) : Skew t.length (mulN t) (fun x => (backF t x).toNat) (mulN u) (fun x => (backF u x).toNat) := by
  obtain ⟨hG, hU, hl⟩ := braceB_ok hb
  have hg := grp_of hG
  have hu := grp_of hU
  rw [← hl] at hu
  refine ⟨hg, hu, fun x hx y hy z hz => ?_⟩
  have hf := braceB_fault hb
  have hno := noX_of_fault hf
  have e := hno x hx y hy z hz
  rw [← leftF_def, ← rightF_def] at e
  unfold mulN
  rw [e]
end Go.Proofs.YtjbloenjphpngaaGreat

/-
  Examples of braces: trivial, turned, opposite, of numbers; what lambda does: plain.
-/
namespace Go.Proofs.YtjbloenjphpngaaGreat
set_option linter.unusedVariables false
set_option linter.unusedSimpArgs false

/-- no fault, by numbers -/
theorem noFault_nat {t u : List (List Int)} (hG : GroupOk t) (hU : GroupOk u) (hl : t.length = u.length) (h : ∀ x, x < t.length → ∀ y, y < t.length → ∀ z, z < t.length → mulN u x (mulN t y z) = mulN t (mulN t (mulN u x y) (backF t x).toNat) (mulN u x z)) : faultL t u = [] := by
  refine faultL_none fun x hx y hy z hz => ?_
  have hg := grp_of hG
  have hu := grp_of hU
  rw [← hl] at hu
  have e := h x hx y hy z hz
  have b1 := hg.bd y hy z hz
  have b2 := hg.bd _ (hg.bd _ (hu.bd x hx y hy) _ (hg.vb x hx)) _ (hu.bd x hx z hz)
  rw [← leftF_def, ← rightF_def]
  have e1 : ent u x (ent t y z).toNat = ((mulN u x (mulN t y z) : Nat) : Int) := by
    have := hU.1.bd (x := x) (y := mulN t y z) (by omega) (by omega)
    unfold mulN at this ⊢
    omega
  have e2 : ent t (ent t (ent u x y).toNat (backF t x).toNat).toNat (ent u x z).toNat = ((mulN t (mulN t (mulN u x y) (backF t x).toNat) (mulN u x z) : Nat) : Int) := by
    have := hG.1.bd (x := mulN t (mulN u x y) (backF t x).toNat) (y := mulN u x z) (hg.bd _ (hu.bd x hx y hy) _ (hg.vb x hx)) (hu.bd x hx z hz)
    unfold mulN at this ⊢
    omega
  rw [e1, e2, e]
theorem brace_by {t u : List (List Int)} (hG : GroupOk t) (hU : GroupOk u) (hl : t.length = u.length) (h : faultL t u = []) : braceB t u = true := braceB_yes (twoB_iff.2 ⟨hG, hU, hl⟩) h
theorem mul_turn {t : List (List Int)} {x y : Nat} (hx : x < t.length) (hy : y < t.length) : mulN (turnT t) x y = mulN t y x := by unfold mulN; rw [ent_turnT _ _ _ hx hy]
theorem back_turn {t : List (List Int)} (hG : GroupOk t) {x : Nat} (hx : x < t.length) : (backF (turnT t) x).toNat = (backF t x).toNat := by
  have hg := grp_of hG
  have ho := grp_of (opp_group hG)
  rw [length_turnT] at ho
  have hv := hg.vb x hx
  refine (ho.v_uniq hx hv ?_).symm
  rw [mul_turn hx hv]
  exact hg.vl x hx
section
variable {t : List (List Int)} (hG : GroupOk t)
include hG
end
section
variable {t u : List (List Int)} (hb : braceB t u = true)
include hb
theorem opp_brace : braceB (turnT t) u = true := by
  obtain ⟨hG, hU, hl⟩ := braceB_ok hb
  have hs := skew_of hb
  have hg := hs.add
  have hu := hs.cir
  refine brace_by (opp_group hG) hU (by rw [length_turnT]; exact hl) (noFault_nat (opp_group hG) hU (by rw [length_turnT]; exact hl) fun x hx y hy z hz => ?_)
  rw [length_turnT] at hx hy hz
  have bx := hg.vb x hx
  have b1 := hu.bd x hx y hy
  have b2 := hu.bd x hx z hz
  have e := hs.law x hx z hz y hy
  rw [mul_turn hy hz, e, back_turn hG hx, mul_turn b1 bx, mul_turn (hg.bd _ bx _ b1) b2, hg.assoc _ b2 _ bx _ b1]
/-- lambda x is an automorphism of Add -/
theorem lam_nat {x y : Nat} (hx : x < t.length) (hy : y < t.length) : lamF t u x y = ((lamN (mulN t) (fun x => (backF t x).toNat) (mulN u) x y : Nat) : Int) := by
  obtain ⟨hG, hU, hl⟩ := braceB_ok hb
  have hs := skew_of hb
  have := hG.1.bd (x := (backF t x).toNat) (y := mulN u x y) (hs.add.vb x hx) (hs.cir.bd x hx y hy)
  rw [← lamF_def]
  show ent t (backF t x).toNat (mulN u x y) = (((ent t (backF t x).toNat (mulN u x y)).toNat : Nat) : Int)
  omega
end
end Go.Proofs.YtjbloenjphpngaaGreat

/-
  The conjugation and the core of a group are quandles; conjugation is trivial exactly for abelian groups; dihedral tables: plain.
-/
namespace Go.Proofs.YtjbloenjphpngaaGreat
set_option linter.unusedVariables false
set_option linter.unusedSimpArgs false

theorem ent_nat {t : List (List Int)} (hT : TableOk t) {x y : Nat} (hx : x < t.length) (hy : y < t.length) : ent t x y = ((mulN t x y : Nat) : Int) := by
  have := hT.bd (x := x) (y := y) hx hy
  unfold mulN
  omega
theorem rows_by {t : List (List Int)} (hG : GroupOk t) {f : Nat → Nat → Int} {g : Nat → Nat → Nat} (hb : ∀ x, x < t.length → ∀ y, y < t.length → g x y < t.length) (he : ∀ x, x < t.length → ∀ y, y < t.length → ent (mkT t.length f) x y = ((g x y : Nat) : Int)) (hi : ∀ x, x < t.length → ∀ y, y < t.length → ∀ z, z < t.length → g x y = g x z → y = z) : permRowsB (mkT t.length f) = true := by
  refine permRowsB_iff.2 fun x hx => ?_
  rw [length_mkT] at hx
  have hrl : (row (mkT t.length f) x).length = t.length := by rw [row_mkT _ _ _ hx]; exact length_partRow _ _ _ _
  refine ⟨fun y hy => ?_, fun y hy z hz e => ?_⟩
  · rw [hrl] at hy ⊢
    rw [ent_def, he x hx y hy]
    have := hb x hx y hy
    omega
  · rw [hrl] at hy
    rw [ent_def, ent_def, he x hx z (by omega), he x hx y hy] at e
    have := hi x hx z (by omega) y hy (by omega)
    omega
section
variable {t : List (List Int)} (hG : GroupOk t)
include hG
theorem conj_ent {x y : Nat} (hx : x < t.length) (hy : y < t.length) : ent (mkT t.length (conjF t)) x y = ((mulN t (mulN t x y) (backF t x).toNat : Nat) : Int) := by
  have hg := grp_of hG
  rw [ent_mkT _ _ _ _ hx hy, ← conjF_def, ← ent_nat hG.1 (hg.bd x hx y hy) (hg.vb x hx)]
  rfl
/-- a table by a multiplication -/
theorem table_by {f : Nat → Nat → Int} {g : Nat → Nat → Nat} (hb : ∀ x, x < t.length → ∀ y, y < t.length → g x y < t.length) (he : ∀ x, x < t.length → ∀ y, y < t.length → ent (mkT t.length f) x y = ((g x y : Nat) : Int)) : TableOk (mkT t.length f) := by
  refine ⟨by rw [length_mkT]; exact hG.1.1, by rw [length_mkT]; exact hG.1.2.1, fun x hx => ?_⟩
  rw [length_mkT] at hx ⊢
  refine ⟨by rw [row_mkT _ _ _ hx]; exact length_partRow _ _ _ _, fun y hy => ?_⟩
  rw [he x hx y hy]
  have := hb x hx y hy
  omega
theorem conj_quand : QuandOk (mkT t.length (conjF t)) := by
  have hg := grp_of hG
  have hb : ∀ x, x < t.length → ∀ y, y < t.length → mulN t (mulN t x y) (backF t x).toNat < t.length := fun x hx y hy => hg.bd _ (hg.bd x hx y hy) _ (hg.vb x hx)
  have he := fun x (hx : x < t.length) y (hy : y < t.length) => conj_ent hG hx hy
  refine ⟨⟨table_by hG hb he, rows_by hG hb he fun x hx y hy z hz e => ?_, ?_⟩, ?_⟩
  · exact hg.inj_l hx hy hz (hg.inj_r (hg.vb x hx) (hg.bd x hx y hy) (hg.bd x hx z hz) e)
  · rw [length_mkT]
    intro x hx y hy z hz
    rw [he y hy z hz, he x hx y hy, he x hx z hz, Int.toNat_natCast, Int.toNat_natCast, Int.toNat_natCast, he x hx _ (hb y hy z hz), he _ (hb x hx y hy) _ (hb x hx z hz)]
    have hm : ∀ u, u < t.length → ∀ w, w < t.length → mulN t (mulN t x (mulN t u w)) (backF t x).toNat = mulN t (mulN t (mulN t x u) (backF t x).toNat) (mulN t (mulN t x w) (backF t x).toNat) := fun u hu w hw => by
      have hv := hg.vb x hx
      have b1 := hg.bd x hx u hu
      have b2 := hg.bd x hx w hw
      rw [hg.assoc _ b1 _ hv _ (hg.bd _ b2 _ hv), ← hg.assoc _ hv _ b2 _ hv, ← hg.assoc _ hv x hx w hw, hg.vl x hx, hg.ul w hw, ← hg.assoc _ b1 w hw _ hv, hg.assoc x hx u hu w hw]
    have hvv : mulN t (mulN t x (backF t y).toNat) (backF t x).toNat = (backF t (mulN t (mulN t x y) (backF t x).toNat)).toNat := by
      refine hg.v_uniq (hb x hx y hy) (hb x hx _ (hg.vb y hy)) ?_
      rw [← hm y hy _ (hg.vb y hy), hg.vr y hy, hg.ur x hx, hg.vr x hx]
    rw [hm _ (hg.bd y hy z hz) _ (hg.vb y hy), hm y hy z hz, hvv]
  · rw [length_mkT]
    intro x hx
    rw [he x hx x hx, hg.assoc x hx x hx _ (hg.vb x hx), hg.vr x hx, hg.ur x hx]
end
end Go.Proofs.YtjbloenjphpngaaGreat

/-
  The solution of a skew brace: plain, on the numbers below n.
-/
namespace Go.Proofs.YtjbloenjphpngaaGreat
set_option linter.unusedVariables false
set_option linter.unusedSimpArgs false

/-- rho of y at x -/
def tauN (m : Nat → Nat → Nat) (v : Nat → Nat) (c : Nat → Nat → Nat) (d : Nat → Nat) (x y : Nat) : Nat := c (d (lamN m v c x y)) (c x y)

section
variable {n : Nat} {m : Nat → Nat → Nat} {v : Nat → Nat} {c : Nat → Nat → Nat} {d : Nat → Nat} (h : Skew n m v c d)
include h

theorem Skew.tb {x y : Nat} (hx : x < n) (hy : y < n) : tauN m v c d x y < n := h.cir.bd _ (h.cir.vb _ (h.lb hx hy)) _ (h.cir.bd x hx y hy)

theorem Skew.lam_tau {x y : Nat} (hx : x < n) (hy : y < n) : c (lamN m v c x y) (tauN m v c d x y) = c x y := by
  unfold tauN
  have b := h.lb hx hy
  rw [← h.cir.assoc _ b _ (h.cir.vb _ b) _ (h.cir.bd x hx y hy), h.cir.vr _ b, h.cir.ul _ (h.cir.bd x hx y hy)]

theorem Skew.lam_c {x y z : Nat} (hx : x < n) (hy : y < n) (hz : z < n) : lamN m v c x (c y z) = c (lamN m v c x y) (lamN m v c (tauN m v c d x y) z) := by
  have b1 := h.lb hx hy
  have b2 := h.tb hx hy
  have b3 := h.lb b2 hz
  rw [← h.add_lam hy hz, h.lam_add hx hy (h.lb hy hz), ← h.add_lam b1 b3, ← h.lam_cir b1 b2 hz, h.lam_tau hx hy, h.lam_cir hx hy hz]

theorem Skew.tau_tau {x y z : Nat} (hx : x < n) (hy : y < n) (hz : z < n) : tauN m v c d (tauN m v c d x y) z = tauN m v c d x (c y z) := by
  have b1 := h.lb hx hy
  have b2 := h.tb hx hy
  have b3 := h.lb b2 hz
  have b4 := h.cir.bd y hy z hz
  refine h.cir.inj_l (x := c (lamN m v c x y) (lamN m v c (tauN m v c d x y) z)) (h.cir.bd _ b1 _ b3) (h.tb b2 hz) (h.tb hx b4) ?_
  rw [h.cir.assoc _ b1 _ b3 _ (h.tb b2 hz), h.lam_tau b2 hz, ← h.cir.assoc _ b1 _ b2 _ hz, h.lam_tau hx hy, ← h.lam_c hx hy hz, h.lam_tau hx b4, h.cir.assoc x hx y hy z hz]

theorem Skew.tau_zero {x : Nat} (h0 : 0 < n) (hx : x < n) : tauN m v c d x 0 = x := by
  have e := h.lam_tau hx h0
  rw [h.lam_at_zero h0 hx, h.cir.ur x hx, h.cir.ul _ (h.tb hx h0)] at e
  exact e

theorem Skew.tau_inj {x z y : Nat} (hx : x < n) (hz : z < n) (hy : y < n) (e : tauN m v c d x y = tauN m v c d z y) : x = z := by
  have h0 : 0 < n := by omega
  have b := h.cir.vb y hy
  have e1 := h.tau_tau hx hy b
  have e2 := h.tau_tau hz hy b
  rw [h.cir.vr y hy, h.tau_zero h0 hx] at e1
  rw [h.cir.vr y hy, h.tau_zero h0 hz] at e2
  rw [← e1, ← e2, e]

/-- the equation -/
theorem Skew.yb1 {x y z : Nat} (hx : x < n) (hy : y < n) (hz : z < n) : lamN m v c (lamN m v c x y) (lamN m v c (tauN m v c d x y) z) = lamN m v c x (lamN m v c y z) := by
  rw [← h.lam_cir (h.lb hx hy) (h.tb hx hy) hz, h.lam_tau hx hy, h.lam_cir hx hy hz]

theorem Skew.yb3 {x y z : Nat} (hx : x < n) (hy : y < n) (hz : z < n) : tauN m v c d (tauN m v c d x y) z = tauN m v c d (tauN m v c d x (lamN m v c y z)) (tauN m v c d y z) := by
  rw [h.tau_tau hx hy hz, h.tau_tau hx (h.lb hy hz) (h.tb hy hz), h.lam_tau hy hz]

theorem Skew.yb2 {x y z : Nat} (hx : x < n) (hy : y < n) (hz : z < n) : tauN m v c d (lamN m v c x y) (lamN m v c (tauN m v c d x y) z) = lamN m v c (tauN m v c d x (lamN m v c y z)) (tauN m v c d y z) := by
  have b1 := h.lb hx hy
  have b2 := h.tb hx hy
  have b3 := h.lb b2 hz
  have b4 := h.tb b2 hz
  have b5 := h.lb hy hz
  have b6 := h.tb hy hz
  have b7 := h.lb hx b5
  have b8 := h.tb hx b5
  have b9 := h.lb b8 b6
  have b10 := h.tb b8 b6
  have bb := h.tb b1 b3
  refine h.cir.inj_r (x := tauN m v c d (tauN m v c d x y) z) b4 bb b9 ?_
  refine h.cir.inj_l (x := lamN m v c x (lamN m v c y z)) b7 (h.cir.bd _ bb _ b4) (h.cir.bd _ b9 _ b4) ?_
  have e1 : c (lamN m v c x (lamN m v c y z)) (c (tauN m v c d (lamN m v c x y) (lamN m v c (tauN m v c d x y) z)) (tauN m v c d (tauN m v c d x y) z)) = c (c x y) z := by
    rw [← h.yb1 hx hy hz, ← h.cir.assoc _ (h.lb b1 b3) _ bb _ b4, h.lam_tau b1 b3, h.cir.assoc _ b1 _ b3 _ b4, h.lam_tau b2 hz, ← h.cir.assoc _ b1 _ b2 _ hz, h.lam_tau hx hy]
  have e2 : c (lamN m v c x (lamN m v c y z)) (c (lamN m v c (tauN m v c d x (lamN m v c y z)) (tauN m v c d y z)) (tauN m v c d (tauN m v c d x y) z)) = c (c x y) z := by
    rw [h.yb3 hx hy hz, h.lam_tau b8 b6, ← h.cir.assoc _ b7 _ b8 _ b6, h.lam_tau hx b5, h.cir.assoc _ hx _ b5 _ b6, h.lam_tau hy hz, h.cir.assoc x hx y hy z hz]
  rw [e1, e2]

/-- different pairs are led to different ones -/
theorem Skew.yb_inj {x y a b : Nat} (hx : x < n) (hy : y < n) (ha : a < n) (hb : b < n) (e1 : lamN m v c x y = lamN m v c a b) (e2 : tauN m v c d x y = tauN m v c d a b) : x = a ∧ y = b := by
  have p : c x y = c a b := by rw [← h.lam_tau hx hy, ← h.lam_tau ha hb, e1, e2]
  have q : m x (lamN m v c x y) = m a (lamN m v c x y) := by rw [h.add_lam hx hy, e1, h.add_lam ha hb, p]
  have e : x = a := h.add.inj_r (h.lb hx hy) hx ha q
  subst e
  exact ⟨rfl, h.cir.inj_l hx hy hb p⟩

/-- the first element after the second time -/
theorem Skew.yb_twice {x y : Nat} (hx : x < n) (hy : y < n) : lamN m v c (lamN m v c x y) (tauN m v c d x y) = m (m (v (lamN m v c x y)) x) (lamN m v c x y) := by
  have b1 := h.lb hx hy
  have b2 := h.tb hx hy
  refine h.add.inj_l b1 (h.lb b1 b2) (h.add.bd _ (h.add.bd _ (h.add.vb _ b1) _ hx) _ b1) ?_
  rw [h.add_lam b1 b2, h.lam_tau hx hy, ← h.add.assoc _ b1 _ (h.add.bd _ (h.add.vb _ b1) _ hx) _ b1, ← h.add.assoc _ b1 _ (h.add.vb _ b1) _ hx, h.add.vr _ b1, h.add.ul _ hx, h.add_lam hx hy]

/-- each element is lambda of x at some y -/
theorem Skew.lam_onto {x u : Nat} (hx : x < n) (hu : u < n) : lamN m v c x (lamN m v c (d x) u) = u := by
  have h0 : 0 < n := by omega
  rw [← h.lam_cir hx (h.cir.vb x hx) hu, h.cir.vr x hx, h.lam_zero h0 hu]

/-- involutive exactly if Add is abelian -/
theorem Skew.yb_inv : (∀ x, x < n → ∀ y, y < n → lamN m v c (lamN m v c x y) (tauN m v c d x y) = x ∧ tauN m v c d (lamN m v c x y) (tauN m v c d x y) = y) ↔ ∀ x, x < n → ∀ y, y < n → m x y = m y x := by
  constructor
  · intro hA x hx u hu
    have b := h.lb (h.cir.vb x hx) hu
    have e := (hA x hx _ b).1
    rw [h.yb_twice hx b, h.lam_onto hx hu] at e
    have e2 := congrArg (m u) e
    rw [← h.add.assoc _ hu _ (h.add.bd _ (h.add.vb _ hu) _ hx) _ hu, ← h.add.assoc _ hu _ (h.add.vb _ hu) _ hx, h.add.vr _ hu, h.add.ul _ hx] at e2
    exact e2
  · intro hA x hx y hy
    have b1 := h.lb hx hy
    have b2 := h.tb hx hy
    have e : lamN m v c (lamN m v c x y) (tauN m v c d x y) = x := by
      rw [h.yb_twice hx hy, h.add.assoc _ (h.add.vb _ b1) _ hx _ b1, hA x hx _ b1, ← h.add.assoc _ (h.add.vb _ b1) _ b1 _ hx, h.add.vl _ b1, h.add.ul _ hx]
    refine ⟨e, ?_⟩
    have p := h.lam_tau b1 b2
    rw [e, h.lam_tau hx hy] at p
    exact h.cir.inj_l hx (h.tb b1 b2) hy p

/-- the derived rack -/
theorem Skew.yb_der {x y : Nat} (hx : x < n) (hy : y < n) : lamN m v c x (tauN m v c d y (lamN m v c (d y) x)) = m (m (v x) y) x := by
  have b := h.lb (h.cir.vb y hy) hx
  have e := h.yb_twice hy b
  rw [h.lam_onto hy hx] at e
  exact e

/-- the opposite brace gives the inverse -/
theorem Skew.yb_op1 {x y : Nat} (hx : x < n) (hy : y < n) : m (c (lamN m v c x y) (tauN m v c d x y)) (v (lamN m v c x y)) = x := by
  have b1 := h.lb hx hy
  rw [h.lam_tau hx hy, ← h.add_lam hx hy, h.add.assoc _ hx _ b1 _ (h.add.vb _ b1), h.add.vr _ b1, h.add.ur _ hx]

theorem Skew.yb_op2 {x y : Nat} (hx : x < n) (hy : y < n) : c (d x) (c (lamN m v c x y) (tauN m v c d x y)) = y := by
  rw [h.lam_tau hx hy, ← h.cir.assoc _ (h.cir.vb x hx) _ hx _ hy, h.cir.vl x hx, h.cir.ul _ hy]
end
end Go.Proofs.YtjbloenjphpngaaGreat

/-
  The solution of a brace as two tables: what a solution wants. No program in sight.
-/
namespace Go.Proofs.YtjbloenjphpngaaGreat
set_option linter.unusedVariables false
set_option linter.unusedSimpArgs false

/-- the equation -/
def YbE (n : Nat) (l s : Nat → Nat → Nat) : Prop := ∀ x, x < n → ∀ y, y < n → ∀ z, z < n →
  l (l x y) (l (s x y) z) = l x (l y z) ∧ s (l x y) (l (s x y) z) = l (s x (l y z)) (s y z) ∧ s (s x y) z = s (s x (l y z)) (s y z)

/-- different pairs go to different pairs -/
def YbI (n : Nat) (l s : Nat → Nat → Nat) : Prop := ∀ x, x < n → ∀ y, y < n → ∀ a, a < n → ∀ b, b < n → l x y = l a b → s x y = s a b → x = a ∧ y = b

/-- two tables that are a solution -/
structure SolOk (L S : List (List Int)) : Prop where
  l : TableOk L
  s : TableOk S
  len : S.length = L.length
  eq : YbE L.length (mulN L) (mulN S)
  inj : YbI L.length (mulN L) (mulN S)

theorem SolOk.ln {L S : List (List Int)} (h : SolOk L S) {x y : Nat} (hx : x < L.length) (hy : y < L.length) : ent L x y = ((mulN L x y : Nat) : Int) ∧ mulN L x y < L.length := by
  have := h.l.bd hx hy
  unfold mulN
  omega

theorem SolOk.sn {L S : List (List Int)} (h : SolOk L S) {x y : Nat} (hx : x < L.length) (hy : y < L.length) : ent S x y = ((mulN S x y : Nat) : Int) ∧ mulN S x y < L.length := by
  have := h.s.bd (x := x) (y := y) (by rw [h.len]; exact hx) (by rw [h.len]; exact hy)
  have := h.len
  unfold mulN
  omega

section
variable {t u : List (List Int)} (hb : braceB t u = true)
include hb

theorem sol_nat {x y : Nat} (hx : x < t.length) (hy : y < t.length) : solF t u x y = ((tauN (mulN t) (fun x => (backF t x).toNat) (mulN u) (fun x => (backF u x).toNat) x y : Nat) : Int) := by
  obtain ⟨hG, hU, hl⟩ := braceB_ok hb
  have hs := skew_of hb
  have h1 := lam_nat hb hx hy
  have b1 := hs.lb hx hy
  have bu : 0 ≤ ent u (backF u (lamF t u x y).toNat).toNat (ent u x y).toNat := by
    have b2 := hs.cir.vb _ b1
    have b3 := hs.cir.bd x hx y hy
    have := hU.1.bd (x := (backF u (lamF t u x y).toNat).toNat) (y := (ent u x y).toNat) (by rw [h1, Int.toNat_natCast, ← hl]; exact b2) (by rw [← hl]; exact b3)
    omega
  rw [← solF_def]
  unfold tauN
  rw [show lamN (mulN t) (fun x => (backF t x).toNat) (mulN u) x y = (lamF t u x y).toNat by rw [h1, Int.toNat_natCast]]
  show _ = (((ent u (backF u (lamF t u x y).toNat).toNat (mulN u x y)).toNat : Nat) : Int)
  unfold mulN
  omega

theorem mul_lam {x y : Nat} (hx : x < t.length) (hy : y < t.length) : mulN (mkT t.length (lamF t u)) x y = lamN (mulN t) (fun x => (backF t x).toNat) (mulN u) x y := by
  unfold mulN
  rw [ent_mkT _ _ _ _ hx hy, lam_nat hb hx hy, Int.toNat_natCast]
  rfl

theorem mul_sol {x y : Nat} (hx : x < t.length) (hy : y < t.length) : mulN (mkT t.length (solF t u)) x y = tauN (mulN t) (fun x => (backF t x).toNat) (mulN u) (fun x => (backF u x).toNat) x y := by
  unfold mulN
  rw [ent_mkT _ _ _ _ hx hy, sol_nat hb hx hy, Int.toNat_natCast]
  rfl

theorem brace_sol : SolOk (mkT t.length (lamF t u)) (mkT t.length (solF t u)) := by
  obtain ⟨hG, hU, hl⟩ := braceB_ok hb
  have hs := skew_of hb
  have h1 := hG.1.1
  have h12 := hG.1.2.1
  refine ⟨table_mk h1 h12 fun x hx y hy => ?_, table_mk h1 h12 fun x hx y hy => ?_, by rw [length_mkT, length_mkT], ?_, ?_⟩
  · have := hs.lb hx hy
    rw [lam_nat hb hx hy]; omega
  · have := hs.tb hx hy
    rw [sol_nat hb hx hy]; omega
  · rw [length_mkT]
    intro x hx y hy z hz
    have b1 := hs.lb hx hy
    have b2 := hs.tb hx hy
    have b3 := hs.lb b2 hz
    have b5 := hs.lb hy hz
    have b6 := hs.tb hy hz
    have b8 := hs.tb hx b5
    rw [mul_lam hb hx hy, mul_sol hb hx hy, mul_lam hb b2 hz, mul_lam hb b1 b3, mul_lam hb hy hz, mul_lam hb hx b5, mul_sol hb b1 b3, mul_sol hb hx b5, mul_sol hb hy hz, mul_lam hb b8 b6, mul_sol hb b2 hz, mul_sol hb b8 b6]
    exact ⟨hs.yb1 hx hy hz, hs.yb2 hx hy hz, hs.yb3 hx hy hz⟩
  · rw [length_mkT]
    intro x hx y hy a ha b hb2 e1 e2
    rw [mul_lam hb hx hy, mul_lam hb ha hb2] at e1
    rw [mul_sol hb hx hy, mul_sol hb ha hb2] at e2
    exact hs.yb_inj hx hy ha hb2 e1 e2
end
end Go.Proofs.YtjbloenjphpngaaGreat

/-
  The solution of a brace as two tables: nondegenerate, involutive, its derived rack, the inverse. No program in sight.
-/
namespace Go.Proofs.YtjbloenjphpngaaGreat
set_option linter.unusedVariables false
set_option linter.unusedSimpArgs false

def InvAt (l s : Nat → Nat → Nat) (x y : Nat) : Prop := l (l x y) (s x y) = x ∧ s (l x y) (s x y) = y

instance (l s : Nat → Nat → Nat) (x y : Nat) : Decidable (InvAt l s x y) := by unfold InvAt; infer_instance

@[irreducible] def invB (n : Nat) (l s : Nat → Nat → Nat) : Bool := decide (∀ x, x < n → ∀ y, y < n → InvAt l s x y)

theorem invB_yes {n : Nat} {l s : Nat → Nat → Nat} (h : ∀ x, x < n → ∀ y, y < n → InvAt l s x y) : invB n l s = true := by unfold invB; exact decide_eq_true h

theorem invB_no {n : Nat} {l s : Nat → Nat → Nat} {x y : Nat} (hx : x < n) (hy : y < n) (h : ¬ InvAt l s x y) : invB n l s = false := by unfold invB; exact decide_eq_false fun k => h (k x hx y hy)

theorem invB_iff {n : Nat} {l s : Nat → Nat → Nat} : invB n l s = true ↔ ∀ x, x < n → ∀ y, y < n → InvAt l s x y := by unfold invB; simp

/-- the derived rack -/
@[irreducible] def derF (L S : List (List Int)) (x y : Nat) : Int := ent L x (ent S y (indexOf (row L y) (x : Int)).toNat).toNat

theorem derF_def (L S : List (List Int)) (x y : Nat) : ent L x (ent S y (indexOf (row L y) (x : Int)).toNat).toNat = derF L S x y := by unfold derF; rfl

/-- the dual rack -/
@[irreducible] def dualF (C : List (List Int)) (x y : Nat) : Int := indexOf (row C x) (y : Int)

theorem dualF_def (C : List (List Int)) (x y : Nat) : indexOf (row C x) (y : Int) = dualF C x y := by unfold dualF; rfl

theorem iso_row {n : Nat} {f : Nat → Nat → Int} {g : Nat → Nat → Nat} {x : Nat} (hx : x < n) (hf : ∀ y, y < n → f x y = ((g x y : Nat) : Int)) (hb : ∀ y, y < n → g x y < n) (hi : ∀ y, y < n → ∀ z, z < n → g x y = g x z → y = z) : IsoOk n [] [] (row (mkT n f) x) := by
  have hl : (row (mkT n f) x).length = n := by rw [row_mkT _ _ _ hx, length_partRow]
  have he : ∀ y, y < n → ix (row (mkT n f) x) y = ((g x y : Nat) : Int) := fun y hy => by rw [ent_def, ent_mkT _ _ _ _ hx hy, hf y hy]
  refine ⟨hl, ⟨fun y hy => ?_, fun y hy z hz e => ?_⟩, fun k hk => by simp at hk⟩
  · rw [hl] at hy ⊢
    rw [he y hy]
    have := hb y hy
    omega
  · rw [hl] at hy
    rw [he y hy, he z (by omega)] at e
    have := hi z (by omega) y hy (by omega)
    omega

section
variable {t u : List (List Int)} (hb : braceB t u = true)
include hb

theorem lam_iso {x : Nat} (hx : x < t.length) : IsoOk t.length [] [] (row (mkT t.length (lamF t u)) x) := by
  have hs := skew_of hb
  exact iso_row hx (fun y hy => lam_nat hb hx hy) (fun y hy => hs.lb hx hy) (fun y hy z hz e => hs.lam_inj hx hy hz e)

/-- nondegenerate -/
theorem brace_nd : permRowsB (mkT t.length (lamF t u)) = true ∧ permRowsB (turnT (mkT t.length (solF t u))) = true := by
  have hs := skew_of hb
  refine ⟨permRowsB_iff.2 fun x hx => ?_, permRowsB_iff.2 fun x hx => ?_⟩
  · rw [length_mkT] at hx
    exact (lam_iso hb hx).2.1
  · rw [length_turnT, length_mkT] at hx
    rw [turnT_def, length_mkT]
    refine (iso_row (g := fun x y => tauN (mulN t) (fun x => (backF t x).toNat) (mulN u) (fun x => (backF u x).toNat) y x) hx (fun y hy => ?_) (fun y hy => hs.tb hy hx) (fun y hy z hz e => hs.tau_inj hy hz hx e)).2.1
    rw [turnF_def, ent_mkT _ _ _ _ hy hx, sol_nat hb hy hx]

/-- involutive exactly if classical -/
theorem brace_inv : invB t.length (mulN (mkT t.length (lamF t u))) (mulN (mkT t.length (solF t u))) = abelB t := by
  have hs := skew_of hb
  obtain ⟨hG, hU, hl⟩ := braceB_ok hb
  have key : invB t.length (mulN (mkT t.length (lamF t u))) (mulN (mkT t.length (solF t u))) = true ↔ abelB t = true := by
    rw [invB_iff, abelB_iff hG.1]
    have e : (∀ x, x < t.length → ∀ y, y < t.length → InvAt (mulN (mkT t.length (lamF t u))) (mulN (mkT t.length (solF t u))) x y) ↔ ∀ x, x < t.length → ∀ y, y < t.length → mulN t x y = mulN t y x := by
      rw [← hs.yb_inv]
      refine ⟨fun h x hx y hy => ?_, fun h x hx y hy => ?_⟩
      · have := h x hx y hy
        unfold InvAt at this
        rw [mul_lam hb hx hy, mul_sol hb hx hy, mul_lam hb (hs.lb hx hy) (hs.tb hx hy), mul_sol hb (hs.lb hx hy) (hs.tb hx hy)] at this
        exact this
      · have := h x hx y hy
        unfold InvAt
        rw [mul_lam hb hx hy, mul_sol hb hx hy, mul_lam hb (hs.lb hx hy) (hs.tb hx hy), mul_sol hb (hs.lb hx hy) (hs.tb hx hy)]
        exact this
    rw [e]
    refine ⟨fun h x hx y hy => ?_, fun h => ?_⟩
    · have h1 := h x hx y (by omega)
      have b1 := hG.1.bd hx (y := y) (by omega)
      have b2 := hG.1.bd (x := y) (by omega) hx
      unfold mulN at h1
      omega
    · have key : ∀ x, x < t.length → ∀ y, y < x → mulN t x y = mulN t y x := fun x hx y hy => by
        have h1 := h x hx y hy
        unfold mulN
        rw [h1]
      intro x hx y hy
      rcases Nat.lt_trichotomy x y with g | g | g
      · exact (key y hy x g).symm
      · rw [g]
      · exact key x hx y g
  cases h1 : invB t.length (mulN (mkT t.length (lamF t u))) (mulN (mkT t.length (solF t u))) <;> cases h2 : abelB t
  · rfl
  · exact absurd (key.2 h2) (by rw [h1]; simp)
  · exact absurd (key.1 h1) (by rw [h2]; simp)
  · rfl

/-- its derived rack is the dual of the conjugation of Add -/
theorem brace_der : mkT t.length (derF (mkT t.length (lamF t u)) (mkT t.length (solF t u))) = mkT t.length (dualF (mkT t.length (conjF t))) := by
  have hs := skew_of hb
  obtain ⟨hG, hU, hl⟩ := braceB_ok hb
  refine table_ext (n := t.length) (length_mkT _ _) (length_mkT _ _) (fun i hi => length_row_mkT _ _ _ hi) (fun i hi => length_row_mkT _ _ _ hi) fun x y hx hy => ?_
  rw [ent_mkT _ _ _ _ hx hy, ent_mkT _ _ _ _ hx hy]
  have bd := hs.cir.vb y hy
  have b1 := hs.lb bd hx
  have b2 := hs.tb hy b1
  have i1 := indexOf_at (lam_iso hb hy) b1
  rw [ent_def, ent_mkT _ _ _ _ hy b1, lam_nat hb hy b1, hs.lam_onto hy hx] at i1
  rw [← derF_def, i1, Int.toNat_natCast, ent_mkT _ _ _ _ hy b1, sol_nat hb hy b1, Int.toNat_natCast, ent_mkT _ _ _ _ hx b2, lam_nat hb hx b2, hs.yb_der hx hy]
  have hc := (conj_quand hG).1
  have hr := permRowsB_iff.1 hc.perm x (by rw [length_mkT]; exact hx)
  have hlr : (row (mkT t.length (conjF t)) x).length = t.length := by rw [row_mkT _ _ _ hx, length_partRow]
  have hi : IsoOk t.length [] [] (row (mkT t.length (conjF t)) x) := ⟨hlr, hr, fun k hk => by simp at hk⟩
  have bv := hs.add.vb x hx
  have c1 := hs.add.bd _ bv _ hy
  have c2 := hs.add.bd _ c1 _ hx
  have i2 := indexOf_at hi c2
  have ec : conjF t x (mulN t (mulN t (backF t x).toNat y) x) = (y : Int) := by
    rw [← conjF_def]
    have h1 : mulN t x (mulN t (mulN t (backF t x).toNat y) x) = mulN t y x := by
      rw [← hs.add.assoc x hx _ c1 x hx, ← hs.add.assoc x hx _ bv y hy, hs.add.vr x hx, hs.add.ul y hy]
    have h2 : mulN t (mulN t y x) (backF t x).toNat = y := by
      rw [hs.add.assoc y hy x hx _ bv, hs.add.vr x hx, hs.add.ur y hy]
    have h3 : (ent t x (mulN t (mulN t (backF t x).toNat y) x)).toNat = mulN t y x := h1
    rw [h3]
    have b := hG.1.bd (hs.add.bd y hy x hx) bv
    have h4 : (ent t (mulN t y x) (backF t x).toNat).toNat = y := h2
    omega
  rw [ent_def, ent_mkT _ _ _ _ hx c2, ec] at i2
  rw [← dualF_def, i2]
end
end Go.Proofs.YtjbloenjphpngaaGreat

/-
  The inverse of a solution, entry by entry; the solution of the opposite brace is the inverse. No program in sight.
-/
namespace Go.Proofs.YtjbloenjphpngaaGreat
set_option linter.unusedVariables false
set_option linter.unusedSimpArgs false

/-- all pairs ahead of (x, y) are led back -/
structure InvTo (L S : List (List Int)) (x y : Nat) (T U : List (List Int)) : Prop where
  len1 : T.length = L.length
  len2 : U.length = L.length
  rows1 : ∀ i, i < L.length → (row T i).length = L.length
  rows2 : ∀ i, i < L.length → (row U i).length = L.length
  at_ : ∀ a b, a < L.length → b < L.length → (a < x ∨ (a = x ∧ b < y)) → ent T (mulN L a b) (mulN S a b) = (a : Int) ∧ ent U (mulN L a b) (mulN S a b) = (b : Int)

theorem InvTo.start {L S : List (List Int)} (h : SolOk L S) : InvTo L S 0 0 L S := ⟨rfl, h.len, fun i hi => h.l.len hi, fun i hi => by rw [h.s.len (by rw [h.len]; exact hi), h.len], fun a b _ _ h => by omega⟩

theorem InvTo.next {L S T U : List (List Int)} {x : Nat} (h : InvTo L S x L.length T U) : InvTo L S (x + 1) 0 T U := ⟨h.len1, h.len2, h.rows1, h.rows2, fun a b ha hb hab => h.at_ a b ha hb (by omega)⟩

theorem InvTo.step {L S T U : List (List Int)} {x y : Nat} (hO : SolOk L S) (h : InvTo L S x y T U) (hx : x < L.length) (hy : y < L.length) : InvTo L S x (y + 1) (setE T (mulN L x y) (mulN S x y) (x : Int)) (setE U (mulN L x y) (mulN S x y) (y : Int)) := by
  have b1 := (hO.ln hx hy).2
  have b2 := (hO.sn hx hy).2
  have hT : mulN L x y < T.length := by rw [h.len1]; exact b1
  have hU : mulN L x y < U.length := by rw [h.len2]; exact b1
  refine ⟨by rw [length_setE]; exact h.len1, by rw [length_setE]; exact h.len2, fun i hi => by rw [length_row_setE _ _ _ _ _ hT]; exact h.rows1 i hi, fun i hi => by rw [length_row_setE _ _ _ _ _ hU]; exact h.rows2 i hi, fun a b ha hb hab => ?_⟩
  by_cases e : a = x ∧ b = y
  · obtain ⟨rfl, rfl⟩ := e
    exact ⟨ent_setE_same _ _ _ _ hT (by rw [h.rows1 _ b1]; exact b2), ent_setE_same _ _ _ _ hU (by rw [h.rows2 _ b1]; exact b2)⟩
  · have hne : mulN L a b ≠ mulN L x y ∨ mulN S a b ≠ mulN S x y := by
      by_cases e1 : mulN L a b = mulN L x y
      · right
        intro e2
        exact e (hO.inj a ha b hb x hx y hy e1 e2)
      · exact .inl e1
    rw [ent_setE_other _ _ _ _ _ _ hT hne, ent_setE_other _ _ _ _ _ _ hU hne]
    exact h.at_ a b ha hb (by omega)

/-- the inverse of a brace's solution is the solution of its opposite -/
theorem inv_opp {t u T U : List (List Int)} (hb : braceB t u = true) (h : InvTo (mkT t.length (lamF t u)) (mkT t.length (solF t u)) t.length 0 T U) : T = mkT t.length (lamF (turnT t) u) ∧ U = mkT t.length (solF (turnT t) u) := by
  have hs := skew_of hb
  have hb2 := opp_brace hb
  have hs2 := skew_of hb2
  obtain ⟨hG, hU, hl⟩ := braceB_ok hb
  have hlt := length_turnT t
  have hlm := length_mkT t.length (lamF t u)
  have key : ∀ p, p < t.length → ∀ q, q < t.length → ent T p q = lamF (turnT t) u p q ∧ ent U p q = solF (turnT t) u p q := by
    intro p hp q hq
    have hp2 : p < (turnT t).length := by rw [hlt]; exact hp
    have hq2 : q < (turnT t).length := by rw [hlt]; exact hq
    have b1 := hs2.lb hp2 hq2
    have b2 := hs2.tb hp2 hq2
    have o1 := hs2.yb_op1 hp2 hq2
    have o2 := hs2.yb_op2 hp2 hq2
    have n1 := lam_nat hb2 hp2 hq2
    have n2 := sol_nat hb2 hp2 hq2
    obtain ⟨x, hxe⟩ : ∃ x, x = lamN (mulN (turnT t)) (fun x => (backF (turnT t) x).toNat) (mulN u) p q := ⟨_, rfl⟩
    obtain ⟨y, hye⟩ : ∃ y, y = tauN (mulN (turnT t)) (fun x => (backF (turnT t) x).toNat) (mulN u) (fun x => (backF u x).toNat) p q := ⟨_, rfl⟩
    rw [← hxe] at b1 o1 n1
    rw [← hye] at b2 o1 o2 n2
    rw [← hxe] at o2
    rw [hlt] at b1 b2
    have hc := hs.cir.bd x b1 y b2
    have hv := hs.add.vb x b1
    -- lambda x y = p
    have e1 : lamN (mulN t) (fun x => (backF t x).toNat) (mulN u) x y = p := by
      rw [back_turn hG b1, mul_turn hc hv] at o1
      exact o1
    have e2 : tauN (mulN t) (fun x => (backF t x).toNat) (mulN u) (fun x => (backF u x).toNat) x y = q := by
      unfold tauN
      rw [e1]
      exact o2
    have := h.at_ x y (by rw [hlm]; exact b1) (by rw [hlm]; exact b2) (.inl (by exact b1))
    rw [mul_lam hb b1 b2, mul_sol hb b1 b2, e1, e2] at this
    rw [n1, n2]
    exact this
  refine ⟨table_ext (n := t.length) (by rw [h.len1, hlm]) (length_mkT _ _) (fun i hi => by rw [h.rows1 i (by rw [hlm]; exact hi), hlm]) (fun i hi => length_row_mkT _ _ _ hi) fun i j hi hj => ?_, table_ext (n := t.length) (by rw [h.len2, hlm]) (length_mkT _ _) (fun i hi => by rw [h.rows2 i (by rw [hlm]; exact hi), hlm]) (fun i hi => length_row_mkT _ _ _ hi) fun i j hi hj => ?_⟩
  · rw [ent_mkT _ _ _ _ hi hj]; exact (key i hi j hj).1
  · rw [ent_mkT _ _ _ _ hi hj]; exact (key i hi j hj).2
end Go.Proofs.YtjbloenjphpngaaGreat
