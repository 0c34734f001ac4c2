/-
  Examples of braces: trivial, turned, opposite, of numbers; what lambda does: plain.
-/
import Derived.Test.YtjbloenjphpngaaJx0
import Derived.Test.YtjbloenjphpngaaJx1
import Derived.Test.YtjbloenjphpngaaJx2
import Derived.Test.YtjbloenjphpngaaJx5
import Derived.Test.YtjbloenjphpngaaJx14
import Derived.Test.YtjbloenjphpngaaJx27
import Derived.Test.YtjbloenjphpngaaJx6
import Derived.Test.YtjbloenjphpngaaJx4
import Derived.Test.YtjbloenjphpngaaJx17
import Derived.Test.YtjbloenjphpngaaJx42
import Derived.Test.YtjbloenjphpngaaJx37
namespace Go.Proofs.Ytjbloenjphpngaa
set_option linter.unusedVariables false
set_option linter.unusedSimpArgs false

/-- no fault, by numbers -/
theorem noFault_nat {t u : List (List Int)} (hG : GroupOk t) (hU : GroupOk u) (hl : t.length = u.length) (h : ∀ x, x < t.length → ∀ y, y < t.length → ∀ z, z < t.length → mulN u x (mulN t y z) = mulN t (mulN t (mulN u x y) (backF t x).toNat) (mulN u x z)) : faultL t u = [] := by
  refine faultL_none fun x hx y hy z hz => ?_
  have hg := grp_of hG
  have hu := grp_of hU
  rw [← hl] at hu
  have e := h x hx y hy z hz
  have b1 := hg.bd y hy z hz
  have b2 := hg.bd _ (hg.bd _ (hu.bd x hx y hy) _ (hg.vb x hx)) _ (hu.bd x hx z hz)
  rw [← leftF_def, ← rightF_def]
  have e1 : ent u x (ent t y z).toNat = ((mulN u x (mulN t y z) : Nat) : Int) := by
    have := hU.1.bd (x := x) (y := mulN t y z) (by omega) (by omega)
    unfold mulN at this ⊢
    omega
  have e2 : ent t (ent t (ent u x y).toNat (backF t x).toNat).toNat (ent u x z).toNat = ((mulN t (mulN t (mulN u x y) (backF t x).toNat) (mulN u x z) : Nat) : Int) := by
    have := hG.1.bd (x := mulN t (mulN u x y) (backF t x).toNat) (y := mulN u x z) (hg.bd _ (hu.bd x hx y hy) _ (hg.vb x hx)) (hu.bd x hx z hz)
    unfold mulN at this ⊢
    omega
  rw [e1, e2, e]
theorem brace_by {t u : List (List Int)} (hG : GroupOk t) (hU : GroupOk u) (hl : t.length = u.length) (h : faultL t u = []) : braceB t u = true := braceB_yes (twoB_iff.2 ⟨hG, hU, hl⟩) h
theorem mul_turn {t : List (List Int)} {x y : Nat} (hx : x < t.length) (hy : y < t.length) : mulN (turnT t) x y = mulN t y x := by unfold mulN; rw [ent_turnT _ _ _ hx hy]
theorem back_turn {t : List (List Int)} (hG : GroupOk t) {x : Nat} (hx : x < t.length) : (backF (turnT t) x).toNat = (backF t x).toNat := by
  have hg := grp_of hG
  have ho := grp_of (opp_group hG)
  rw [length_turnT] at ho
  have hv := hg.vb x hx
  refine (ho.v_uniq hx hv ?_).symm
  rw [mul_turn hx hv]
  exact hg.vl x hx
theorem turn_twice {t : List (List Int)} (hT : TableOk t) : turnT (turnT t) = t := by
  refine row_ext (by rw [length_turnT, length_turnT]) fun i hi => ?_
  rw [length_turnT, length_turnT] at hi
  have h2 : i < (turnT t).length := by rw [length_turnT]; exact hi
  have hr : (row (turnT (turnT t)) i).length = t.length := by
    rw [turnT_def, row_mkT _ _ _ h2, length_partRow, length_turnT]
  refine ix_ext (by rw [hr, hT.len hi]) fun j hj => ?_
  rw [hr] at hj
  rw [ent_def, ent_def, ent_turnT _ _ _ h2 (by rw [length_turnT]; exact hj), ent_turnT _ _ _ hj hi]
section
variable {t : List (List Int)} (hG : GroupOk t)
include hG
theorem triv_fault : faultL t t = [] := by
  have hg := grp_of hG
  refine noFault_nat hG hG rfl fun x hx y hy z hz => ?_
  have bx := hg.vb x hx
  have b1 := hg.bd x hx y hy
  rw [hg.assoc _ b1 _ bx _ (hg.bd x hx z hz), ← hg.assoc _ bx x hx z hz, hg.vl x hx, hg.ul z hz, hg.assoc x hx y hy z hz]
theorem turned_fault : faultL t (turnT t) = [] := by
  have hg := grp_of hG
  refine noFault_nat hG (opp_group hG) (length_turnT t).symm fun x hx y hy z hz => ?_
  have bx := hg.vb x hx
  rw [mul_turn hx (hg.bd y hy z hz), mul_turn hx hy, mul_turn hx hz, hg.assoc y hy x hx _ bx, hg.vr x hx, hg.ur y hy, ← hg.assoc y hy z hz x hx]
theorem turned_back : faultL (turnT t) t = [] := by
  have hg := grp_of hG
  refine noFault_nat (opp_group hG) hG (length_turnT t) fun x hx y hy z hz => ?_
  rw [length_turnT] at hx hy hz
  have bx := hg.vb x hx
  have b1 := hg.bd x hx y hy
  have b2 := hg.bd x hx z hz
  rw [back_turn hG hx, mul_turn hy hz, mul_turn b1 bx, mul_turn (hg.bd _ bx _ b1) b2, ← hg.assoc _ bx x hx y hy, hg.vl x hx, hg.ul y hy, hg.assoc x hx z hz y hy]
end
section
variable {t u : List (List Int)} (hb : braceB t u = true)
include hb
theorem opp_brace : braceB (turnT t) u = true := by
  obtain ⟨hG, hU, hl⟩ := braceB_ok hb
  have hs := skew_of hb
  have hg := hs.add
  have hu := hs.cir
  refine brace_by (opp_group hG) hU (by rw [length_turnT]; exact hl) (noFault_nat (opp_group hG) hU (by rw [length_turnT]; exact hl) fun x hx y hy z hz => ?_)
  rw [length_turnT] at hx hy hz
  have bx := hg.vb x hx
  have b1 := hu.bd x hx y hy
  have b2 := hu.bd x hx z hz
  have e := hs.law x hx z hz y hy
  rw [mul_turn hy hz, e, back_turn hG hx, mul_turn b1 bx, mul_turn (hg.bd _ bx _ b1) b2, hg.assoc _ b2 _ bx _ b1]
/-- lambda x is an automorphism of Add -/
theorem lam_nat {x y : Nat} (hx : x < t.length) (hy : y < t.length) : lamF t u x y = ((lamN (mulN t) (fun x => (backF t x).toNat) (mulN u) x y : Nat) : Int) := by
  obtain ⟨hG, hU, hl⟩ := braceB_ok hb
  have hs := skew_of hb
  have := hG.1.bd (x := (backF t x).toNat) (y := mulN u x y) (hs.add.vb x hx) (hs.cir.bd x hx y hy)
  rw [← lamF_def]
  show ent t (backF t x).toNat (mulN u x y) = (((ent t (backF t x).toNat (mulN u x y)).toNat : Nat) : Int)
  omega
theorem lam_row {x : Nat} (hx : x < t.length) : IsoOk t.length [t] [t] (row (mkT t.length (lamF t u)) x) := by
  obtain ⟨hG, hU, hl⟩ := braceB_ok hb
  have hs := skew_of hb
  have hlen : (row (mkT t.length (lamF t u)) x).length = t.length := by rw [row_mkT _ _ _ hx]; exact length_partRow _ _ _ _
  have hix : ∀ y, y < t.length → ix (row (mkT t.length (lamF t u)) x) y = ((lamN (mulN t) (fun x => (backF t x).toNat) (mulN u) x y : Nat) : Int) := fun y hy => by rw [ent_def, ent_mkT _ _ _ _ hx hy, lam_nat hb hx hy]
  refine ⟨hlen, ⟨fun y hy => ?_, fun y hy z hz e => ?_⟩, fun k hk y hy z hz => ?_⟩
  · rw [hlen] at hy ⊢
    rw [hix y hy]
    have := hs.lb hx hy
    omega
  · rw [hlen] at hy
    rw [hix y hy, hix z (by omega)] at e
    have := hs.lam_inj (x := x) (y := z) (z := y) hx (by omega) hy (by omega)
    omega
  · have : k = 0 := by simpa using hk
    subst this
    rw [tab_one]
    have b := hG.1.bd (x := y) (y := z) hy hz
    have b1 := hs.lb hx hy
    have b2 := hs.lb hx hz
    rw [hix y hy, hix z hz, Int.toNat_natCast, Int.toNat_natCast, show (ent t y z).toNat = mulN t y z from rfl, hix _ (hs.add.bd y hy z hz), hs.lam_add hx hy hz]
    have := hG.1.bd (x := lamN (mulN t) (fun x => (backF t x).toNat) (mulN u) x y) (y := lamN (mulN t) (fun x => (backF t x).toNat) (mulN u) x z) b1 b2
    unfold mulN at *
    omega
theorem lam_comp {x y z : Nat} (hx : x < t.length) (hy : y < t.length) (hz : z < t.length) : lamF t u (ent u x y).toNat z = lamF t u x (lamF t u y z).toNat := by
  obtain ⟨hG, hU, hl⟩ := braceB_ok hb
  have hs := skew_of hb
  have b := hs.cir.bd x hx y hy
  have b1 := hs.lb hy hz
  rw [lam_nat hb hy hz, Int.toNat_natCast, lam_nat hb hx b1, show (ent u x y).toNat = mulN u x y from rfl, lam_nat hb b hz, hs.lam_cir hx hy hz]
theorem lam_cirl {x y : Nat} (hx : x < t.length) (hy : y < t.length) : ent t x (lamF t u x y).toNat = ent u x y := by
  obtain ⟨hG, hU, hl⟩ := braceB_ok hb
  have hs := skew_of hb
  have b1 := hs.lb hx hy
  have e := hs.add_lam hx hy
  have k1 := hG.1.bd (x := x) (y := lamN (mulN t) (fun x => (backF t x).toNat) (mulN u) x y) hx b1
  have k2 := hU.1.bd (x := x) (y := y) (by omega) (by omega)
  rw [lam_nat hb hx hy, Int.toNat_natCast]
  unfold mulN at *
  omega
theorem lam_lt {x y : Nat} (hx : x < t.length) (hy : y < t.length) : 0 ≤ lamF t u x y ∧ (lamF t u x y).toNat < t.length := by
  have hs := skew_of hb
  have b1 := hs.lb hx hy
  rw [lam_nat hb hx hy]
  omega
end
/-- rings -/
theorem ring_two {n k : Nat} (h1 : 1 ≤ n) (h2 : n ≤ 12) (hk : k < n) (hg : goodR n k = true) : twoSB (mkT n (cycF n)) (mkT n (ringF n k)) = true := by
  have hb : braceB (mkT n (cycF n)) (mkT n (ringF n k)) = true := by rw [brace_ring h1 h2 hk]; exact hg
  obtain ⟨hG, hU, hl⟩ := braceB_ok hb
  have hs := skew_of hb
  have hL := length_mkT n (cycF n)
  have hcom : ∀ x, x < n → ∀ y, y < n → ent (mkT n (ringF n k)) x y = ent (mkT n (ringF n k)) y x := fun x hx y hy => by
    rw [ent_mkT _ _ _ _ hx hy, ent_mkT _ _ _ _ hy hx, ringF_def, ringF_def]
    congr 1
    grind
  have hno := noX_of_fault (braceB_fault hb)
  refine twoSB_yes fun x hx y hy z hz => ?_
  have e := hno z (by omega) x (by omega) y (by omega)
  rw [← leftF_def, ← rightF_def] at e
  rw [← leftS_def, ← rightS_def]
  rw [hL] at hx hy hz
  have b := hG.1.bd (x := x) (y := y) (by omega) (by omega)
  rw [hcom _ (by omega) z hz, e, hcom z hz x hx, hcom z hz y hy]
theorem ring_abel {n : Nat} (h1 : 1 ≤ n) (h2 : n ≤ 12) : abelB (mkT n (cycF n)) = true := by
  have hG := group_cyc h1 h2
  refine (abelB_iff hG.1).2 fun x hx y hy => ?_
  rw [length_mkT] at hx
  rw [ent_mkT _ _ _ _ hx (by omega), ent_mkT _ _ _ _ (by omega) hx, cycF_def, cycF_def, Int.add_comm]
theorem ring_0 {a b : Int} (h : ringC a b = 0) : ∃ n k : Nat, 1 ≤ n ∧ n ≤ 12 ∧ k < n ∧ goodR n k = true ∧ ringT a b = mkT n (cycF n) ∧ ringU a b = mkT n (ringF n k) := by
  unfold ringC at h
  by_cases g : (inR a 1 12 && inR b 0 (a - 1)) = true
  · rw [if_pos g] at h
    rw [Bool.and_eq_true] at g
    have g1 := inR_iff.1 g.1
    have g2 := inR_iff.1 g.2
    obtain ⟨n, rfl⟩ := Int.eq_ofNat_of_zero_le (a := a) (by omega)
    obtain ⟨k, rfl⟩ := Int.eq_ofNat_of_zero_le (a := b) (by omega)
    rw [Int.toNat_natCast, Int.toNat_natCast] at h
    by_cases hg : goodR n k = true
    · obtain ⟨e1, e2, -⟩ := ring_good (n := n) (k := k) (by omega) (by omega) (by omega) hg
      exact ⟨n, k, by omega, by omega, by omega, hg, e1, e2⟩
    · rw [if_neg hg] at h; cases h
  · rw [if_neg g] at h; cases h
end Go.Proofs.Ytjbloenjphpngaa

/-
  Automorphisms leave a table as it is; the code of a brace's fault. No program in sight.
-/
namespace Go.Proofs.Ytjbloenjphpngaa
set_option linter.unusedVariables false
set_option linter.unusedSimpArgs false

theorem imgT_auto {t : List (List Int)} {p : List Int} (hT : TableOk t) (hp : IsoOk t.length [t] [t] p) : imgT t p = t := by
  have hp0 : IsoOk t.length [] [] p := ⟨hp.1, hp.2.1, fun k hk => by simp at hk⟩
  refine (ImgTo.done (T := t) ⟨rfl, fun i hi => hT.len hi, fun a b ha hb _ => ?_⟩ hp0).symm
  have := hp.2.2 0 (by simp) a ha b hb
  rw [tab_one] at this
  exact this.symm

theorem bf_brace {t u : List (List Int)} (h : braceB t u = true) : bfL t u = [] ∧ bfC t u = 4 := bf_none (braceB_two h) (braceB_fault h)

theorem bf_nobrace {t u : List (List Int)} (h : braceB t u = false) : bfC t u ≠ 4 := by
  cases h2 : twoB t u with
  | false => rw [(bf_no h2).2]; decide
  | true =>
    by_cases h3 : faultL t u = []
    · have := braceB_yes h2 h3
      rw [h] at this
      cases this
    · rw [(bf_yes h2 h3).2]; decide
end Go.Proofs.Ytjbloenjphpngaa
