/-
  The group that some permutations generate, element by element as it is found; lists of lists in order: plain.
-/
import Derived.Test.YtjbloenjphpngaaJx0
import Derived.Test.YtjbloenjphpngaaJx1
import Derived.Test.YtjbloenjphpngaaJx2
import Derived.Test.YtjbloenjphpngaaJx5
import Derived.Test.YtjbloenjphpngaaJx6
import Derived.Test.YtjbloenjphpngaaJx4
import Derived.Test.YtjbloenjphpngaaJx13
import Derived.Test.YtjbloenjphpngaaJx7
import Derived.Test.YtjbloenjphpngaaJx3
import Derived.Test.YtjbloenjphpngaaJx8
import Derived.Test.YtjbloenjphpngaaJx9
namespace Go.Proofs.Ytjbloenjphpngaa
set_option linter.unusedVariables false
set_option linter.unusedSimpArgs false

/-- p, then q -/
@[irreducible] def thenL (p q : List Int) : List Int := mkL p.length (fun i => ix q (ix p i).toNat)
theorem length_thenL (p q : List Int) : (thenL p q).length = p.length := by unfold thenL; exact length_mkL _ _
theorem ix_thenL (p q : List Int) {i : Nat} (h : i < p.length) : ix (thenL p q) i = ix q (ix p i).toNat := by unfold thenL; exact ix_mkL _ _ _ h
theorem thenL_perm {n : Nat} {p q : List Int} (hp : IsoOk n [] [] p) (hq : IsoOk n [] [] q) : IsoOk n [] [] (thenL p q) := by
  have hl := hp.1
  refine isoOk_plain.2 ⟨by rw [length_thenL, hl], ⟨fun i hi => ?_, fun i hi j hj e => ?_⟩⟩
  · rw [length_thenL] at hi ⊢
    rw [ix_thenL _ _ hi]
    have := hp.bd (x := i) (by omega)
    have := hq.bd this.2
    omega
  · rw [length_thenL] at hi
    rw [ix_thenL _ _ hi, ix_thenL _ _ (by omega)] at e
    have b1 := hp.bd (x := i) (by omega)
    have b2 := hp.bd (x := j) (by omega)
    have := hq.inj b2.2 b1.2 e
    have := hp.inj (x := j) (y := i) (by omega) (by omega) (by omega)
    omega

theorem idL_perm (n : Nat) : IsoOk n [] [] (idL n) := by
  refine isoOk_plain.2 ⟨length_idL n, ⟨fun i hi => ?_, fun i hi j hj e => ?_⟩⟩
  · rw [length_idL] at hi ⊢
    rw [ix_idL _ _ hi]; omega
  · rw [length_idL] at hi
    rw [ix_idL _ _ hi, ix_idL _ _ (by omega)] at e
    omega
/-- what is found is taken, unless it is known or there are too many -/
@[irreducible] def addL (out : List (List Int)) (p : List Int) : List (List Int) := if out.length ≤ 12 ∧ p ∉ out then out ++ [p] else out
theorem addL_old {out : List (List Int)} {p : List Int} (h : p ∈ out) : addL out p = out := by unfold addL; rw [if_neg (fun e => e.2 h)]
theorem addL_new {out : List (List Int)} {p : List Int} (h : p ∉ out) (hl : out.length ≤ 12) : addL out p = out ++ [p] := by unfold addL; rw [if_pos ⟨hl, h⟩]
theorem addL_full {out : List (List Int)} {p : List Int} (hl : 12 < out.length) : addL out p = out := by unfold addL; rw [if_neg (fun e => by omega)]
/-- the products of x and the generators from number k on -/
@[irreducible] def rowFrom (gens : List (List Int)) (x : List Int) (k : Nat) (out : List (List Int)) : List (List Int) := (gens.drop k).foldl (fun o p => addL o (thenL x p)) out
theorem rowFrom_end {gens : List (List Int)} {x : List Int} {k : Nat} {out : List (List Int)} (h : gens.length ≤ k) : rowFrom gens x k out = out := by unfold rowFrom; rw [List.drop_of_length_le h]; rfl
theorem rowFrom_at {gens : List (List Int)} {x : List Int} {k : Nat} {out : List (List Int)} (h : k < gens.length) : rowFrom gens x k out = rowFrom gens x (k + 1) (addL out (thenL x (row gens k))) := by
  unfold rowFrom
  rw [List.drop_eq_getElem_cons h, List.foldl_cons]
  have : row gens k = gens[k] := by rw [row_eq]; simp [List.getD, h]
  rw [this]
theorem rowFrom_full {gens : List (List Int)} {x : List Int} {out : List (List Int)} (h : 12 < out.length) : ∀ (d k : Nat), gens.length ≤ k + d → rowFrom gens x k out = out
  | 0, k, hk => rowFrom_end (by omega)
  | d + 1, k, hk => by
    by_cases hg : k < gens.length
    · rw [rowFrom_at hg, addL_full h, rowFrom_full h d (k + 1) (by omega)]
    · exact rowFrom_end (by omega)
/-- one element after the other -/
def genF (gens : List (List Int)) : Nat → List (List Int) → Nat → List (List Int)
  | 0, out, _ => out
  | d + 1, out, i => if i < out.length ∧ out.length ≤ 12 then genF gens d (rowFrom gens (row out i) 0 out) (i + 1) else out
theorem genF_stop {gens : List (List Int)} {d i : Nat} {out : List (List Int)} (h : ¬ (i < out.length ∧ out.length ≤ 12)) : genF gens d out i = out := by
  cases d with
  | zero => rfl
  | succ d => unfold genF; rw [if_neg h]
theorem genF_go {gens : List (List Int)} {d i : Nat} {out : List (List Int)} (h1 : i < out.length) (h2 : out.length ≤ 12) : genF gens (d + 1) out i = genF gens d (rowFrom gens (row out i) 0 out) (i + 1) := by
  rw [show genF gens (d + 1) out i = if i < out.length ∧ out.length ≤ 12 then genF gens d (rowFrom gens (row out i) 0 out) (i + 1) else out from rfl, if_pos ⟨h1, h2⟩]
/-- the elements in the order in which they are found; 13 if there are more than 12 -/
@[irreducible] def genA (gens : List (List Int)) (n : Nat) : List (List Int) := genF gens 13 [idL n] 0
theorem genA_def (gens : List (List Int)) (n : Nat) : genA gens n = genF gens (13 - 0) [idL n] 0 := by unfold genA; rfl
/-- more than 12 are found -/
theorem genF_over {gens : List (List Int)} {d i : Nat} {x : List Int} {out : List (List Int)} {p : List Int} {k : Nat} (hl : out.length = 12) : genF gens d (rowFrom gens x k (out ++ [p])) i = out ++ [p] := by
  rw [rowFrom_full (out := out ++ [p]) (by simp; omega) gens.length k (by omega)]
  exact genF_stop (by simp; omega)
theorem row_app (out : List (List Int)) (p : List Int) {i : Nat} (h : i < out.length) : row (out ++ [p]) i = row out i := by rw [row_eq, row_eq]; simp [List.getD, List.getElem?_append_left h]

/-- as far as they are found: different permutations, 13 at most -/
structure GoodG (n : Nat) (out : List (List Int)) : Prop where
  nodup : out.Nodup
  perm : ∀ p, p ∈ out → IsoOk n [] [] p
  one : 1 ≤ out.length
  few : out.length ≤ 13
theorem GoodG.add {n : Nat} {out : List (List Int)} {p : List Int} (h : GoodG n out) (hp : IsoOk n [] [] p) : GoodG n (addL out p) := by
  unfold addL
  split
  · rename_i hc
    refine ⟨?_, fun q hq => ?_, by simp, by simp; omega⟩
    · rw [List.nodup_append]
      refine ⟨h.nodup, by simp, fun a ha b hb e => ?_⟩
      have : b = p := by simpa using hb
      exact hc.2 (by rw [← this, ← e]; exact ha)
    · rcases List.mem_append.1 hq with hq | hq
      · exact h.perm q hq
      · have : q = p := by simpa using hq
        rw [this]; exact hp
  · exact h
theorem GoodG.row {n : Nat} {out : List (List Int)} (h : GoodG n out) {i : Nat} (hi : i < out.length) : IsoOk n [] [] (row out i) := h.perm _ (by rw [row_eq]; simp [List.getD, hi])
theorem GoodG.rowFrom {n : Nat} {gens : List (List Int)} (hg : ∀ k, k < gens.length → IsoOk n [] [] (Go.Proofs.Ytjbloenjphpngaa.row gens k)) {x : List Int} (hx : IsoOk n [] [] x) : ∀ (d k : Nat) (out : List (List Int)), gens.length ≤ k + d → GoodG n out → GoodG n (rowFrom gens x k out)
  | 0, k, out, hd, h => by rw [rowFrom_end (by omega)]; exact h
  | d + 1, k, out, hd, h => by
    by_cases hk : k < gens.length
    · rw [rowFrom_at hk]
      exact GoodG.rowFrom hg hx d (k + 1) _ (by omega) (h.add (thenL_perm hx (hg k hk)))
    · rw [rowFrom_end (by omega)]; exact h
theorem GoodG.genF {n : Nat} {gens : List (List Int)} (hg : ∀ k, k < gens.length → IsoOk n [] [] (Go.Proofs.Ytjbloenjphpngaa.row gens k)) : ∀ (d : Nat) (out : List (List Int)) (i : Nat), GoodG n out → GoodG n (genF gens d out i)
  | 0, out, i, h => h
  | d + 1, out, i, h => by
    by_cases hc : i < out.length ∧ out.length ≤ 12
    · rw [genF_go hc.1 hc.2]
      exact GoodG.genF hg d _ _ (GoodG.rowFrom hg (h.row hc.1) gens.length 0 out (by omega) h)
    · rw [genF_stop hc]; exact h
theorem goodG_unit {n : Nat} (hi : IsoOk n [] [] (idL n)) : GoodG n [idL n] := ⟨by simp, fun p hp => by
  have : p = idL n := by simpa using hp
  rw [this]; exact hi, by simp, by simp⟩
theorem genA_good {n : Nat} {gens : List (List Int)} (hg : ∀ k, k < gens.length → IsoOk n [] [] (row gens k)) (hi : IsoOk n [] [] (idL n)) : GoodG n (genA gens n) := by
  unfold genA
  exact GoodG.genF hg 13 _ 0 (goodG_unit hi)
theorem GoodG.pos {n : Nat} {out : List (List Int)} (h : GoodG n out) (h1 : 1 ≤ n) : ∀ i, i < out.length → 0 < (Go.Proofs.Ytjbloenjphpngaa.row out i).length := fun i hi => by rw [(h.row hi).1]; omega

/-! ### in order -/
theorem sortedS_unique : ∀ {l m : List (List Int)}, l.Pairwise (· < ·) → m.Pairwise (· < ·) → l.Perm m → l = m
  | [], m, _, _, h => (List.Perm.nil_eq h)
  | x :: r, [], _, _, h => by have := h.length_eq; simp at this
  | x :: r, y :: s, h1, h2, h => by
    rw [List.pairwise_cons] at h1 h2
    have hx : x ∈ y :: s := (h.mem_iff).1 (by simp)
    have hy : y ∈ x :: r := (h.mem_iff).2 (by simp)
    have e : x = y := by
      rcases List.mem_cons.1 hx with e | e
      · exact e
      · rcases List.mem_cons.1 hy with e2 | e2
        · exact e2.symm
        · exact absurd (less_trans (h1.1 y e2) (h2.1 x e)) (less_irrefl x)
    subst e
    rw [sortedS_unique h1.2 h2.2 ((List.perm_cons x).1 h)]
theorem rowG_mem {S : List (List Int)} {i : Nat} (h : i < S.length) : row S i ∈ S := by rw [row_eq]; simp [List.getD, h]
theorem mem_row {S : List (List Int)} {p : List Int} (h : p ∈ S) : ∃ i, i < S.length ∧ row S i = p := by
  obtain ⟨i, hi, e⟩ := List.getElem_of_mem h
  exact ⟨i, hi, by rw [row_eq]; simp [List.getD, hi, e]⟩
theorem sorted_row {S : List (List Int)} (h : S.Pairwise (· < ·)) {i j : Nat} (hij : i < j) (hj : j < S.length) : row S i < row S j := by
  have := (List.pairwise_iff_getElem.1 h) i j (by omega) hj hij
  rw [row_eq, row_eq]; simpa [List.getD, hj, show i < S.length by omega] using this
/-- a list is put at its place -/
theorem put_sorted {S : List (List Int)} {p : List Int} {k : Nat} (h : S.Pairwise (· < ·)) (hk : k ≤ S.length) (h1 : ∀ i, i < k → row S i < p) (h2 : ∀ i, k ≤ i → i < S.length → ¬ row S i < p) (hp : p ∉ S) : (S.take k ++ ([p] ++ S.drop k)).Pairwise (· < ·) := by
  rw [List.pairwise_append]
  refine ⟨h.take, ?_, fun a ha b hb => ?_⟩
  · rw [List.singleton_append, List.pairwise_cons]
    refine ⟨fun b hb => ?_, h.drop⟩
    obtain ⟨i, hi, e⟩ := List.getElem_of_mem hb
    rw [List.length_drop] at hi
    have e2 : row S (k + i) = b := by rw [row_eq]; rw [List.getElem_drop] at e; simp [List.getD, show k + i < S.length by omega, e]
    have hn := h2 (k + i) (by omega) (by omega)
    rw [e2] at hn
    rcases less_tri p b with g | g | g
    · exact g
    · exact absurd (by rw [g, ← e2]; exact rowG_mem (by omega)) hp
    · exact absurd g hn
  · obtain ⟨i, hi, e⟩ := List.getElem_of_mem ha
    rw [List.length_take] at hi
    have e2 : row S i = a := by rw [row_eq]; rw [List.getElem_take] at e; simp [List.getD, show i < S.length by omega, e]
    have hap := h1 i (by omega)
    rw [e2] at hap
    rw [List.singleton_append] at hb
    rcases List.mem_cons.1 hb with rfl | hb
    · exact hap
    · obtain ⟨j, hj, e3⟩ := List.getElem_of_mem hb
      rw [List.length_drop] at hj
      have e4 : row S (k + j) = b := by rw [row_eq]; rw [List.getElem_drop] at e3; simp [List.getD, show k + j < S.length by omega, e3]
      rw [← e2, ← e4]
      exact sorted_row h (by omega) (by omega)
theorem put_perm {S : List (List Int)} {p : List Int} {k : Nat} : (S.take k ++ ([p] ++ S.drop k)).Perm (p :: S) := by
  have h1 : (S.take k ++ ([p] ++ S.drop k)).Perm ([p] ++ (S.take k ++ S.drop k)) := by
    rw [← List.append_assoc, ← List.append_assoc]
    exact (List.perm_append_comm).append_right _
  rw [List.take_append_drop] at h1
  exact h1
/-- found at its place exactly if it is there -/
theorem put_known {S : List (List Int)} {p : List Int} {k : Nat} (h : S.Pairwise (· < ·)) (h1 : ∀ i, i < k → row S i < p) (h2 : ∀ i, k ≤ i → i < S.length → ¬ row S i < p) : (k < S.length ∧ row S k = p) ↔ p ∈ S := by
  constructor
  · rintro ⟨hk, e⟩; rw [← e]; exact rowG_mem hk
  · intro hp
    obtain ⟨j, hj, e⟩ := mem_row hp
    have hkj : k ≤ j := by
      apply Classical.byContradiction
      intro hn
      have := h1 j (by omega)
      rw [e] at this
      exact less_irrefl p this
    have hjk : ¬ k < j := fun hlt => by
      have := sorted_row h hlt hj
      rw [e] at this
      exact h2 k (Nat.le_refl _) (by omega) this
    have : k = j := by omega
    subst this
    exact ⟨hj, e⟩
/-- the elements in order -/
@[irreducible] noncomputable def sortS (R : List (List Int)) : List (List Int) := R.mergeSort (fun a b => !decide (b < a))
theorem sortS_eq {R S : List (List Int)} (hn : R.Nodup) (hp : S.Perm R) (hs : S.Pairwise (· < ·)) : S = sortS R := by
  refine sortedS_unique hs ?_ (hp.trans (by unfold sortS; exact (List.mergeSort_perm R _).symm))
  unfold sortS
  have h1 := List.pairwise_mergeSort (le := fun (a b : List Int) => !decide (b < a)) (fun a b c h1 h2 => by
    simp at *
    intro hca
    rcases less_tri a b with g | g | g
    · exact h2 (less_trans hca g)
    · subst g; exact h2 hca
    · exact h1 g) (fun a b => by
    simp
    rcases less_tri a b with g | g | g
    · exact .inl (fun e => less_irrefl a (less_trans g e))
    · subst g; exact .inl (less_irrefl a)
    · exact .inr (fun e => less_irrefl a (less_trans e g))) R
  have hnd : (R.mergeSort (fun a b => !decide (b < a))).Nodup := (List.mergeSort_perm R _).nodup_iff.2 hn
  have h2 := List.pairwise_and_iff.2 ⟨h1, hnd⟩
  refine h2.imp fun {a b} ⟨h, hne⟩ => ?_
  simp at h
  rcases less_tri a b with g | g | g
  · exact g
  · exact absurd g hne
  · exact absurd g h
theorem sortS_perm (R : List (List Int)) : (sortS R).Perm R := by unfold sortS; exact List.mergeSort_perm R _
theorem length_sortS (R : List (List Int)) : (sortS R).length = R.length := (sortS_perm R).length_eq
/-- the index of a list in lists, or -1 -/
def findL (S : List (List Int)) (p : List Int) : Int := findIx (fun r => eqIB r p) S
theorem findL_eq (S : List (List Int)) (p : List Int) : findIx (fun r => eqIB r p) S = findL S p := rfl
theorem anyB_mem (S : List (List Int)) (p : List Int) : anyB (fun r => eqIB r p) S = decide (p ∈ S) := by
  unfold anyB
  rw [Bool.eq_iff_iff, List.any_eq_true, decide_eq_true_iff]
  constructor
  · rintro ⟨x, h1, h2⟩; rw [← eqIB_iff.1 h2]; exact h1
  · intro h; exact ⟨p, h, eqIB_yes rfl⟩
/-- no permutation of n elements -/
@[irreducible] def sysBad (n : Int) (p : List Int) : Bool := decide ((p.length : Int) ≠ n) || !permB p
theorem sysBad_no {n : Int} {p : List Int} : sysBad n p = false ↔ (p.length : Int) = n ∧ permB p = true := by unfold sysBad; simp
@[irreducible] def sysB (n : Int) (gens : List (List Int)) : Bool := inR n 1 12 && decide (gens.length ≤ 16) && !anyB (sysBad n) gens
theorem sysB_no1 {n : Int} {gens : List (List Int)} (h : inR n 1 12 = false) : sysB n gens = false := by unfold sysB; rw [h]; rfl
theorem sysB_no2 {n : Int} {gens : List (List Int)} (h : ¬ gens.length ≤ 16) : sysB n gens = false := by unfold sysB; simp [h]
theorem sysB_any {n : Int} {gens : List (List Int)} (h : inR n 1 12 = true) (h2 : gens.length ≤ 16) : sysB n gens = !anyB (sysBad n) gens := by unfold sysB; simp [h, h2]
theorem sysB_no3 {n : Int} {gens : List (List Int)} {k : Nat} (hk : k < gens.length) (hb : sysBad n (row gens k) = true) : sysB n gens = false := by
  have : anyB (sysBad n) gens = true := by
    unfold anyB; rw [List.any_eq_true]; exact ⟨_, rowG_mem hk, hb⟩
  unfold sysB; rw [this]; simp
theorem sysB_yes {n : Int} {gens : List (List Int)} (h : inR n 1 12 = true) (h2 : gens.length ≤ 16) (h3 : ∀ k, k < gens.length → sysBad n (row gens k) = false) : sysB n gens = true := by
  rw [sysB_any h h2]
  have : anyB (sysBad n) gens = false := by
    unfold anyB; rw [List.any_eq_false]
    intro x hx
    obtain ⟨k, hk, e⟩ := mem_row hx
    rw [← e, h3 k hk]; simp
  rw [this]; rfl
theorem sysB_ok {n : Int} {gens : List (List Int)} (h : sysB n gens = true) : (1 ≤ n ∧ n ≤ 12) ∧ gens.length ≤ 16 ∧ ∀ k, k < gens.length → IsoOk n.toNat [] [] (row gens k) := by
  unfold sysB at h
  simp only [Bool.and_eq_true, decide_eq_true_eq, Bool.not_eq_true'] at h
  obtain ⟨⟨h1, h2⟩, h3⟩ := h
  refine ⟨inR_iff.1 h1, h2, fun k hk => ?_⟩
  have h4 : sysBad n (row gens k) = false := by
    unfold anyB at h3
    rw [List.any_eq_false] at h3
    have := h3 _ (rowG_mem hk)
    simpa using this
  obtain ⟨h5, h6⟩ := sysBad_no.1 h4
  exact isoOk_plain.2 ⟨by omega, permB_iff.1 h6⟩
/-- the table of the group, if it has at most 12 elements -/
noncomputable def gopS (n : Int) (gens : List (List Int)) : List (List Int) := sortS (genA gens n.toNat)
def gopE (S : List (List Int)) (x y : Nat) : Int := findL S (thenL (row S x) (row S y))
@[irreducible] noncomputable def gopV (n : Int) (gens : List (List Int)) : List (List Int) := if sysB n gens = true ∧ (genA gens n.toNat).length ≤ 12 then mkT (gopS n gens).length (gopE (gopS n gens)) else []
@[irreducible] noncomputable def gopC (n : Int) (gens : List (List Int)) : Int := if sysB n gens = true then (if (genA gens n.toNat).length ≤ 12 then 0 else 3) else 1
theorem gop_no {n : Int} {gens : List (List Int)} (h : sysB n gens = false) : gopV n gens = [] ∧ gopC n gens = 1 := by unfold gopV gopC; simp [h]
theorem gop_big {n : Int} {gens : List (List Int)} (h : sysB n gens = true) (h2 : ¬ (genA gens n.toNat).length ≤ 12) : gopV n gens = [] ∧ gopC n gens = 3 := by unfold gopV gopC; simp [h, h2]
theorem gop_yes {n : Int} {gens : List (List Int)} (h : sysB n gens = true) (h2 : (genA gens n.toNat).length ≤ 12) : gopV n gens = mkT (gopS n gens).length (gopE (gopS n gens)) ∧ gopC n gens = 0 := by unfold gopV gopC; simp [h, h2]
end Go.Proofs.Ytjbloenjphpngaa

/-
  Braces: plain.
-/
namespace Go.Proofs.Ytjbloenjphpngaa
set_option linter.unusedVariables false
set_option linter.unusedSimpArgs false

/-- x o (y + z) -/
@[irreducible] def leftF (t u : List (List Int)) (x y z : Nat) : Int := ent u x (ent t y z).toNat
/-- ((x o y) - x) + (x o z) -/
@[irreducible] def rightF (t u : List (List Int)) (x y z : Nat) : Int := ent t (ent t (ent u x y).toNat (backF t x).toNat).toNat (ent u x z).toNat
theorem leftF_def (t u : List (List Int)) (x y z : Nat) : ent u x (ent t y z).toNat = leftF t u x y z := by unfold leftF; rfl
theorem rightF_def (t u : List (List Int)) (x y z : Nat) : ent t (ent t (ent u x y).toNat (backF t x).toNat).toNat (ent u x z).toNat = rightF t u x y z := by unfold rightF; rfl
def NoZ (t u : List (List Int)) (x y k : Nat) : Prop := ∀ z, z < k → leftF t u x y z = rightF t u x y z
def NoY (t u : List (List Int)) (x k : Nat) : Prop := ∀ y, y < k → NoZ t u x y t.length
def NoX (t u : List (List Int)) (k : Nat) : Prop := ∀ x, x < k → NoY t u x t.length
theorem NoZ.zero (t u x y) : NoZ t u x y 0 := all_zero
theorem NoZ.succ {t u x y k} (h : NoZ t u x y k) (hk : leftF t u x y k = rightF t u x y k) : NoZ t u x y (k + 1) := all_succ h hk
theorem NoY.zero (t u x) : NoY t u x 0 := all_zero
theorem NoY.succ {t u x k} (h : NoY t u x k) (hk : NoZ t u x k t.length) : NoY t u x (k + 1) := all_succ h hk
theorem NoX.zero (t u) : NoX t u 0 := all_zero
theorem NoX.succ {t u k} (h : NoX t u k) (hk : NoY t u k t.length) : NoX t u (k + 1) := all_succ h hk
/-- l is the first fault, or there is none and l is empty -/
def IsFault (t u : List (List Int)) (l : List Int) : Prop :=
  (l = [] ∧ NoX t u t.length) ∨ ∃ x y z : Nat, x < t.length ∧ y < t.length ∧ z < t.length ∧ l = [(x : Int), (y : Int), (z : Int)] ∧ leftF t u x y z ≠ rightF t u x y z ∧ NoX t u x ∧ NoY t u x y ∧ NoZ t u x y z
theorem IsFault.uniq {t u : List (List Int)} {l m : List Int} (h : IsFault t u l) (k : IsFault t u m) : l = m := by
  rcases h with ⟨rfl, h⟩ | ⟨x, y, z, hx, hy, hz, rfl, hb, h1, h2, h3⟩
  · rcases k with ⟨rfl, _⟩ | ⟨x, y, z, hx, hy, hz, rfl, hb, _, _, _⟩
    · rfl
    · exact absurd (h x hx y hy z hz) hb
  · rcases k with ⟨rfl, k⟩ | ⟨x', y', z', hx', hy', hz', rfl, hb', k1, k2, k3⟩
    · exact absurd (k x hx y hy z hz) hb
    · have ex : x = x' := by
        rcases Nat.lt_trichotomy x x' with g | g | g
        · exact absurd (k1 x g y hy z hz) hb
        · exact g
        · exact absurd (h1 x' g y' hy' z' hz') hb'
      subst ex
      have ey : y = y' := by
        rcases Nat.lt_trichotomy y y' with g | g | g
        · exact absurd (k2 y g z hz) hb
        · exact g
        · exact absurd (h2 y' g z' hz') hb'
      subst ey
      have ez : z = z' := by
        rcases Nat.lt_trichotomy z z' with g | g | g
        · exact absurd (k3 z g) hb
        · exact g
        · exact absurd (h3 z' g) hb'
      subst ez
      rfl
open Classical in
/-- the first fault, or the empty list -/
@[irreducible] noncomputable def faultL (t u : List (List Int)) : List Int := if h : ∃ l, IsFault t u l then h.choose else []
theorem faultL_eq {t u : List (List Int)} {l : List Int} (h : IsFault t u l) : faultL t u = l := by
  unfold faultL
  rw [dif_pos ⟨l, h⟩]
  exact IsFault.uniq (Exists.choose_spec (p := fun l => IsFault t u l) ⟨l, h⟩) h
theorem faultL_none {t u : List (List Int)} (h : NoX t u t.length) : faultL t u = [] := faultL_eq (.inl ⟨rfl, h⟩)
theorem faultL_at {t u : List (List Int)} {x y z : Nat} (hx : x < t.length) (hy : y < t.length) (hz : z < t.length) (hb : leftF t u x y z ≠ rightF t u x y z) (h1 : NoX t u x) (h2 : NoY t u x y) (h3 : NoZ t u x y z) : faultL t u = [(x : Int), (y : Int), (z : Int)] :=
  faultL_eq (.inr ⟨x, y, z, hx, hy, hz, rfl, hb, h1, h2, h3⟩)

/-- both are groups of equally many elements -/
@[irreducible] def twoB (t u : List (List Int)) : Bool := groupB t && (groupB u && decide (t.length = u.length))
theorem twoB_iff {t u : List (List Int)} : twoB t u = true ↔ GroupOk t ∧ GroupOk u ∧ t.length = u.length := by
  unfold twoB; simp [groupB_iff]
theorem twoB_1 {t u : List (List Int)} (h : groupB t = false) : twoB t u = false := by unfold twoB; simp [h]
theorem twoB_2 {t u : List (List Int)} (h : groupB u = false) : twoB t u = false := by unfold twoB; simp [h]
theorem twoB_3 {t u : List (List Int)} (h : t.length ≠ u.length) : twoB t u = false := by unfold twoB; simp [h]
theorem twoB_yes {t u : List (List Int)} (h : groupB t = true) (h2 : groupB u = true) (h3 : t.length = u.length) : twoB t u = true := by unfold twoB; simp [h, h2, h3]
/-- a brace -/
@[irreducible] noncomputable def braceB (t u : List (List Int)) : Bool := twoB t u && (faultL t u).isEmpty
theorem braceB_1 {t u : List (List Int)} (h : twoB t u = false) : braceB t u = false := by unfold braceB; simp [h]
theorem braceB_2 {t u : List (List Int)} (h : faultL t u ≠ []) : braceB t u = false := by unfold braceB; simp [h]
theorem braceB_yes {t u : List (List Int)} (h : twoB t u = true) (h2 : faultL t u = []) : braceB t u = true := by unfold braceB; simp [h, h2]
theorem braceB_two {t u : List (List Int)} (h : braceB t u = true) : twoB t u = true := by
  cases h' : twoB t u with
  | true => rfl
  | false => rw [braceB_1 h'] at h; cases h
theorem braceB_fault {t u : List (List Int)} (h : braceB t u = true) : faultL t u = [] := by
  apply Classical.byContradiction
  intro h'; rw [braceB_2 h'] at h; cases h
theorem braceB_ok {t u : List (List Int)} (h : braceB t u = true) : GroupOk t ∧ GroupOk u ∧ t.length = u.length := twoB_iff.1 (braceB_two h)
@[irreducible] noncomputable def codeB (t u : List (List Int)) : Int := if braceB t u = true then 0 else 1
theorem codeB_yes {t u} (h : braceB t u = true) : codeB t u = 0 := by unfold codeB; rw [if_pos h]
theorem codeB_no {t u} (h : braceB t u = false) : codeB t u = 1 := by unfold codeB; rw [if_neg (by rw [h]; simp)]
@[irreducible] noncomputable def ifB {α : Type} (t u : List (List Int)) (a d : α) : α := if braceB t u = true then a else d
theorem ifB_yes {α : Type} {t u} {a d : α} (h : braceB t u = true) : ifB t u a d = a := by unfold ifB; rw [if_pos h]
theorem ifB_no {α : Type} {t u} {a d : α} (h : braceB t u = false) : ifB t u a d = d := by unfold ifB; rw [if_neg (by rw [h]; simp)]
end Go.Proofs.Ytjbloenjphpngaa

/-
  Isomorphisms of groups: 0 goes to 0, and there are few. Plain.
-/
namespace Go.Proofs.Ytjbloenjphpngaa
set_option linter.unusedVariables false
set_option linter.unusedSimpArgs false

theorem grp_inj_r {t : List (List Int)} (h : GroupOk t) {x y z : Nat} (hx : x < t.length) (hy : y < t.length) (hz : z < t.length) (e : ent t y x = ent t z x) : y = z := by
  obtain ⟨b0, b1, b2⟩ := backF_ok h hx
  have a1 := grp_assoc h hy hx (z := (backF t x).toNat) (by omega)
  have a2 := grp_assoc h hz hx (z := (backF t x).toNat) (by omega)
  rw [e, a2, b2] at a1
  have e1 := grp_unit_r h hy
  have e2 := grp_unit_r h hz
  simp only [Int.toNat_zero] at a1
  omega
theorem IsoOk.zero {n : Nat} {az bz : List (List (List Int))} {p : List Int} (hp : IsoOk n az bz p) (h0 : 0 < az.length) (hA : GroupOk (tab az 0)) (hB : GroupOk (tab bz 0)) (la : (tab az 0).length = n) (lb : (tab bz 0).length = n) : ix p 0 = 0 := by
  have h1 : 1 ≤ n := by have := hA.1.1; omega
  have hb := hp.bd (x := 0) (by omega)
  have hm := hp.2.2 0 h0 0 (by omega) 0 (by omega)
  rw [grp_unit_l hA (by omega)] at hm
  have hu := grp_unit_r hB (x := (ix p 0).toNat) (by omega)
  have := grp_inj hB (x := (ix p 0).toNat) (y := 0) (z := (ix p 0).toNat) (by omega) (by omega) (by omega) (by
    rw [hu, ← hm]
    simp
    omega)
  omega
theorem extL_zero {n : Nat} {az bz : List (List (List Int))} (h0 : 0 < az.length) (hA : GroupOk (tab az 0)) (hB : GroupOk (tab bz 0)) (la : (tab az 0).length = n) (lb : (tab bz 0).length = n) : extL n az bz [0] = isoL n az bz :=
  extL_all fun p hp i hi _ => by
    have : i = 0 := by simpa using hi
    subst this
    rw [hp.zero h0 hA hB la lb, ix_eq]; rfl

theorem nodup_filter {α : Type} {l : List α} (p : α → Bool) (h : l.Nodup) : (l.filter p).Nodup := by
  rw [List.nodup_iff_pairwise_ne] at h ⊢
  exact h.filter _
/-- where all of M agree -/
def Agr (M : List (List Int)) (x : Nat) : Prop := ∀ p, p ∈ M → ∀ q, q ∈ M → ix p x = ix q x
open Classical in
noncomputable def agrL (n : Nat) (M : List (List Int)) : List Nat := (List.range n).filter fun x => decide (Agr M x)
theorem mem_agrL {n : Nat} {M : List (List Int)} {x : Nat} : x ∈ agrL n M ↔ x < n ∧ Agr M x := by
  unfold agrL; rw [List.mem_filter, List.mem_range]; simp
theorem nodup_agrL (n : Nat) (M : List (List Int)) : (agrL n M).Nodup := by
  unfold agrL; exact nodup_filter _ List.nodup_range
theorem agrL_le (n : Nat) (M : List (List Int)) : (agrL n M).length ≤ n := by
  unfold agrL
  exact Nat.le_trans (List.length_filter_le _ _) (by simp)
/-- the part that leads x to v -/
def part (M : List (List Int)) (x : Nat) (v : Nat) : List (List Int) := M.filter fun p => decide (ix p x = (v : Int))
theorem mem_part {M : List (List Int)} {x v : Nat} {p : List Int} : p ∈ part M x v ↔ p ∈ M ∧ ix p x = (v : Int) := by
  unfold part; rw [List.mem_filter]; simp
theorem len_parts (x B : Nat) : ∀ (n : Nat) (M : List (List Int)), (∀ p, p ∈ M → 0 ≤ ix p x ∧ ix p x < (n : Int)) → (∀ v, v < n → (part M x v).length ≤ B) → M.length ≤ n * B
  | 0, M, hb, _ => by
    cases M with
    | nil => simp
    | cons p M => have := hb p (by simp); omega
  | n + 1, M, hb, hv => by
    have h := List.length_eq_countP_add_countP (fun p : List Int => decide (ix p x = (n : Int))) (l := M)
    have h1 := hv n (by omega)
    unfold part at h1
    rw [← List.countP_eq_length_filter] at h1
    have h2 := len_parts x B n (M.filter fun p => ! decide (ix p x = (n : Int))) (fun p hp => by
        rw [List.mem_filter] at hp
        have := hb p hp.1
        have h3 : ¬ ix p x = (n : Int) := by simpa using hp.2
        omega) (fun v hvn => by
        refine Nat.le_trans ?_ (hv v (by omega))
        unfold part
        rw [List.filter_filter, ← List.countP_eq_length_filter, ← List.countP_eq_length_filter]
        exact List.countP_mono_left fun p _ => by simp; intro a _; exact a)
    rw [← List.countP_eq_length_filter] at h2
    have e : List.countP (fun p : List Int => ! decide (ix p x = (n : Int))) M = List.countP (fun a : List Int => decide (¬ (decide (ix a x = (n : Int))) = true)) M := by
      congr 1; funext p; simp
    rw [e] at h2
    rw [Nat.add_mul, Nat.one_mul]
    omega
section
variable {n : Nat} {az bz : List (List (List Int))} (h0 : 0 < az.length) (hA : GroupOk (tab az 0)) (hB : GroupOk (tab bz 0)) (la : (tab az 0).length = n) (lb : (tab bz 0).length = n)
include h0 hA hB la lb
omit hA hB la lb in
theorem agr_mul {M : List (List Int)} (hM : ∀ p, p ∈ M → IsoOk n az bz p) {x y : Nat} (hx : x < n) (hy : y < n) (ax : Agr M x) (ay : Agr M y) : Agr M (ent (tab az 0) x y).toNat := fun p hp q hq => by
  rw [(hM p hp).2.2 0 h0 x hx y hy, (hM q hq).2.2 0 h0 x hx y hy, ax p hp q hq, ay p hp q hq]
omit hA la in
theorem agr_back {M : List (List Int)} (hM : ∀ p, p ∈ M → IsoOk n az bz p) {x y : Nat} (hx : x < n) (hy : y < n) (ay : Agr M y) (axy : Agr M (ent (tab az 0) x y).toNat) : Agr M x := fun p hp q hq => by
  have h := axy p hp q hq
  rw [(hM p hp).2.2 0 h0 x hx y hy, (hM q hq).2.2 0 h0 x hx y hy, ay p hp q hq] at h
  have b1 := (hM p hp).bd hx
  have b2 := (hM q hq).bd hx
  have b3 := (hM q hq).bd hy
  have := grp_inj_r hB (x := (ix q y).toNat) (y := (ix p x).toNat) (z := (ix q x).toNat) (by omega) (by omega) (by omega) h
  omega
theorem agr_two {M : List (List Int)} (hM : ∀ p, p ∈ M → IsoOk n az bz p) {x v : Nat} (hx : x < n) (hn : ¬ Agr M x) : 2 * (agrL n M).length ≤ (agrL n (part M x v)).length := by
  have hs : ∀ y, Agr M y → Agr (part M x v) y := fun y h p hp q hq => h p (mem_part.1 hp).1 q (mem_part.1 hq).1
  have hP : ∀ p, p ∈ part M x v → IsoOk n az bz p := fun p hp => hM p (mem_part.1 hp).1
  have hax : Agr (part M x v) x := fun p hp q hq => by rw [(mem_part.1 hp).2, (mem_part.1 hq).2]
  have hbd : ∀ y, y < n → 0 ≤ ent (tab az 0) x y ∧ (ent (tab az 0) x y).toNat < n := fun y hy => by
    have := hA.1.bd (x := x) (y := y) (by omega) (by omega)
    omega
  have h := nodup_le (agrL n M ++ (agrL n M).map fun y => (ent (tab az 0) x y).toNat) (agrL n (part M x v)) (by
      rw [List.nodup_append]
      refine ⟨nodup_agrL _ _, ?_, ?_⟩
      · rw [List.nodup_iff_pairwise_ne, List.pairwise_map]
        have hn2 := nodup_agrL n M
        rw [List.nodup_iff_pairwise_ne] at hn2
        refine hn2.imp_of_mem ?_
        intro a b ha hb hab e
        have ba := hbd a (mem_agrL.1 ha).1
        have bb := hbd b (mem_agrL.1 hb).1
        exact hab (grp_inj hA (x := x) (by omega) (by have := (mem_agrL.1 ha).1; omega) (by have := (mem_agrL.1 hb).1; omega) (by omega))
      · intro a ha b hb e
        rw [List.mem_map] at hb
        obtain ⟨y, hy, rfl⟩ := hb
        subst e
        exact hn (agr_back h0 hB lb hM hx (mem_agrL.1 hy).1 (mem_agrL.1 hy).2 (mem_agrL.1 ha).2))
    (fun y hy => by
      rw [List.mem_append, List.mem_map] at hy
      rcases hy with hy | ⟨z, hz, rfl⟩
      · exact mem_agrL.2 ⟨(mem_agrL.1 hy).1, hs y (mem_agrL.1 hy).2⟩
      · exact mem_agrL.2 ⟨(hbd z (mem_agrL.1 hz).1).2, agr_mul h0 hP hx (mem_agrL.1 hz).1 hax (hs z (mem_agrL.1 hz).2)⟩)
  rw [List.length_append, List.length_map] at h
  omega
theorem few : ∀ (f : Nat) (M : List (List Int)), M.Nodup → (∀ p, p ∈ M → IsoOk n az bz p) → n < 2 ^ f * (agrL n M).length → M.length ≤ n ^ f
  | 0, M, _, _, hl => by have := agrL_le n M; omega
  | f + 1, M, hn, hM, hl => by
    have h1 : 1 ≤ n := by have := hA.1.1; omega
    by_cases hall : ∀ x, x < n → Agr M x
    · have : M.length ≤ 1 := by
        rcases M with _ | ⟨p, _ | ⟨q, r⟩⟩
        · simp
        · simp
        · have hpq : p = q := ix_ext (by rw [(hM p (by simp)).1, (hM q (by simp)).1]) fun i hi => hall i (by rw [(hM p (by simp)).1] at hi; exact hi) p (by simp) q (by simp)
          subst hpq
          simp at hn
      exact Nat.le_trans this (Nat.pow_pos (by omega))
    · obtain ⟨x, hx⟩ := Classical.not_forall.1 hall
      obtain ⟨hx, hna⟩ := Classical.not_imp.1 hx
      have := len_parts x (n ^ f) n M (fun p hp => by have := (hM p hp).bd hx; omega) (fun v _ => few f (part M x v) (by unfold part; exact nodup_filter _ hn) (fun p hp => hM p (mem_part.1 hp).1) (by
        have h2 := agr_two h0 hA hB la lb hM (v := v) hx hna
        rw [Nat.pow_succ] at hl
        have h3 := Nat.mul_le_mul_left (2 ^ f) h2
        rw [← Nat.mul_assoc] at h3
        omega))
      rw [Nat.pow_succ, Nat.mul_comm]
      exact this
theorem few_iso (h12 : n ≤ 12) : (isoL n az bz).length ≤ 1000000 := by
  have h1 : 1 ≤ n := by have := hA.1.1; omega
  have hnd : (isoL n az bz).Nodup := by
    have := nodup_extL n az bz [0]
    rwa [extL_zero h0 hA hB la lb] at this
  have := few h0 hA hB la lb 4 (isoL n az bz) hnd (fun p hp => mem_isoL.1 hp) (by
    have : 0 < (agrL n (isoL n az bz)).length := List.length_pos_of_mem (a := 0) (mem_agrL.2 ⟨by omega, fun p hp q hq => by
      rw [(mem_isoL.1 hp).zero h0 hA hB la lb, (mem_isoL.1 hq).zero h0 hA hB la lb]⟩)
    omega)
  have h2 : n ^ 4 ≤ 12 ^ 4 := Nat.pow_le_pow_left h12 4
  omega
theorem take_iso (h12 : n ≤ 12) : (extL n az bz [0]).take 1000000 = isoL n az bz := by
  rw [extL_zero h0 hA hB la lb]
  exact List.take_of_length_le (few_iso h0 hA hB la lb h12)
end
/-- the first of the isomorphisms, or nothing -/
@[irreducible] noncomputable def isoF (az bz : List (List (List Int))) : List Int := if (tab az 0).length = (tab bz 0).length then (isoL (tab az 0).length az bz).headD [] else []
theorem isoF_len {az bz : List (List (List Int))} (h : ¬ (tab az 0).length = (tab bz 0).length) : isoF az bz = [] := by unfold isoF; rw [if_neg h]
theorem isoF_nil {n : Nat} {az bz : List (List (List Int))} (ha : (tab az 0).length = n) (h : isoL n az bz = []) : isoF az bz = [] := by
  unfold isoF
  subst ha
  split
  · rw [h]; rfl
  · rfl
theorem isoF_cons {n : Nat} {az bz : List (List (List Int))} (ha : (tab az 0).length = n) (hb : (tab bz 0).length = n) {p : List Int} {r : List (List Int)} (h : isoL n az bz = p :: r) : isoF az bz = p := by
  unfold isoF
  subst ha
  rw [if_pos (by omega), h]; rfl
theorem isoF_ne {n : Nat} {az bz : List (List (List Int))} (h1 : 1 ≤ n) {p : List Int} {r : List (List Int)} (h : isoL n az bz = p :: r) : p.length = n ∧ 0 < p.length := by
  have := (mem_isoL.1 (show p ∈ isoL n az bz by rw [h]; simp)).1
  omega
end Go.Proofs.Ytjbloenjphpngaa

/-
  A finite group on the numbers below n; subgroups' sizes are divisors: plain.
-/
namespace Go.Proofs.Ytjbloenjphpngaa
set_option linter.unusedVariables false
set_option linter.unusedSimpArgs false

/-- m is the multiplication of a group on the numbers below n, v its inverse, 0 its unit -/
structure Grp (n : Nat) (m : Nat → Nat → Nat) (v : Nat → Nat) : Prop where
  bd : ∀ x, x < n → ∀ y, y < n → m x y < n
  vb : ∀ x, x < n → v x < n
  assoc : ∀ x, x < n → ∀ y, y < n → ∀ z, z < n → m (m x y) z = m x (m y z)
  ul : ∀ x, x < n → m 0 x = x
  ur : ∀ x, x < n → m x 0 = x
  vl : ∀ x, x < n → m (v x) x = 0
  vr : ∀ x, x < n → m x (v x) = 0
section
variable {n : Nat} {m : Nat → Nat → Nat} {v : Nat → Nat} (h : Grp n m v)
include h
theorem Grp.inj_l {x y z : Nat} (hx : x < n) (hy : y < n) (hz : z < n) (e : m x y = m x z) : y = z := by
  have h1 := congrArg (m (v x)) e
  rw [← h.assoc _ (h.vb x hx) x hx y hy, ← h.assoc _ (h.vb x hx) x hx z hz, h.vl x hx, h.ul y hy, h.ul z hz] at h1
  exact h1
theorem Grp.inj_r {x y z : Nat} (hx : x < n) (hy : y < n) (hz : z < n) (e : m y x = m z x) : y = z := by
  have h1 := congrArg (fun a => m a (v x)) e
  rw [h.assoc y hy x hx _ (h.vb x hx), h.assoc z hz x hx _ (h.vb x hx), h.vr x hx, h.ur y hy, h.ur z hz] at h1
  exact h1
theorem Grp.v_uniq {x y : Nat} (hx : x < n) (hy : y < n) (e : m x y = 0) : y = v x := h.inj_l hx hy (h.vb x hx) (by rw [e, h.vr x hx])
theorem Grp.v_v {x : Nat} (hx : x < n) : v (v x) = x := (h.v_uniq (h.vb x hx) hx (h.vl x hx)).symm
theorem Grp.v_mul {x y : Nat} (hx : x < n) (hy : y < n) : v (m x y) = m (v y) (v x) := by
  refine (h.v_uniq (h.bd x hx y hy) (h.bd _ (h.vb y hy) _ (h.vb x hx)) ?_).symm
  rw [h.assoc x hx y hy _ (h.bd _ (h.vb y hy) _ (h.vb x hx)), ← h.assoc y hy _ (h.vb y hy) _ (h.vb x hx), h.vr y hy, h.ul _ (h.vb x hx), h.vr x hx]
end
/-- S lists a subgroup -/
structure Sub (n : Nat) (m : Nat → Nat → Nat) (v : Nat → Nat) (S : List Nat) : Prop where
  nodup : S.Nodup
  bd : ∀ x, x ∈ S → x < n
  mul : ∀ x, x ∈ S → ∀ y, y ∈ S → m x y ∈ S
  inv : ∀ x, x ∈ S → v x ∈ S
theorem nodup_map_on {α β : Type} {f : α → β} : ∀ {l : List α}, l.Nodup → (∀ x, x ∈ l → ∀ y, y ∈ l → f x = f y → x = y) → (l.map f).Nodup
  | [], _, _ => List.nodup_nil
  | a :: l, hn, hi => by
    rw [List.nodup_cons] at hn
    rw [List.map_cons, List.nodup_cons]
    refine ⟨fun hm => ?_, nodup_map_on hn.2 (fun x hx y hy => hi x (by simp [hx]) y (by simp [hy]))⟩
    obtain ⟨b, hb, e⟩ := List.mem_map.1 hm
    have := hi b (by simp [hb]) a (by simp) e
    subst this
    exact hn.1 hb
/-- what is left when a part is taken away -/
theorem len_without {α : Type} [DecidableEq α] : ∀ (C L : List α), C.Nodup → L.Nodup → (∀ x, x ∈ C → x ∈ L) → (L.filter fun x => decide (x ∉ C)).length + C.length = L.length
  | [], L, _, _, _ => by simp
  | c :: C, L, hC, hL, hs => by
    rw [List.nodup_cons] at hC
    have ih := len_without C (L.erase c) hC.2 (hL.erase c) (fun x hx => by
      have hne : x ≠ c := fun e => by subst e; exact hC.1 hx
      exact (List.mem_erase_of_ne hne).2 (hs x (by simp [hx])))
    have hc : c ∈ L := hs c (by simp)
    have hl : (L.erase c).length + 1 = L.length := by
      have := List.length_erase_of_mem hc
      have : 0 < L.length := List.length_pos_of_mem hc
      omega
    have hf : (L.filter fun x => decide (x ∉ c :: C)) = ((L.erase c).filter fun x => decide (x ∉ C)) := by
      rw [hL.erase_eq_filter, List.filter_filter]
      refine List.filter_congr fun x _ => ?_
      by_cases e : x = c
      · subst e; simp
      · simp [e]
    rw [hf, List.length_cons]
    omega
/-- Lagrange -/
theorem lagrange {n : Nat} {m : Nat → Nat → Nat} {v : Nat → Nat} (h : Grp n m v) {S : List Nat} (hS : Sub n m v S) : ∀ (k : Nat) (L : List Nat), L.length ≤ k → L.Nodup → (∀ x, x ∈ L → x < n) → (∀ x, x ∈ L → ∀ s, s ∈ S → m x s ∈ L) → S ≠ [] → S.length ∣ L.length
  | 0, L, hk, _, _, _, _ => by
    have : L.length = 0 := by omega
    rw [this]; exact Nat.dvd_zero _
  | k + 1, L, hk, hn, hb, hc, hne => by
    cases L with
    | nil => exact Nat.dvd_zero _
    | cons x L' =>
      have hx : x < n := hb x (by simp)
      have hCn : (S.map (m x)).Nodup := nodup_map_on hS.nodup fun a ha b hb' e => h.inj_l hx (hS.bd a ha) (hS.bd b hb') e
      have hsub : ∀ y, y ∈ S.map (m x) → y ∈ x :: L' := fun y hy => by
        obtain ⟨s, hs, rfl⟩ := List.mem_map.1 hy
        exact hc x (by simp) s hs
      have hlen := len_without (S.map (m x)) (x :: L') hCn hn hsub
      rw [List.length_map] at hlen
      have hpos : 0 < S.length := List.length_pos_iff.2 hne
      have ih := lagrange h hS k ((x :: L').filter fun y => decide (y ∉ S.map (m x))) (by omega) (hn.filter _) (fun y hy => hb y (List.mem_filter.1 hy).1) (fun y hy s hs => by
        obtain ⟨h1, h2⟩ := List.mem_filter.1 hy
        rw [List.mem_filter]
        refine ⟨hc y h1 s hs, ?_⟩
        have h2 : y ∉ S.map (m x) := by simpa using h2
        have hyn := hb y h1
        have hsn := hS.bd s hs
        have : m y s ∉ S.map (m x) := fun hm => by
          obtain ⟨r, hr, e⟩ := List.mem_map.1 hm
          have hrn := hS.bd r hr
          refine h2 (List.mem_map.2 ⟨m r (v s), hS.mul r hr _ (hS.inv s hs), ?_⟩)
          rw [← h.assoc x hx r hrn _ (h.vb s hsn), e, h.assoc y hyn s hsn _ (h.vb s hsn), h.vr s hsn, h.ur y hyn]
        simpa using this) hne
      have e : (x :: L').length = ((x :: L').filter fun y => decide (y ∉ S.map (m x))).length + S.length := by omega
      rw [e]
      exact (Nat.dvd_add_right ih).2 (Nat.dvd_refl _)
theorem sub_divides {n : Nat} {m : Nat → Nat → Nat} {v : Nat → Nat} (h : Grp n m v) {S : List Nat} (hS : Sub n m v S) (hne : S ≠ []) : S.length ∣ n := by
  have := lagrange h hS n (List.range n) (by simp) List.nodup_range (fun x hx => List.mem_range.1 hx) (fun x hx s hs => List.mem_range.2 (h.bd x (List.mem_range.1 hx) s (hS.bd s hs))) hne
  simpa using this
/-- a group's table -/
def mulN (t : List (List Int)) (x y : Nat) : Nat := (ent t x y).toNat
theorem grp_of {t : List (List Int)} (hG : GroupOk t) : Grp t.length (mulN t) (fun x => (backF t x).toNat) := by
  have bd : ∀ x, x < t.length → ∀ y, y < t.length → 0 ≤ ent t x y ∧ (ent t x y).toNat < t.length := fun x hx y hy => by
    have := hG.1.bd (x := x) (y := y) hx hy
    omega
  have hn : 0 < t.length := hG.1.1
  have assoc : ∀ x, x < t.length → ∀ y, y < t.length → ∀ z, z < t.length → mulN t (mulN t x y) z = mulN t x (mulN t y z) := fun x hx y hy z hz => by
    unfold mulN; rw [grp_assoc hG hx hy hz]
  have ul : ∀ x, x < t.length → mulN t 0 x = x := fun x hx => by unfold mulN; rw [grp_unit_l hG hx]; rfl
  have ur : ∀ x, x < t.length → mulN t x 0 = x := fun x hx => by unfold mulN; rw [grp_unit_r hG hx]; rfl
  have vb : ∀ x, x < t.length → (backF t x).toNat < t.length := fun x hx => by have := backF_ok hG hx; omega
  have vr : ∀ x, x < t.length → mulN t x (backF t x).toNat = 0 := fun x hx => by unfold mulN; rw [(backF_ok hG hx).2.2]; rfl
  have bm : ∀ x, x < t.length → ∀ y, y < t.length → mulN t x y < t.length := fun x hx y hy => (bd x hx y hy).2
  refine ⟨bm, vb, assoc, ul, ur, fun x hx => ?_, vr⟩
  have h1 := vb x hx
  have h2 := vb _ h1
  have e := assoc _ h1 x hx _ h1
  rw [vr x hx, ur _ h1] at e
  have e2 := congrArg (fun a => mulN t a (backF t (backF t x).toNat).toNat) e
  rw [assoc _ (bm _ h1 x hx) _ h1 _ h2, vr _ h1, ur _ (bm _ h1 x hx)] at e2
  exact e2
end Go.Proofs.Ytjbloenjphpngaa

/-
  Cosets, first elements of classes, the quotient's table: plain.
-/
namespace Go.Proofs.Ytjbloenjphpngaa
set_option linter.unusedVariables false
set_option linter.unusedSimpArgs false

/-- the places, among the first i, where a label stands that is as large as what is found so far -/
def firTo (c : List Int) : Nat → List Int
  | 0 => []
  | i + 1 => if (ix c i == ((firTo c i).length : Int)) = true then firTo c i ++ [(i : Int)] else firTo c i
theorem firTo_zero (c : List Int) : firTo c 0 = [] := rfl
theorem firTo_yes {c : List Int} {i : Nat} (h : (ix c i == ((firTo c i).length : Int)) = true) : firTo c (i + 1) = firTo c i ++ [(i : Int)] := by simp only [firTo]; rw [if_pos h]
theorem firTo_no {c : List Int} {i : Nat} (h : (ix c i == ((firTo c i).length : Int)) = false) : firTo c (i + 1) = firTo c i := by simp only [firTo]; rw [if_neg (by rw [h]; simp)]
theorem firTo_len (c : List Int) : ∀ i, (firTo c i).length ≤ i
  | 0 => by simp [firTo]
  | i + 1 => by
    have := firTo_len c i
    cases h : (ix c i == ((firTo c i).length : Int)) with
    | true => rw [firTo_yes h]; simp; omega
    | false => rw [firTo_no h]; omega
theorem firTo_get (c : List Int) {k : Nat} (h : (ix c k == ((firTo c k).length : Int)) = true) : ∀ d, ix (firTo c (k + 1 + d)) (firTo c k).length = (k : Int) ∧ (firTo c k).length < (firTo c (k + 1 + d)).length
  | 0 => by rw [Nat.add_zero, firTo_yes h]; exact ⟨ix_append_one _ _, by simp⟩
  | d + 1 => by
    have ⟨h1, h2⟩ := firTo_get c h d
    rw [← Nat.add_assoc]
    cases hb : (ix c (k + 1 + d) == ((firTo c (k + 1 + d)).length : Int)) with
    | true => rw [firTo_yes hb, ix_append_left h2]; exact ⟨h1, by simp; omega⟩
    | false => rw [firTo_no hb]; exact ⟨h1, h2⟩
theorem firTo_at {c : List Int} {k n : Nat} (h : (ix c k == ((firTo c k).length : Int)) = true) (hk : k < n) : ix (firTo c n) (firTo c k).length = (k : Int) ∧ (firTo c k).length < (firTo c n).length := by
  have := firTo_get c h (n - (k + 1))
  rwa [show k + 1 + (n - (k + 1)) = n from by omega] at this
theorem firTo_mono (c : List Int) {k n : Nat} (h : k ≤ n) : (firTo c k).length ≤ (firTo c n).length := by
  induction n with
  | zero => have : k = 0 := by omega
            subst this; exact Nat.le_refl _
  | succ n ih =>
    rcases Nat.lt_or_ge n k with g | g
    · have : k = n + 1 := by omega
      subst this; exact Nat.le_refl _
    · have := ih g
      cases hb : (ix c n == ((firTo c n).length : Int)) with
      | true => rw [firTo_yes hb]; simp; omega
      | false => rw [firTo_no hb]; omega
theorem firTo_mem (c : List Int) : ∀ i j, j < (firTo c i).length → ∃ x : Nat, x < i ∧ ix (firTo c i) j = (x : Int)
  | 0, j, h => by simp [firTo] at h
  | i + 1, j, h => by
    cases hb : (ix c i == ((firTo c i).length : Int)) with
    | false =>
      rw [firTo_no hb] at h ⊢
      obtain ⟨x, h1, h2⟩ := firTo_mem c i j h
      exact ⟨x, by omega, h2⟩
    | true =>
      rw [firTo_yes hb] at h ⊢
      rcases Nat.lt_or_ge j (firTo c i).length with g | g
      · obtain ⟨x, h1, h2⟩ := firTo_mem c i j g
        exact ⟨x, by omega, by rw [ix_append_left g]; exact h2⟩
      · have : j = (firTo c i).length := by simp at h; omega
        subst this
        exact ⟨i, by omega, ix_append_one _ _⟩
theorem firTo_num (l : List Int) : ∀ i, i ≤ l.length → (firTo (numL l) i).length = (seenTo l i).length
  | 0, _ => rfl
  | i + 1, h => by
    have ih := firTo_num l i (by omega)
    have hi := ix_numL l i (by omega)
    cases hb : hasB (seenTo l i) (ix l i) with
    | true =>
      have h1 : numF l i < ((seenTo l i).length : Int) := by
        rw [numF_old hb]
        rcases indexOf_spec (seenTo l i) (ix l i) with ⟨h1, _⟩ | ⟨j, h1, h2, _⟩
        · rw [h1]; omega
        · rw [h2]; omega
      have h2 : (ix (numL l) i == ((firTo (numL l) i).length : Int)) = false := by
        rw [hi, ih]; simp; omega
      rw [firTo_no h2, seenTo_old hb, ih]
    | false =>
      have h2 : (ix (numL l) i == ((firTo (numL l) i).length : Int)) = true := by
        rw [hi, ih, numF_new hb]; simp
      rw [firTo_yes h2, seenTo_new hb]; simp [ih]
theorem num_le (l : List Int) {i : Nat} (h : i < l.length) : ix (numL l) i ≤ ((firTo (numL l) i).length : Int) := by
  rw [ix_numL l i h, firTo_num l i (by omega)]
  cases hb : hasB (seenTo l i) (ix l i) with
  | true =>
    rw [numF_old hb]
    rcases indexOf_spec (seenTo l i) (ix l i) with ⟨h1, _⟩ | ⟨j, h1, h2, _⟩
    · rw [h1]; omega
    · rw [h2]; omega
  | false => rw [numF_new hb]; exact Int.le_refl _

/-- the table of a quotient by classes -/
@[irreducible] def quoN (t : List (List Int)) (c : List Int) : Nat := (firTo c t.length).length
@[irreducible] def quoF (t : List (List Int)) (c : List Int) (i j : Nat) : Int := ix c (ent t (ix (firTo c t.length) i).toNat (ix (firTo c t.length) j).toNat).toNat
theorem quoN_def (t c) : (firTo c t.length).length = quoN t c := by unfold quoN; rfl
theorem quoF_def (t : List (List Int)) (c : List Int) (i j x y : Nat) (h1 : ix (firTo c t.length) i = (x : Int)) (h2 : ix (firTo c t.length) j = (y : Int)) : quoF t c i j = ix c (ent t x y).toNat := by unfold quoF; rw [h1, h2, Int.toNat_natCast, Int.toNat_natCast]
@[irreducible] def quoT (t : List (List Int)) (c : List Int) : List (List Int) := mkT (quoN t c) (quoF t c)
theorem quoT_def (t c) : mkT (quoN t c) (quoF t c) = quoT t c := by unfold quoT; rfl
theorem quoN_le (t c) : quoN t c ≤ t.length := by rw [← quoN_def]; exact firTo_len _ _
theorem quoN_at {t : List (List Int)} {c : List Int} {k : Nat} (hk : k < t.length) (h : (ix c k == ((firTo c k).length : Int)) = true) : (firTo c k).length < quoN t c := by
  rw [← quoN_def]; exact (firTo_at h hk).2
theorem quoN_mono {t : List (List Int)} {c : List Int} {k : Nat} (hk : k ≤ t.length) : (firTo c k).length ≤ quoN t c := by rw [← quoN_def]; exact firTo_mono c hk
theorem quoF_at {t : List (List Int)} {c : List Int} {k j : Nat} (hk : k < t.length) (hj : j < t.length) (h : (ix c k == ((firTo c k).length : Int)) = true) (g : (ix c j == ((firTo c j).length : Int)) = true) : quoF t c (firTo c k).length (firTo c j).length = ix c (ent t k j).toNat :=
  quoF_def _ _ _ _ _ _ (firTo_at h hk).1 (firTo_at g hj).1

/-- the least product of x with members -/
@[irreducible] def cosG (t : List (List Int)) (x : Nat) (e : List Int) : Int := e.foldl (fun a y => min a (ent t x y.toNat)) (x : Int)
theorem cosG_nil (t x) : cosG t x [] = (x : Int) := by unfold cosG; rfl
theorem cosG_add (t : List (List Int)) (x : Nat) (e : List Int) (y : Int) : cosG t x (e ++ [y]) = min (cosG t x e) (ent t x y.toNat) := by unfold cosG; simp
@[irreducible] def cosF (t : List (List Int)) (m x : Nat) : Int := cosG t x (elemsL m)
theorem cosF_def (t m x) : cosG t x (elemsL m) = cosF t m x := by unfold cosF; rfl
@[irreducible] def coL (t : List (List Int)) (m : Nat) : List Int := mkL t.length (cosF t m)
theorem length_coL (t m) : (coL t m).length = t.length := by unfold coL; exact length_mkL _ _
theorem ix_coL (t : List (List Int)) (m i : Nat) (h : i < t.length) : ix (coL t m) i = cosF t m i := by unfold coL; exact ix_mkL _ _ _ h
@[irreducible] def cosL (t : List (List Int)) (m : Nat) : List Int := numL (coL t m)
theorem cosL_def (t m) : numL (coL t m) = cosL t m := by unfold cosL; rfl
theorem length_cosL (t m) : (cosL t m).length = t.length := by rw [← cosL_def, length_numL, length_coL]
theorem cosL_le (t : List (List Int)) (m : Nat) {i : Nat} (h : i < t.length) : ix (cosL t m) i ≤ ((firTo (cosL t m) i).length : Int) := by
  rw [← cosL_def]; exact num_le _ (by rw [length_coL]; exact h)

/-- the code of QuotientGroup; its table -/
@[irreducible] def quoC (t : List (List Int)) (a : Int) : Int := if subC t a = 0 then (if normV t a = true then 0 else 5) else subC t a
@[irreducible] def quoV (t : List (List Int)) (a : Int) : List (List Int) := if quoC t a = 0 then quoT t (cosL t a.toNat) else []
theorem quo_bad {t a} (h : subC t a ≠ 0) : quoC t a = subC t a ∧ quoV t a = [] := by
  have h1 : quoC t a = subC t a := by unfold quoC; rw [if_neg h]
  exact ⟨h1, by unfold quoV; rw [if_neg (by rw [h1]; exact h)]⟩
theorem quo_no {t} {m : Nat} (h : subC t m = 0) (h2 : normB t m = false) : quoC t m = 5 ∧ quoV t m = [] := by
  have h1 : quoC t m = 5 := by unfold quoC; rw [if_pos h, if_neg (by rw [normV_good h, h2]; simp)]
  exact ⟨h1, by unfold quoV; rw [if_neg (by rw [h1]; decide)]⟩
theorem quo_yes {t} {m : Nat} (h : subC t m = 0) (h2 : normB t m = true) : quoC t m = 0 ∧ quoV t m = quoT t (cosL t m) := by
  have h1 : quoC t m = 0 := by unfold quoC; rw [if_pos h, if_pos (by rw [normV_good h, h2])]
  exact ⟨h1, by unfold quoV; rw [if_pos h1, Int.toNat_natCast]⟩
end Go.Proofs.Ytjbloenjphpngaa

/-
  The quotient of a group by a normal subgroup is a group, with as many elements as the index: plain.
-/
namespace Go.Proofs.Ytjbloenjphpngaa
set_option linter.unusedVariables false
set_option linter.unusedSimpArgs false

/-- the table of a multiplication on the numbers below n -/
theorem group_made {n : Nat} {f : Nat → Nat → Int} {g : Nat → Nat → Nat} (h1 : 1 ≤ n) (h2 : n ≤ 12) (hf : ∀ x, x < n → ∀ y, y < n → f x y = ((g x y : Nat) : Int)) (hb : ∀ x, x < n → ∀ y, y < n → g x y < n)
    (ha : ∀ x, x < n → ∀ y, y < n → ∀ z, z < n → g (g x y) z = g x (g y z)) (hl : ∀ x, x < n → g 0 x = x) (hr : ∀ x, x < n → g x 0 = x) (hi : ∀ x, x < n → ∀ y, y < n → ∀ z, z < n → g x y = g x z → y = z) : GroupOk (mkT n f) := by
  have e : ∀ x, x < n → ∀ y, y < n → ent (mkT n f) x y = ((g x y : Nat) : Int) := fun x hx y hy => by rw [ent_mkT _ _ _ _ hx hy, hf x hx y hy]
  have rl : ∀ x, x < n → (row (mkT n f) x).length = n := fun x hx => by rw [row_mkT _ _ _ hx]; exact length_partRow _ _ _ _
  have er : ∀ x y, ent (mkT n f) x y = ix (row (mkT n f) x) y := fun x y => by unfold ent; rfl
  unfold GroupOk TableOk
  rw [length_mkT]
  refine ⟨⟨h1, h2, fun x hx => ⟨rl x hx, fun y hy => ?_⟩⟩, fun x hx => ⟨?_, ?_⟩, fun x hx => ⟨⟨?_, ?_⟩, fun y hy z hz => ?_⟩⟩
  · rw [e x hx y hy]
    have := hb x hx y hy
    omega
  · rw [rl x hx]
    intro y hy
    rw [rl x hx, ← er, e x hx y hy]
    have := hb x hx y hy
    omega
  · rw [rl x hx]
    intro y hy z hz h
    rw [← er, ← er, e x hx y hy, e x hx z (by omega)] at h
    have := hi x hx y hy z (by omega) (by omega)
    omega
  · rw [e 0 (by omega) x hx, hl x hx]
  · rw [e x hx 0 (by omega), hr x hx]
  · rw [e x hx y hy, e y hy z hz, Int.toNat_natCast, Int.toNat_natCast, e _ (hb x hx y hy) z hz, e x hx _ (hb y hy z hz), ha x hx y hy z hz]
/-- a closed set that has 0 has the inverses -/
theorem sub_inv {t : List (List Int)} {mask : Nat} (hG : GroupOk t) (hm : mask < 2 ^ t.length) (hs : subB t mask = true) : bitB mask 0 = true ∧ (∀ x, x < t.length → ∀ y, y < t.length → bitB mask x = true → bitB mask y = true → bitB mask (mulN t x y) = true) ∧ ∀ x, x < t.length → bitB mask x = true → bitB mask (backF t x).toNat = true := by
  have h12 := hG.1.2.1
  rw [subB_def, Bool.and_eq_true] at hs
  obtain ⟨h0, hc⟩ := hs
  have hc := closedB_iff.1 hc
  have hmul : ∀ x, x < t.length → ∀ y, y < t.length → bitB mask x = true → bitB mask y = true → bitB mask (mulN t x y) = true := fun x hx y hy bx bY => hc x hx y hy bx bY
  refine ⟨h0, hmul, fun x hx bx => ?_⟩
  have hg := grp_of hG
  have hpw : ∀ k, bitB mask (pw t x k).toNat = true := fun k => by
    induction k with
    | zero => simpa [pw] using bx
    | succ k ih =>
      have h1 := pw_lt hG.1 hx k
      have := pw_mul hG hx k 0
      have h2 := hmul _ h1 _ (pw_lt hG.1 hx 0) ih (by simpa [pw] using bx)
      unfold mulN at h2
      rw [this] at h2
      exact h2
  obtain ⟨d, hd, hz⟩ := pw_zero hG hx
  cases d with
  | zero =>
    have hx0 : x = 0 := by simp only [pw] at hz; omega
    subst hx0
    have : (backF t 0).toNat = 0 := ((hg.v_uniq hx hx (hg.ul 0 hx))).symm
    rw [this]
    exact h0
  | succ d =>
    have h1 := pw_mul hG hx 0 d
    have h2 : mulN t x (pw t x d).toNat = 0 := by
      unfold mulN
      rw [Nat.zero_add] at h1
      have : (pw t x 0).toNat = x := by simp [pw]
      rw [this, hz] at h1
      rw [h1]; rfl
    rw [← hg.v_uniq hx (pw_lt hG.1 hx d) h2]
    exact hpw d
/-- the least of a list of numbers -/
theorem foldl_min (f : Int → Int) : ∀ (l : List Int) (a : Int), (l.foldl (fun a y => min a (f y)) a ≤ a ∧ ∀ y, y ∈ l → l.foldl (fun a y => min a (f y)) a ≤ f y) ∧ (l.foldl (fun a y => min a (f y)) a = a ∨ ∃ y, y ∈ l ∧ l.foldl (fun a y => min a (f y)) a = f y)
  | [], a => ⟨⟨Int.le_refl _, fun y hy => by simp at hy⟩, .inl rfl⟩
  | z :: l, a => by
    obtain ⟨⟨h1, h2⟩, h3⟩ := foldl_min f l (min a (f z))
    simp only [List.foldl_cons]
    refine ⟨⟨by omega, fun y hy => ?_⟩, ?_⟩
    · rcases List.mem_cons.1 hy with rfl | hy
      · omega
      · exact h2 y hy
    · rcases h3 with e | ⟨y, hy, e⟩
      · rw [e]
        rcases Int.min_def a (f z) ▸ (by omega : (min a (f z) = a ∨ min a (f z) = f z)) with e2 | e2
        · exact .inl e2
        · exact .inr ⟨z, by simp, e2⟩
      · exact .inr ⟨y, by simp [hy], e⟩
section
variable {t : List (List Int)} {mask : Nat} (hG : GroupOk t) (hm : mask < 2 ^ t.length) (hs : subB t mask = true)
include hG hm hs
/-- the label of a coset -/
theorem cosF_spec {x : Nat} (hx : x < t.length) : (∃ y, y < t.length ∧ bitB mask y = true ∧ cosF t mask x = ((mulN t x y : Nat) : Int)) ∧ ∀ y, y < t.length → bitB mask y = true → cosF t mask x ≤ ((mulN t x y : Nat) : Int) := by
  have h12 := hG.1.2.1
  have hg := grp_of hG
  obtain ⟨h0, -, -⟩ := sub_inv hG hm hs
  have hc : ∀ y : Nat, y < t.length → ent t x y = ((mulN t x y : Nat) : Int) := fun y hy => by
    have := hG.1.bd (x := x) (y := y) hx hy
    unfold mulN; omega
  obtain ⟨⟨h1, h2⟩, h3⟩ := foldl_min (fun y => ent t x y.toNat) (elemsL mask) (x : Int)
  have hco : cosF t mask x = (elemsL mask).foldl (fun a y => min a (ent t x y.toNat)) (x : Int) := by rw [← cosF_def]; unfold cosG; rfl
  rw [← hco] at h1 h2 h3
  refine ⟨?_, fun y hy hb => ?_⟩
  · rcases h3 with e | ⟨y, hy, e⟩
    · exact ⟨0, by omega, h0, by rw [e, hg.ur x hx]⟩
    · obtain ⟨i, hi, rfl⟩ := mem_ix hy
      obtain ⟨z, hz, hb, ez⟩ := elemsL_get hm (by omega) hi
      rw [ez, Int.toNat_natCast] at e
      exact ⟨z, hz, hb, by rw [e, hc z hz]⟩
  · obtain ⟨i, hi, e⟩ := elemsL_has hm (by omega) hb
    have := h2 _ (ix_mem _ _ hi)
    rw [e, Int.toNat_natCast, hc y hy] at this
    exact this
/-- labels are equal exactly for elements of one coset -/
theorem cosF_eq {x y : Nat} (hx : x < t.length) (hy : y < t.length) : cosF t mask x = cosF t mask y ↔ ∃ s, s < t.length ∧ bitB mask s = true ∧ y = mulN t x s := by
  have hg := grp_of hG
  obtain ⟨h0, hmul, hinv⟩ := sub_inv hG hm hs
  constructor
  · intro e
    obtain ⟨a, ha, ba, ea⟩ := (cosF_spec hG hm hs hx).1
    obtain ⟨b, hb, bb, eb⟩ := (cosF_spec hG hm hs hy).1
    have hvb := hg.vb b hb
    refine ⟨mulN t a (backF t b).toNat, hg.bd a ha _ hvb, hmul a ha _ hvb ba (hinv b hb bb), ?_⟩
    have e2 : mulN t x a = mulN t y b := by rw [ea, eb] at e; omega
    rw [← hg.assoc x hx a ha _ hvb, e2, hg.assoc y hy b hb _ hvb, hg.vr b hb, hg.ur y hy]
  · rintro ⟨s, hs1, bs, rfl⟩
    have key : ∀ x, x < t.length → ∀ s, s < t.length → bitB mask s = true → cosF t mask x ≤ cosF t mask (mulN t x s) := fun x hx s hs1 bs => by
      obtain ⟨b, hb, bb, eb⟩ := (cosF_spec hG hm hs (hg.bd x hx s hs1)).1
      rw [eb, hg.assoc x hx s hs1 b hb]
      exact (cosF_spec hG hm hs hx).2 _ (hg.bd s hs1 b hb) (hmul s hs1 b hb bs bb)
    have h1 := key x hx s hs1 bs
    have h2 := key _ hy _ (hg.vb s hs1) (hinv s hs1 bs)
    rw [hg.assoc x hx s hs1 _ (hg.vb s hs1), hg.vr s hs1, hg.ur x hx] at h2
    omega
end
/-- the number of a coset -/
def clsN (t : List (List Int)) (mask x : Nat) : Nat := (ix (cosL t mask) x).toNat
theorem firTo_lab (c : List Int) : ∀ i j, j < (firTo c i).length → ∃ x : Nat, x < i ∧ ix (firTo c i) j = (x : Int) ∧ ix c x = (j : Int)
  | 0, j, h => by simp [firTo] at h
  | i + 1, j, h => by
    cases hb : (ix c i == ((firTo c i).length : Int)) with
    | false =>
      rw [firTo_no hb] at h ⊢
      obtain ⟨x, h1, h2, h3⟩ := firTo_lab c i j h
      exact ⟨x, by omega, h2, h3⟩
    | true =>
      rw [firTo_yes hb] at h ⊢
      rcases Nat.lt_or_ge j (firTo c i).length with g | g
      · obtain ⟨x, h1, h2, h3⟩ := firTo_lab c i j g
        exact ⟨x, by omega, by rw [ix_append_left g]; exact h2, h3⟩
      · have : j = (firTo c i).length := by simp at h; omega
        subst this
        exact ⟨i, by omega, ix_append_one _ _, eq_of_beq hb⟩
/-- the first element with a number -/
def repN (t : List (List Int)) (mask i : Nat) : Nat := (ix (firTo (cosL t mask) t.length) i).toNat
theorem rep_ok {t : List (List Int)} {mask i : Nat} (hi : i < quoN t (cosL t mask)) : repN t mask i < t.length ∧ ix (firTo (cosL t mask) t.length) i = (repN t mask i : Int) ∧ clsN t mask (repN t mask i) = i := by
  rw [← quoN_def] at hi
  obtain ⟨x, h1, h2, h3⟩ := firTo_lab _ _ _ hi
  have : repN t mask i = x := by unfold repN; rw [h2, Int.toNat_natCast]
  rw [this]
  exact ⟨h1, h2, by unfold clsN; rw [h3, Int.toNat_natCast]⟩
theorem cls_bd {t : List (List Int)} {mask x : Nat} (hx : x < t.length) : clsN t mask x < quoN t (cosL t mask) ∧ ix (cosL t mask) x = (clsN t mask x : Int) := by
  have hl : x < (coL t mask).length := by rw [length_coL]; exact hx
  have hb := numF_bd (coL t mask) x
  have e : ix (cosL t mask) x = numF (coL t mask) x := by rw [← cosL_def, ix_numL _ _ hl]
  have hq : quoN t (cosL t mask) = (seenTo (coL t mask) t.length).length := by
    rw [← quoN_def, ← cosL_def, firTo_num _ _ (by rw [length_coL]; exact Nat.le_refl _)]
  have hn := numF_end (coL t mask) hx
  unfold clsN
  rw [e, hq]
  rcases indexOf_spec (seenTo (coL t mask) t.length) (ix (coL t mask) x) with ⟨h1, _⟩ | ⟨j, h1, h2, _⟩
  · rw [hn] at h1; omega
  · rw [hn] at h2; rw [h2]; simpa using h1
theorem cls_eq {t : List (List Int)} {mask x y : Nat} (hx : x < t.length) (hy : y < t.length) : clsN t mask x = clsN t mask y ↔ cosF t mask x = cosF t mask y := by
  have hlx : x < (coL t mask).length := by rw [length_coL]; exact hx
  have hly : y < (coL t mask).length := by rw [length_coL]; exact hy
  have ex : ix (cosL t mask) x = numF (coL t mask) x := by rw [← cosL_def, ix_numL _ _ hlx]
  have ey : ix (cosL t mask) y = numF (coL t mask) y := by rw [← cosL_def, ix_numL _ _ hly]
  have nx := numF_end (coL t mask) hx
  have ny := numF_end (coL t mask) hy
  rw [← ix_coL t mask x hx, ← ix_coL t mask y hy]
  constructor
  · intro h
    have h1 := (cls_bd (mask := mask) hx).2
    have h2 := (cls_bd (mask := mask) hy).2
    rw [h, ← h2, ex, ey, ← nx, ← ny] at h1
    have bx := numF_bd (coL t mask) x
    rcases indexOf_spec (seenTo (coL t mask) t.length) (ix (coL t mask) x) with ⟨g1, _⟩ | ⟨j, g1, g2, g3, _⟩
    · rw [nx] at g1; omega
    · rcases indexOf_spec (seenTo (coL t mask) t.length) (ix (coL t mask) y) with ⟨k1, _⟩ | ⟨k, k1, k2, k3, _⟩
      · rw [h1] at g2; rw [g2] at k1; omega
      · rw [h1, k2] at g2
        have : k = j := by omega
        subst this
        rw [← g3, ← k3]
  · intro h
    unfold clsN
    rw [ex, ey, ← nx, ← ny, h]
theorem cls_zero {t : List (List Int)} {mask : Nat} (hG : GroupOk t) (hm : mask < 2 ^ t.length) (hs : subB t mask = true) : clsN t mask 0 = 0 := by
  have h0 : 0 < t.length := hG.1.1
  have hl : 0 < (coL t mask).length := by rw [length_coL]; exact h0
  have := numF_bd (coL t mask) 0
  unfold clsN
  rw [← cosL_def, ix_numL _ _ hl]
  omega
theorem quo_pos {t : List (List Int)} {mask : Nat} (hG : GroupOk t) (hm : mask < 2 ^ t.length) (hs : subB t mask = true) : 1 ≤ quoN t (cosL t mask) := by
  have := (cls_bd (t := t) (mask := mask) (x := 0) hG.1.1).1
  omega
section
variable {t : List (List Int)} {mask : Nat} (hG : GroupOk t) (hm : mask < 2 ^ t.length) (hs : subB t mask = true)
include hG hm hs
theorem cls_rel {x y : Nat} (hx : x < t.length) (hy : y < t.length) : clsN t mask x = clsN t mask y ↔ ∃ s, s < t.length ∧ bitB mask s = true ∧ y = mulN t x s := by
  rw [cls_eq hx hy, cosF_eq hG hm hs hx hy]
/-- as many elements as cosets times as many as are in the subgroup -/
theorem quo_count : quoN t (cosL t mask) * ((List.range t.length).filter fun x => bitB mask x).length = t.length := by
  have hg := grp_of hG
  have hS : ∀ x, x ∈ ((List.range t.length).filter fun x => bitB mask x) → x < t.length ∧ bitB mask x = true := fun x hx => by
    obtain ⟨h1, h2⟩ := List.mem_filter.1 hx
    exact ⟨List.mem_range.1 h1, h2⟩
  have hSn : ((List.range t.length).filter fun x => bitB mask x).Nodup := List.nodup_range.filter _
  obtain ⟨S, hSe⟩ : ∃ S, S = (List.range t.length).filter fun x => bitB mask x := ⟨_, rfl⟩
  rw [← hSe] at hS hSn ⊢
  have hSm : ∀ x, x < t.length → bitB mask x = true → x ∈ S := fun x hx hb => by rw [hSe, List.mem_filter, List.mem_range]; exact ⟨hx, hb⟩
  clear hSe
  have hlen : ∀ k, k ≤ quoN t (cosL t mask) → ((List.range k).flatMap fun i => S.map (mulN t (repN t mask i))).length = k * S.length := fun k => by
    induction k with
    | zero => intro _; simp
    | succ k ih =>
      intro hk
      rw [List.range_succ, List.flatMap_append, List.length_append, ih (by omega)]
      simp [Nat.succ_mul]
  have hcls : ∀ i, i < quoN t (cosL t mask) → ∀ s, s ∈ S → clsN t mask (mulN t (repN t mask i) s) = i := fun i hi s hs' => by
    obtain ⟨r1, -, r3⟩ := rep_ok hi
    obtain ⟨s1, s2⟩ := hS s hs'
    have := (cls_rel hG hm hs r1 (hg.bd _ r1 s s1)).2 ⟨s, s1, s2, rfl⟩
    rw [← this, r3]
  have hnd : ∀ k, k ≤ quoN t (cosL t mask) → ((List.range k).flatMap fun i => S.map (mulN t (repN t mask i))).Nodup := fun k => by
    induction k with
    | zero => intro _; simp
    | succ k ih =>
      intro hk
      rw [List.range_succ, List.flatMap_append]
      refine List.nodup_append.2 ⟨ih (by omega), ?_, fun a ha b hb e => ?_⟩
      · simp only [List.flatMap_cons, List.flatMap_nil, List.append_nil]
        obtain ⟨r1, -, -⟩ := rep_ok (t := t) (mask := mask) (i := k) (by omega)
        exact nodup_map_on hSn fun x hx y hy e => hg.inj_l r1 (hS x hx).1 (hS y hy).1 e
      · subst e
        simp only [List.flatMap_cons, List.flatMap_nil, List.append_nil] at hb
        obtain ⟨i, hi, ha⟩ := List.mem_flatMap.1 ha
        have hi := List.mem_range.1 hi
        obtain ⟨s, hs1, rfl⟩ := List.mem_map.1 ha
        obtain ⟨s', hs2, e⟩ := List.mem_map.1 hb
        have e1 := hcls i (by omega) s hs1
        have e2 := hcls k (by omega) s' hs2
        rw [e, e1] at e2
        omega
  have h1 := hlen _ (Nat.le_refl _)
  have h2 := nodup_le ((List.range (quoN t (cosL t mask))).flatMap fun i => S.map (mulN t (repN t mask i))) (List.range t.length) (hnd _ (Nat.le_refl _)) fun x hx => by
    obtain ⟨i, hi, hx⟩ := List.mem_flatMap.1 hx
    obtain ⟨s, hs1, rfl⟩ := List.mem_map.1 hx
    exact List.mem_range.2 (hg.bd _ (rep_ok (List.mem_range.1 hi)).1 s (hS s hs1).1)
  have h3 := nodup_le (List.range t.length) ((List.range (quoN t (cosL t mask))).flatMap fun i => S.map (mulN t (repN t mask i))) List.nodup_range fun x hx => by
    have hx := List.mem_range.1 hx
    have hc := (cls_bd (mask := mask) hx).1
    obtain ⟨r1, -, r3⟩ := rep_ok hc
    obtain ⟨s, s1, s2, s3⟩ := (cls_rel hG hm hs r1 hx).1 r3
    exact List.mem_flatMap.2 ⟨_, List.mem_range.2 hc, List.mem_map.2 ⟨s, hSm s s1 s2, s3.symm⟩⟩
  rw [List.length_range] at h2 h3
  rw [h1] at h2 h3
  omega
/-- the quotient by a normal subgroup -/
theorem quo_group (hn : normB t mask = true) : GroupOk (quoT t (cosL t mask)) ∧ (quoT t (cosL t mask)).length = quoN t (cosL t mask) := by
  have hg := grp_of hG
  obtain ⟨h0, hmul, hinv⟩ := sub_inv hG hm hs
  have hnorm : ∀ x, x < t.length → ∀ y, y < t.length → bitB mask y = true → bitB mask (mulN t (mulN t x y) (backF t x).toNat) = true := fun x hx y hy hb => by
    have := normB_iff.1 hn x hx y hy hb
    rw [← conjF_def] at this
    exact this
  have hq12 : quoN t (cosL t mask) ≤ 12 := Nat.le_trans (quoN_le _ _) hG.1.2.1
  have hR : ∀ i, i < quoN t (cosL t mask) → repN t mask i < t.length := fun i hi => (rep_ok hi).1
  have hC : ∀ i, i < quoN t (cosL t mask) → clsN t mask (repN t mask i) = i := fun i hi => (rep_ok hi).2.2
  -- the number of a product follows from the numbers
  have hom : ∀ x, x < t.length → ∀ y, y < t.length → clsN t mask (mulN t (repN t mask (clsN t mask x)) (repN t mask (clsN t mask y))) = clsN t mask (mulN t x y) := fun x hx y hy => by
    obtain ⟨cx, -⟩ := cls_bd (mask := mask) hx
    obtain ⟨cy, -⟩ := cls_bd (mask := mask) hy
    have rx := hR _ cx
    have ry := hR _ cy
    obtain ⟨a, a1, a2, a3⟩ := (cls_rel hG hm hs rx hx).1 (hC _ cx)
    obtain ⟨b, b1, b2, b3⟩ := (cls_rel hG hm hs ry hy).1 (hC _ cy)
    obtain ⟨X, hX⟩ : ∃ X, X = repN t mask (clsN t mask x) := ⟨_, rfl⟩
    obtain ⟨Y, hY⟩ : ∃ Y, Y = repN t mask (clsN t mask y) := ⟨_, rfl⟩
    rw [← hX] at rx a3 ⊢
    rw [← hY] at ry b3 ⊢
    -- x y = X a Y b = X Y (v Y a Y) b
    have vY := hg.vb Y ry
    have nb := hnorm _ vY a a1 a2
    have hvv : (backF t (backF t Y).toNat).toNat = Y := hg.v_v ry
    rw [hvv] at nb
    have ca := hg.bd _ (hg.bd _ vY a a1) Y ry
    refine (cls_rel hG hm hs (hg.bd X rx Y ry) (hg.bd x hx y hy)).2 ⟨mulN t (mulN t (mulN t (backF t Y).toNat a) Y) b, hg.bd _ ca b b1, hmul _ ca b b1 nb b2, ?_⟩
    rw [a3, b3]
    rw [hg.assoc X rx Y ry _ (hg.bd _ ca b b1), ← hg.assoc Y ry _ ca b b1, ← hg.assoc Y ry _ (hg.bd _ vY a a1) Y ry, ← hg.assoc Y ry _ vY a a1, hg.vr Y ry, hg.ul a a1, hg.assoc X rx a a1 _ (hg.bd Y ry b b1), hg.assoc a a1 Y ry b b1]
  have hl : (quoT t (cosL t mask)).length = quoN t (cosL t mask) := by rw [← quoT_def, length_mkT]
  refine ⟨?_, hl⟩
  rw [← quoT_def]
  refine group_made (g := fun i j => clsN t mask (mulN t (repN t mask i) (repN t mask j))) (quo_pos hG hm hs) hq12 (fun i hi j hj => ?_) (fun i hi j hj => ?_) (fun i hi j hj k hk => ?_) (fun i hi => ?_) (fun i hi => ?_) (fun i hi j hj k hk e => ?_)
  · rw [quoF_def _ _ _ _ _ _ (rep_ok hi).2.1 (rep_ok hj).2.1]
    exact (cls_bd (mask := mask) (hg.bd _ (hR i hi) _ (hR j hj))).2
  · exact (cls_bd (hg.bd _ (hR i hi) _ (hR j hj))).1
  · have e1 := hom _ (hg.bd _ (hR i hi) _ (hR j hj)) _ (hR k hk)
    have e2 := hom _ (hR i hi) _ (hg.bd _ (hR j hj) _ (hR k hk))
    rw [hC k hk] at e1
    rw [hC i hi] at e2
    show clsN t mask (mulN t (repN t mask (clsN t mask (mulN t (repN t mask i) (repN t mask j)))) (repN t mask k)) = clsN t mask (mulN t (repN t mask i) (repN t mask (clsN t mask (mulN t (repN t mask j) (repN t mask k)))))
    rw [e1, e2, hg.assoc _ (hR i hi) _ (hR j hj) _ (hR k hk)]
  · have e1 := hom 0 hG.1.1 _ (hR i hi)
    rw [cls_zero hG hm hs, hC i hi, hg.ul _ (hR i hi), hC i hi] at e1
    exact e1
  · have e1 := hom _ (hR i hi) 0 hG.1.1
    rw [cls_zero hG hm hs, hC i hi, hg.ur _ (hR i hi), hC i hi] at e1
    exact e1
  · have e : clsN t mask (mulN t (repN t mask i) (repN t mask j)) = clsN t mask (mulN t (repN t mask i) (repN t mask k)) := e
    obtain ⟨s, s1, s2, s3⟩ := (cls_rel hG hm hs (hg.bd _ (hR i hi) _ (hR j hj)) (hg.bd _ (hR i hi) _ (hR k hk))).1 e
    rw [hg.assoc _ (hR i hi) _ (hR j hj) s s1] at s3
    have s4 := hg.inj_l (hR i hi) (hR k hk) (hg.bd _ (hR j hj) s s1) s3
    have := (cls_rel hG hm hs (hR j hj) (hR k hk)).2 ⟨s, s1, s2, s4⟩
    rw [hC j hj, hC k hk] at this
    exact this
end
end Go.Proofs.Ytjbloenjphpngaa

/-
  The group of a system of permutations is a group: plain.
-/
namespace Go.Proofs.Ytjbloenjphpngaa
set_option linter.unusedVariables false
set_option linter.unusedSimpArgs false

theorem thenL_assoc {n : Nat} {p q r : List Int} (hp : IsoOk n [] [] p) (hq : IsoOk n [] [] q) : thenL (thenL p q) r = thenL p (thenL q r) := by
  refine ix_ext (by rw [length_thenL, length_thenL, length_thenL]) fun i hi => ?_
  rw [length_thenL, length_thenL] at hi
  have hl := hp.1
  have hb := hp.bd (x := i) (by omega)
  rw [ix_thenL _ _ (by rw [length_thenL]; exact hi), ix_thenL _ _ hi, ix_thenL _ _ hi, ix_thenL _ _ (by rw [hq.1]; exact hb.2)]
theorem thenL_id {n : Nat} {p : List Int} (hp : IsoOk n [] [] p) : thenL p (idL n) = p := by
  refine ix_ext (by rw [length_thenL]) fun i hi => ?_
  rw [length_thenL] at hi
  have hl := hp.1
  have hb := hp.bd (x := i) (by omega)
  rw [ix_thenL _ _ hi, ix_idL _ _ hb.2]
  omega
theorem id_thenL {n : Nat} {p : List Int} (hp : IsoOk n [] [] p) : thenL (idL n) p = p := by
  have hl := hp.1
  refine ix_ext (by rw [length_thenL, length_idL, hl]) fun i hi => ?_
  rw [length_thenL, length_idL] at hi
  rw [ix_thenL _ _ (by rw [length_idL]; exact hi), ix_idL _ _ hi, Int.toNat_natCast]
theorem thenL_inj {n : Nat} {p q r : List Int} (hp : IsoOk n [] [] p) (hq : IsoOk n [] [] q) (hr : IsoOk n [] [] r) (e : thenL p q = thenL p r) : q = r := by
  have hl := hp.1
  refine ix_ext (by rw [hq.1, hr.1]) fun i hi => ?_
  rw [hq.1] at hi
  obtain ⟨x, hx, e1⟩ := hp.surj hi
  have this : ix (thenL p q) x = ix (thenL p r) x := by rw [e]
  rw [ix_thenL _ _ (by omega), ix_thenL _ _ (by omega), e1, Int.toNat_natCast] at this
  exact this
/-- a product of generators -/
def WordP (n : Nat) (gens : List (List Int)) (p : List Int) : Prop := ∃ l : List Nat, (∀ k, k ∈ l → k < gens.length) ∧ p = l.foldl (fun x k => thenL x (row gens k)) (idL n)
theorem WordP.unit (n : Nat) (gens : List (List Int)) : WordP n gens (idL n) := ⟨[], by simp, rfl⟩
theorem WordP.step {n : Nat} {gens : List (List Int)} {p : List Int} (h : WordP n gens p) {k : Nat} (hk : k < gens.length) : WordP n gens (thenL p (row gens k)) := by
  obtain ⟨l, h1, rfl⟩ := h
  refine ⟨l ++ [k], fun j hj => ?_, by rw [List.foldl_append]; rfl⟩
  rcases List.mem_append.1 hj with hj | hj
  · exact h1 j hj
  · have : j = k := by simpa using hj
    omega
theorem addL_pre (out : List (List Int)) (p : List Int) : out <+: addL out p := by
  unfold addL
  split
  · exact List.prefix_append _ _
  · exact List.prefix_refl _
theorem rowFrom_pre (gens : List (List Int)) (x : List Int) : ∀ (d k : Nat) (out : List (List Int)), gens.length ≤ k + d → out <+: rowFrom gens x k out
  | 0, k, out, hd => by rw [rowFrom_end (by omega)]; exact List.prefix_refl _
  | d + 1, k, out, hd => by
    by_cases hk : k < gens.length
    · rw [rowFrom_at hk]
      exact (addL_pre out _).trans (rowFrom_pre gens x d (k + 1) _ (by omega))
    · rw [rowFrom_end (by omega)]; exact List.prefix_refl _
theorem row_pre {a b : List (List Int)} (h : a <+: b) {i : Nat} (hi : i < a.length) : row b i = row a i := by
  obtain ⟨c, rfl⟩ := h
  rw [row_eq, row_eq]
  simp [List.getD, List.getElem?_append_left hi]
theorem rowFrom_has {n : Nat} {gens : List (List Int)} {x : List Int} (hw : WordP n gens x) : ∀ (d k : Nat) (out : List (List Int)), gens.length ≤ k + d → (rowFrom gens x k out).length ≤ 12 → (∀ p, p ∈ out → WordP n gens p) →
    (∀ j, k ≤ j → j < gens.length → thenL x (row gens j) ∈ rowFrom gens x k out) ∧ ∀ p, p ∈ rowFrom gens x k out → WordP n gens p
  | 0, k, out, hd, hl, ho => by
    rw [rowFrom_end (by omega)]
    exact ⟨fun j h1 h2 => by omega, ho⟩
  | d + 1, k, out, hd, hl, ho => by
    by_cases hk : k < gens.length
    · rw [rowFrom_at hk] at hl ⊢
      have hp := rowFrom_pre gens x d (k + 1) (addL out (thenL x (row gens k))) (by omega)
      have hlo : out.length ≤ 12 := Nat.le_trans (addL_pre out _).length_le (Nat.le_trans hp.length_le hl)
      have hin : thenL x (row gens k) ∈ addL out (thenL x (row gens k)) := by
        by_cases hm : thenL x (row gens k) ∈ out
        · rw [addL_old hm]; exact hm
        · rw [addL_new hm hlo]; simp
      have how : ∀ p, p ∈ addL out (thenL x (row gens k)) → WordP n gens p := fun p hm => by
        by_cases hm2 : thenL x (row gens k) ∈ out
        · rw [addL_old hm2] at hm; exact ho p hm
        · rw [addL_new hm2 hlo] at hm
          rcases List.mem_append.1 hm with hm | hm
          · exact ho p hm
          · have : p = thenL x (row gens k) := by simpa using hm
            rw [this]; exact hw.step hk
      obtain ⟨i1, i2⟩ := rowFrom_has hw d (k + 1) _ (by omega) hl how
      refine ⟨fun j h1 h2 => ?_, i2⟩
      by_cases e : j = k
      · subst e; exact hp.subset hin
      · exact i1 j (by omega) h2
    · rw [rowFrom_end (by omega)]
      exact ⟨fun j h1 h2 => by omega, ho⟩
/-- all products with generators are there -/
theorem genF_closed {n : Nat} {gens : List (List Int)} : ∀ (d : Nat) (out : List (List Int)) (i : Nat), 13 ≤ d + i → i ≤ out.length → (genF gens d out i).length ≤ 12 → (∀ p, p ∈ out → WordP n gens p) →
    (∀ j, j < i → ∀ k, k < gens.length → thenL (row out j) (row gens k) ∈ out) →
    (∀ p, p ∈ genF gens d out i → WordP n gens p) ∧ (∀ p, p ∈ genF gens d out i → ∀ k, k < gens.length → thenL p (row gens k) ∈ genF gens d out i) ∧ out <+: genF gens d out i
  | 0, out, i, hd, hi, hl, ho, hc => by
    have : genF gens 0 out i = out := rfl
    rw [this] at hl
    omega
  | d + 1, out, i, hd, hi, hl, ho, hc => by
    by_cases h : i < out.length ∧ out.length ≤ 12
    · rw [genF_go h.1 h.2] at hl ⊢
      have hp := rowFrom_pre gens (row out i) gens.length 0 out (by omega)
      have hlr : (rowFrom gens (row out i) 0 out).length ≤ 12 := by
        apply Classical.byContradiction
        intro hn
        rw [genF_stop (by omega)] at hl
        exact hn hl
      obtain ⟨r1, r2⟩ := rowFrom_has (ho _ (rowG_mem h.1)) gens.length 0 out (by omega) hlr ho
      obtain ⟨g1, g2, g3⟩ := genF_closed d (rowFrom gens (row out i) 0 out) (i + 1) (by omega) (by have := hp.length_le; omega) hl r2 (fun j hj k hk => by
        by_cases e : j = i
        · subst e
          rw [row_pre hp h.1]
          exact r1 k (Nat.zero_le _) hk
        · rw [row_pre hp (by omega)]
          exact hp.subset (hc j (by omega) k hk))
      exact ⟨g1, g2, hp.trans g3⟩
    · rw [genF_stop h] at hl ⊢
      have hie : i = out.length := by omega
      refine ⟨ho, fun p hpm k hk => ?_, List.prefix_refl _⟩
      obtain ⟨j, hj, rfl⟩ := mem_row hpm
      exact hc j (by omega) k hk
theorem genA_closed {n : Nat} {gens : List (List Int)} (hg : ∀ k, k < gens.length → IsoOk n [] [] (row gens k)) (hl : (genA gens n).length ≤ 12) : idL n ∈ genA gens n ∧ ∀ p, p ∈ genA gens n → ∀ q, q ∈ genA gens n → thenL p q ∈ genA gens n := by
  have hgood := genA_good hg (idL_perm n)
  have he : genA gens n = genF gens 13 [idL n] 0 := by rw [genA_def]
  obtain ⟨h1, h2, h3⟩ := genF_closed (n := n) 13 [idL n] 0 (by omega) (by omega) (by rw [← he]; exact hl) (fun p hp => by
    have : p = idL n := by simpa using hp
    rw [this]; exact WordP.unit _ _) (fun j hj => by omega)
  rw [← he] at h1 h2 h3
  refine ⟨h3.subset (by simp), fun p hp q hq => ?_⟩
  obtain ⟨l, hk, rfl⟩ := h1 q hq
  have key : ∀ (m : List Nat), (∀ k, k ∈ m → k < gens.length) → ∀ x, IsoOk n [] [] x → thenL p x ∈ genA gens n → thenL p (m.foldl (fun x k => thenL x (row gens k)) x) ∈ genA gens n := by
    intro m
    induction m with
    | nil => intro _ x _ h; exact h
    | cons k m ih =>
      intro hm x hx h
      rw [List.foldl_cons]
      refine ih (fun j hj => hm j (by simp [hj])) _ (thenL_perm hx (hg k (hm k (by simp)))) ?_
      rw [← thenL_assoc (hgood.perm p hp) hx]
      exact h2 _ h k (hm k (by simp))
  refine key l hk (idL n) (idL_perm n) ?_
  rw [thenL_id (hgood.perm p hp)]
  exact hp
/-- where a list is -/
theorem findL_at {S : List (List Int)} {p : List Int} (h : p ∈ S) : ∃ i : Nat, i < S.length ∧ findL S p = (i : Int) ∧ row S i = p := by
  have key : ∀ (d k : Nat), S.length = k + d → (∃ i, k ≤ i ∧ i < S.length ∧ row S i = p) → ∃ i : Nat, i < S.length ∧ findFrom (fun r => eqIB r p) (S.drop k) k = (i : Int) ∧ row S i = p := by
    intro d
    induction d with
    | zero => rintro k hk ⟨i, h1, h2, -⟩; omega
    | succ d ih =>
      rintro k hk ⟨i, h1, h2, h3⟩
      by_cases e : row S k = p
      · exact ⟨k, by omega, findFrom_hit _ _ _ (by omega) (eqIB_yes e), e⟩
      · rw [findFrom_miss (fun r => eqIB r p) S k (by omega) (eqIB_no e)]
        refine ih (k + 1) (by omega) ⟨i, ?_, h2, h3⟩
        by_cases e2 : i = k
        · subst e2; exact absurd h3 e
        · omega
  obtain ⟨i, hi, e⟩ := mem_row h
  obtain ⟨j, j1, j2, j3⟩ := key S.length 0 (by omega) ⟨i, Nat.zero_le _, hi, e⟩
  refine ⟨j, j1, ?_, j3⟩
  rw [← findL_eq]
  unfold findIx
  simpa using j2
/-- no permutation stands ahead of the identity -/
theorem id_least {n : Nat} {p : List Int} (hp : IsoOk n [] [] p) : ¬ p < idL n := by
  have hl := hp.1
  have key : ∀ (d k : Nat), n = k + d → (∀ i, i < k → ix p i = (i : Int)) → ¬ (p.drop k < (idL n).drop k) := by
    intro d
    induction d with
    | zero =>
      intro k hk _
      rw [List.drop_of_length_le (by omega), List.drop_of_length_le (by rw [length_idL]; omega)]
      exact less_irrefl _
    | succ d ih =>
      intro k hk hi
      rw [drop_cons p k (by omega), drop_cons (idL n) k (by rw [length_idL]; omega), ix_idL _ _ (by omega), List.cons_lt_cons_iff]
      rintro (h | ⟨h1, h2⟩)
      · have hb := hp.bd (x := k) (by omega)
        have hj : (ix p k).toNat < k := by omega
        have := hi _ hj
        have := hp.inj (x := (ix p k).toNat) (y := k) (by omega) (by omega) (by omega)
        omega
      · exact ih (k + 1) (by omega) (fun i hik => by
          by_cases e : i = k
          · subst e; exact h1
          · exact hi i (by omega)) h2
  have := key n 0 (by omega) (fun i hi => by omega)
  simpa using this
/-- the group of a system -/
theorem gop_group {n : Int} {gens : List (List Int)} (h : gopC n gens = 0) : GroupOk (gopV n gens) ∧ (gopV n gens).length = (genA gens n.toNat).length := by
  have hs : sysB n gens = true := by
    apply Classical.byContradiction
    intro hn
    rw [(gop_no (by simpa using hn)).2] at h
    cases h
  have hlen : (genA gens n.toNat).length ≤ 12 := by
    apply Classical.byContradiction
    intro hn
    rw [(gop_big hs hn).2] at h
    cases h
  obtain ⟨hn12, -, hg⟩ := sysB_ok hs
  obtain ⟨m, rfl⟩ := Int.eq_ofNat_of_zero_le (show 0 ≤ n by omega)
  rw [Int.toNat_natCast] at hlen hg
  have hgood := genA_good hg (idL_perm m)
  obtain ⟨hid, hcl⟩ := genA_closed hg hlen
  rw [(gop_yes hs (by rw [Int.toNat_natCast]; exact hlen)).1]
  have hS : gopS (m : Int) gens = sortS (genA gens m) := by unfold gopS; rw [Int.toNat_natCast]
  rw [hS, length_mkT, Int.toNat_natCast]
  obtain ⟨S, hSe⟩ : ∃ S, S = sortS (genA gens m) := ⟨_, rfl⟩
  have hperm : S.Perm (genA gens m) := by rw [hSe]; exact sortS_perm _
  have hsort : S.Pairwise (· < ·) := by
    rw [hSe]
    have h1 := List.pairwise_mergeSort (le := fun (a b : List Int) => !decide (b < a)) (fun a b c h1 h2 => by
      simp at *
      intro hca
      rcases less_tri a b with g | g | g
      · exact h2 (less_trans hca g)
      · subst g; exact h2 hca
      · exact h1 g) (fun a b => by
      simp
      rcases less_tri a b with g | g | g
      · exact .inl (fun e => less_irrefl a (less_trans g e))
      · subst g; exact .inl (less_irrefl a)
      · exact .inr (fun e => less_irrefl a (less_trans e g))) (genA gens m)
    have hnd : ((genA gens m).mergeSort (fun a b => !decide (b < a))).Nodup := (List.mergeSort_perm _ _).nodup_iff.2 hgood.nodup
    unfold sortS
    refine (List.pairwise_and_iff.2 ⟨h1, hnd⟩).imp fun {a b} ⟨h, hne⟩ => ?_
    simp at h
    rcases less_tri a b with g | g | g
    · exact g
    · exact absurd g hne
    · exact absurd g h
  rw [← hSe]
  have hlS : S.length = (genA gens m).length := hperm.length_eq
  have hmem : ∀ p, p ∈ S ↔ p ∈ genA gens m := fun p => hperm.mem_iff
  have hrow : ∀ i, i < S.length → row S i ∈ genA gens m := fun i hi => (hmem _).1 (rowG_mem hi)
  have hP : ∀ i, i < S.length → IsoOk m [] [] (row S i) := fun i hi => hgood.perm _ (hrow i hi)
  have hinj : ∀ i, i < S.length → ∀ j, j < S.length → row S i = row S j → i = j := fun i hi j hj e => by
    rcases Nat.lt_trichotomy i j with g | g | g
    · have := sorted_row hsort g hj; rw [e] at this; exact absurd this (less_irrefl _)
    · exact g
    · have := sorted_row hsort g hi; rw [e] at this; exact absurd this (less_irrefl _)
  have hfind : ∀ x, x < S.length → ∀ y, y < S.length → ∃ i : Nat, i < S.length ∧ gopE S x y = (i : Int) ∧ row S i = thenL (row S x) (row S y) := fun x hx y hy => findL_at ((hmem _).2 (hcl _ (hrow x hx) _ (hrow y hy)))
  have hpos : 1 ≤ S.length := by rw [hlS]; exact hgood.one
  have h0 : row S 0 = idL m := by
    obtain ⟨i, hi, e⟩ := mem_row ((hmem _).2 hid)
    by_cases hi0 : i = 0
    · subst hi0; exact e
    · have := sorted_row hsort (i := 0) (j := i) (by omega) hi
      rw [e] at this
      exact absurd this (id_least (hP 0 (by omega)))
  refine ⟨group_made (g := fun x y => (gopE S x y).toNat) hpos (by omega) (fun x hx y hy => ?_) (fun x hx y hy => ?_) (fun x hx y hy z hz => ?_) (fun x hx => ?_) (fun x hx => ?_) (fun x hx y hy z hz e => ?_), hlS⟩
  · obtain ⟨i, h1, h2, h3⟩ := hfind x hx y hy
    rw [h2, Int.toNat_natCast]
  · obtain ⟨i, h1, h2, h3⟩ := hfind x hx y hy
    rw [h2, Int.toNat_natCast]; exact h1
  · obtain ⟨i, i1, i2, i3⟩ := hfind x hx y hy
    obtain ⟨j, j1, j2, j3⟩ := hfind y hy z hz
    simp only [i2, j2, Int.toNat_natCast]
    obtain ⟨a, a1, a2, a3⟩ := hfind i i1 z hz
    obtain ⟨b, b1, b2, b3⟩ := hfind x hx j j1
    rw [a2, b2, Int.toNat_natCast, Int.toNat_natCast]
    refine hinj a a1 b b1 ?_
    rw [a3, b3, i3, j3, thenL_assoc (hP x hx) (hP y hy)]
  · obtain ⟨i, i1, i2, i3⟩ := hfind 0 (by omega) x hx
    rw [i2, Int.toNat_natCast]
    refine hinj i i1 x hx ?_
    rw [i3, h0, id_thenL (hP x hx)]
  · obtain ⟨i, i1, i2, i3⟩ := hfind x hx 0 (by omega)
    rw [i2, Int.toNat_natCast]
    refine hinj i i1 x hx ?_
    rw [i3, h0, thenL_id (hP x hx)]
  · obtain ⟨i, i1, i2, i3⟩ := hfind x hx y hy
    obtain ⟨j, j1, j2, j3⟩ := hfind x hx z hz
    simp only [i2, j2, Int.toNat_natCast] at e
    subst e
    exact hinj y hy z hz (thenL_inj (hP x hx) (hP y hy) (hP z hz) (by rw [← i3, ← j3]))
end Go.Proofs.Ytjbloenjphpngaa

/-
  The circles of a group: known numbers of automorphisms, spread; plain.
-/
namespace Go.Proofs.Ytjbloenjphpngaa
set_option linter.unusedVariables false
set_option linter.unusedSimpArgs false

theorem isoL_row {n : Nat} {az bz : List (List (List Int))} {a : Nat} (ha : a < (isoL n az bz).length) : IsoOk n az bz (row (isoL n az bz) a) := by
  refine mem_isoL.1 ?_
  rw [row_eq]; simp [List.getD, ha]
theorem isoOk_then {n : Nat} {az : List (List (List Int))} {p q : List Int} (hA : TabsOk n az) (hp : IsoOk n az az p) (hq : IsoOk n az az q) : IsoOk n az az (thenL p q) := by
  have h := thenL_perm (isoOk_plain.2 ⟨hp.1, hp.2.1⟩) (isoOk_plain.2 ⟨hq.1, hq.2.1⟩)
  refine ⟨h.1, h.2.1, fun k hk x hx y hy => ?_⟩
  have hb := hA.bd hk hx hy
  have bx := hp.bd hx
  have bY := hp.bd hy
  rw [ix_thenL _ _ (by rw [hp.1]; exact hb.2), hp.2.2 k hk x hx y hy, hq.2.2 k hk _ bx.2 _ bY.2, ix_thenL _ _ (by rw [hp.1]; exact hx), ix_thenL _ _ (by rw [hp.1]; exact hy)]
theorem then_id {n : Nat} : thenL (idL n) (idL n) = idL n := by
  refine ix_ext (by rw [length_thenL]) fun i hi => ?_
  rw [length_thenL, length_idL] at hi
  rw [ix_thenL _ _ (by rw [length_idL]; exact hi), ix_idL _ _ hi, Int.toNat_natCast, ix_idL _ _ hi]
theorem idL_auto {n : Nat} {az : List (List (List Int))} (hA : TabsOk n az) : IsoOk n az az (idL n) := by
  have h := idL_perm n
  refine ⟨h.1, h.2.1, fun k hk x hx y hy => ?_⟩
  have := hA.bd hk hx hy
  rw [ix_idL _ _ hx, ix_idL _ _ hy, ix_idL _ _ this.2, Int.toNat_natCast, Int.toNat_natCast]
  omega
/-- the identity is the first automorphism -/
theorem auto_zero {n : Nat} {az : List (List (List Int))} (hA : TabsOk n az) : 0 < (isoL n az az).length ∧ row (isoL n az az) 0 = idL n := by
  have hm := mem_isoL.2 (idL_auto hA)
  have hs := sorted_isoL n az az
  cases hL : isoL n az az with
  | nil => rw [hL] at hm; cases hm
  | cons p r =>
    refine ⟨by simp, ?_⟩
    have e : row (p :: r) 0 = p := by rw [row_eq]; rfl
    rw [e]
    rw [hL] at hm hs
    have hp : IsoOk n az az p := mem_isoL.1 (by rw [hL]; simp)
    rcases List.mem_cons.1 hm with h | h
    · exact h.symm
    · exfalso
      have h2 := (List.pairwise_cons.1 hs).1 _ h
      rcases first_perm (idL_perm n) (fun x hx => ix_idL _ _ hx) p (mem_isoL.2 (isoOk_plain.2 ⟨hp.1, hp.2.1⟩)) with h3 | h3
      · rw [h3] at h2
        obtain ⟨d, -, h4⟩ := h2
        omega
      · obtain ⟨d, k1, k2⟩ := h2
        obtain ⟨d', k3, k4⟩ := h3
        rcases Nat.lt_trichotomy d d' with g | g | g
        · have := k3 d g; omega
        · subst g; omega
        · have := k1 d' g; omega
theorem find_zero {S : List (List Int)} (h : 0 < S.length) : findL S (row S 0) = 0 := by
  have := findFrom_hit (fun r => eqIB r (row S 0)) S 0 h (eqIB_yes rfl)
  unfold findL findIx
  simpa using this
/-- what the spreading wants of the list of automorphisms -/
structure AutOk (n : Nat) (A : List (List Int)) : Prop where
  pos : 0 < A.length
  perm : ∀ a, a < A.length → IsoOk n [] [] (row A a)
  clos : ∀ a, a < A.length → ∀ b, b < A.length → 0 ≤ findL A (thenL (row A b) (row A a)) ∧ findL A (thenL (row A b) (row A a)) < A.length
  zero : findL A (thenL (row A 0) (row A 0)) = 0
theorem autOk_isoL {n : Nat} {az : List (List (List Int))} (hA : TabsOk n az) : AutOk n (isoL n az az) := by
  obtain ⟨h0, h1⟩ := auto_zero hA
  refine ⟨h0, fun a ha => ?_, fun a ha b hb => ?_, ?_⟩
  · have := isoL_row ha
    exact isoOk_plain.2 ⟨this.1, this.2.1⟩
  · obtain ⟨i, h1, h2, -⟩ := findL_at (mem_isoL.2 (isoOk_then hA (isoL_row hb) (isoL_row ha)))
    omega
  · rw [h1, then_id]
    have := find_zero h0
    rwa [h1] at this

/-- known numbers -/
structure KOk (n m : Nat) (K : List Int) : Prop where
  len : K.length = n
  bd : ∀ i, i < n → -1 ≤ ix K i ∧ ix K i < m
/-- how many are not known -/
def unset (K : List Int) : Nat := ((List.range K.length).filter fun i => decide (ix K i < 0)).length
/-- no known number but 0 -/
def Zer (K : List Int) : Prop := ∀ i, i < K.length → ix K i ≤ 0
theorem unset_le (K : List Int) : unset K ≤ K.length := by
  unfold unset
  exact Nat.le_trans (List.length_filter_le _ _) (by simp)
theorem unset_zero {K : List Int} (h : ∀ i, i < K.length → 0 ≤ ix K i) : unset K = 0 := by
  unfold unset
  rw [List.length_eq_zero_iff, List.filter_eq_nil_iff]
  intro i hi
  have := h i (List.mem_range.1 hi)
  simp; omega
theorem filter_len_lt {α : Type} (l : List α) (f g : α → Bool) (h : ∀ x, x ∈ l → f x = true → g x = true) (x : α) (hx : x ∈ l) (hf : f x = false) (hg : g x = true) : (l.filter f).length < (l.filter g).length := by
  induction l with
  | nil => cases hx
  | cons a r ih =>
    have hle : (r.filter f).length ≤ (r.filter g).length := by
      have := fun y hy => h y (List.mem_cons_of_mem _ hy)
      clear ih hx h
      induction r with
      | nil => simp
      | cons b s ihs =>
        have h1 := ihs (fun y hy => this y (List.mem_cons_of_mem _ hy))
        have h2 := this b (by simp)
        rw [List.filter_cons, List.filter_cons]
        cases hfb : f b <;> cases hgb : g b <;> simp [hfb, hgb] at h2 ⊢ <;> omega
    rw [List.filter_cons, List.filter_cons]
    rcases List.mem_cons.1 hx with rfl | hx
    · simp [hf, hg]; omega
    · have h1 := ih (fun y hy => h y (List.mem_cons_of_mem _ hy)) hx
      have h2 := h a (by simp)
      cases hfa : f a <;> cases hga : g a <;> simp [hfa, hga] at h2 ⊢ <;> omega
theorem filter_len_le {α : Type} (l : List α) (f g : α → Bool) (h : ∀ x, x ∈ l → f x = true → g x = true) : (l.filter f).length ≤ (l.filter g).length := by
  induction l with
  | nil => simp
  | cons b s ihs =>
    have h1 := ihs (fun y hy => h y (List.mem_cons_of_mem _ hy))
    have h2 := h b (by simp)
    rw [List.filter_cons, List.filter_cons]
    cases hfb : f b <;> cases hgb : g b <;> simp [hfb, hgb] at h2 ⊢ <;> omega
theorem ix_setN (K : List Int) (z : Nat) (v : Int) (i : Nat) (hz : z < K.length) : ix (K.set z v) i = if i = z then v else ix K i := by
  rw [ix_eq, ix_eq]
  simp only [List.getD]
  rw [List.getElem?_set]
  by_cases e : z = i
  · subst e; simp [hz]
  · simp [e, Ne.symm e]
theorem KOk.set {n m : Nat} {K : List Int} (h : KOk n m K) {z : Nat} {v : Int} (hz : z < n) (h0 : 0 ≤ v) (hm : v < m) : KOk n m (K.set z v) := by
  refine ⟨by rw [List.length_set, h.len], fun i hi => ?_⟩
  rw [ix_setN _ _ _ _ (by rw [h.len]; exact hz)]
  have := h.bd i hi
  by_cases e : i = z
  · rw [if_pos e]; omega
  · rw [if_neg e]; exact this
theorem unset_set {n m : Nat} {K : List Int} (h : KOk n m K) {z : Nat} {v : Int} (hz : z < n) (h0 : 0 ≤ v) (hu : ix K z < 0) : unset (K.set z v) < unset K := by
  unfold unset
  rw [List.length_set]
  refine filter_len_lt _ _ _ (fun i hi hf => ?_) z (List.mem_range.2 (by rw [h.len]; exact hz)) ?_ ?_
  · rw [ix_setN _ _ _ _ (by rw [h.len]; exact hz)] at hf
    by_cases e : i = z
    · rw [if_pos e] at hf; simp at hf; omega
    · rw [if_neg e] at hf; exact hf
  · rw [ix_setN _ _ _ _ (by rw [h.len]; exact hz), if_pos rfl]; simp; omega
  · simpa using hu
theorem Zer.set {n m : Nat} {K : List Int} (h : KOk n m K) (hZ : Zer K) {z : Nat} (hz : z < n) : Zer (K.set z 0) := by
  intro i hi
  rw [List.length_set] at hi
  rw [ix_setN _ _ _ _ (by rw [h.len]; exact hz)]
  by_cases e : i = z
  · rw [if_pos e]; exact Int.le_refl _
  · rw [if_neg e]; exact hZ i hi
/-- the circle of numbers of automorphisms -/
@[irreducible] def circF (T A : List (List Int)) (K : List Int) (x y : Nat) : Int := ix (row T x) (ix (row A (ix K x).toNat) y).toNat
theorem circF_row {T A : List (List Int)} {K : List Int} {n x : Nat} (hA : AutOk n A) (hT : TableOk T) (hl : T.length = n) (hK : KOk n A.length K) (hx : x < n) (h0 : 0 ≤ ix K x) : thenL (row A (ix K x).toNat) (row T x) = row (mkT n (circF T A K)) x := by
  have hb := hK.bd x hx
  have hp := hA.perm (ix K x).toNat (by omega)
  refine ix_ext (by rw [length_thenL, hp.1, row_mkT _ _ _ hx, length_partRow]) fun y hy => ?_
  rw [length_thenL, hp.1] at hy
  rw [ix_thenL _ _ (by rw [hp.1]; exact hy), ent_def (mkT n (circF T A K)), ent_mkT _ _ _ _ hx hy]
  unfold circF
  rfl
theorem circ_table {T A : List (List Int)} {K : List Int} {n : Nat} (hA : AutOk n A) (hT : TableOk T) (hl : T.length = n) (hK : KOk n A.length K) (h0 : ∀ i, i < n → 0 ≤ ix K i) : TableOk (mkT n (circF T A K)) := by
  have h1 := hT.1
  have h2 := hT.2.1
  refine ⟨by rw [length_mkT]; omega, by rw [length_mkT]; omega, fun x hx => ?_⟩
  rw [length_mkT] at hx ⊢
  refine ⟨by rw [row_mkT _ _ _ hx]; exact length_partRow _ _ _ _, fun y hy => ?_⟩
  rw [ent_mkT _ _ _ _ hx hy]
  have hb := hK.bd x hx
  have := h0 x hx
  have hp := (hA.perm (ix K x).toNat (by omega)).bd hy
  have := hT.bd (x := x) (y := (ix (row A (ix K x).toNat) y).toNat) (by omega) (by omega)
  unfold circF
  rw [hl] at this
  simp only [ent_def] at this ⊢
  exact this
/-- automorphisms of small groups are few -/
theorem auto_few {T : List (List Int)} (hG : GroupOk T) (h6 : T.length ≤ 6) : (isoL T.length [T] [T]).length ≤ 216 := by
  have h1 := hG.1.1
  have hM : ∀ p, p ∈ isoL T.length [T] [T] → IsoOk T.length [T] [T] p := fun p hp => mem_isoL.1 hp
  have hne : (isoL T.length [T] [T]).Nodup := by
    have := sorted_isoL T.length [T] [T]
    refine this.imp fun h e => ?_
    obtain ⟨d, -, h2⟩ := h
    rw [e] at h2
    omega
  have ha : 1 ≤ (agrL T.length (isoL T.length [T] [T])).length := by
    have h0 : 0 ∈ agrL T.length (isoL T.length [T] [T]) := mem_agrL.2 ⟨h1, fun p hp q hq => by
      rw [(hM p hp).zero (by simp) (by rw [tab_one]; exact hG) (by rw [tab_one]; exact hG) (by rw [tab_one]) (by rw [tab_one]), (hM q hq).zero (by simp) (by rw [tab_one]; exact hG) (by rw [tab_one]; exact hG) (by rw [tab_one]) (by rw [tab_one])]⟩
    exact List.length_pos_of_mem h0
  have := few (az := [T]) (bz := [T]) (by simp) (by rw [tab_one]; exact hG) (by rw [tab_one]; exact hG) (by rw [tab_one]) (by rw [tab_one]) 3 _ hne hM (by omega)
  have h3 : T.length ^ 3 ≤ 6 ^ 3 := Nat.pow_le_pow_left h6 3
  omega
end Go.Proofs.Ytjbloenjphpngaa

/-
  More steps of the world, for backward chaining. No program in sight.
-/
namespace Go.Proofs.Ytjbloenjphpngaa
set_option linter.unusedVariables false
set_option linter.unusedSimpArgs false
open Go.RowKit
theorem kf_drew {w : World} {a : Addr} (h : w.frozen? a = false) : w.drew.frozen? a = false := h
theorem kf_drewN {w : World} {a : Addr} {n : Nat} (h : w.frozen? a = false) : (w.drewN n).frozen? a = false := h
theorem size_drew (w : World) : w.drew.heap.size = w.heap.size := rfl
theorem size_drewN (w : World) (n : Nat) : (w.drewN n).heap.size = w.heap.size := rfl
end Go.Proofs.Ytjbloenjphpngaa

/-
  Sets as natural numbers; the socle: plain.
-/
namespace Go.Proofs.Ytjbloenjphpngaa
set_option linter.unusedVariables false
set_option linter.unusedSimpArgs false
open Go.RowKit

/-- the set of the x below k with p x -/
def natTo (p : Nat → Bool) : Nat → Nat
  | 0 => 0
  | k + 1 => if p k = true then natTo p k ||| 2 ^ k else natTo p k
@[irreducible] def natSet (p : Nat → Bool) (k : Nat) : Nat := natTo p k
theorem natSet_zero (p) : natSet p 0 = 0 := by unfold natSet; rfl
theorem natSet_yes {p : Nat → Bool} {k : Nat} (h : p k = true) : natSet p (k + 1) = natSet p k ||| 2 ^ k := by unfold natSet; simp only [natTo]; rw [if_pos h]
theorem natSet_no {p : Nat → Bool} {k : Nat} (h : p k = false) : natSet p (k + 1) = natSet p k := by unfold natSet; simp only [natTo]; rw [if_neg (by rw [h]; simp)]
theorem natSet_bit (p : Nat → Bool) : ∀ (k i : Nat), (natSet p k).testBit i = (decide (i < k) && p i)
  | 0, i => by rw [natSet_zero]; simp
  | k + 1, i => by
    have ih := natSet_bit p k i
    cases h : p k with
    | true =>
      rw [natSet_yes h, Nat.testBit_or, ih, Nat.testBit_two_pow]
      by_cases e : k = i
      · subst e; simp [h]
      · have h1 : decide (i < k + 1) = decide (i < k) := by rw [Bool.eq_iff_iff]; simp; omega
        rw [h1]; simp [e]
    | false =>
      rw [natSet_no h, ih]
      by_cases e : k = i
      · subst e; simp [h]
      · have h1 : decide (i < k + 1) = decide (i < k) := by rw [Bool.eq_iff_iff]; simp; omega
        rw [h1]
theorem natSet_lt (p : Nat → Bool) (k : Nat) : natSet p k < 2 ^ k := by
  apply Nat.lt_pow_two_of_testBit
  intro i hi
  rw [natSet_bit]
  have : decide (i < k) = false := by simp; omega
  rw [this]; rfl
theorem natSet_ext {p q : Nat → Bool} {k : Nat} (h : ∀ i, i < k → p i = q i) : natSet p k = natSet q k := by
  apply Nat.eq_of_testBit_eq
  intro i
  rw [natSet_bit, natSet_bit]
  by_cases hi : i < k
  · rw [h i hi]
  · have : decide (i < k) = false := by simp; omega
    rw [this]; rfl
theorem bits_or_nat {a b : Nat} (ha : a < 2 ^ 62) (hb : b < 2 ^ 62) : bits .or .i64 (a : Int) (b : Int) = ((a ||| b : Nat) : Int) :=
  (bits_nat .i64 62 (by decide) (fun n h0 h1 => by rw [IntKind.wrap_i64]; omega) a b ha hb).2
theorem bits_and_nat {a b : Nat} (ha : a < 2 ^ 62) (hb : b < 2 ^ 62) : bits .and .i64 (a : Int) (b : Int) = ((a &&& b : Nat) : Int) :=
  (bits_nat .i64 62 (by decide) (fun n h0 h1 => by rw [IntKind.wrap_i64]; omega) a b ha hb).1
theorem wrap_pow {x : Nat} (h : x < 62) : wrap64 (2 ^ x) = ((2 ^ x : Nat) : Int) := by
  have h1 : 2 ^ x < 2 ^ 62 := Nat.pow_lt_pow_right (by decide) h
  have hc : ((2 : Int) ^ x) = ((2 ^ x : Nat) : Int) := by simp
  rw [hc]
  clear hc
  generalize 2 ^ x = P at h1
  exact IntWalk.wrap64_in _ (by omega)
theorem or_pow {a x : Nat} (ha : a < 2 ^ 62) (h : x < 62) : bits .or .i64 (a : Int) (wrap64 (2 ^ x)) = ((a ||| 2 ^ x : Nat) : Int) := by
  rw [wrap_pow h, bits_or_nat ha (Nat.pow_lt_pow_right (by decide) h)]
theorem setOf_nat (p : Nat → Bool) : ∀ k, k ≤ 62 → setOf p k = ((natSet p k : Nat) : Int)
  | 0, _ => by rw [setOf_zero, natSet_zero]; rfl
  | k + 1, h => by
    have ih := setOf_nat p k (by omega)
    have hl : natSet p k < 2 ^ 62 := Nat.lt_of_lt_of_le (natSet_lt p k) (Nat.pow_le_pow_right (by decide) (by omega))
    cases hp : p k with
    | true => rw [setOf_yes hp, natSet_yes hp, ih, or_pow hl (by omega)]
    | false => rw [setOf_no hp, natSet_no hp, ih]
theorem natSet_and (p q : Nat → Bool) (k : Nat) : natSet p k &&& natSet q k = natSet (fun x => p x && q x) k := by
  apply Nat.eq_of_testBit_eq
  intro i
  rw [Nat.testBit_and, natSet_bit, natSet_bit, natSet_bit]
  cases decide (i < k) <;> cases p i <;> cases q i <;> rfl
theorem natSet_62 (p : Nat → Bool) {k : Nat} (h : k ≤ 62) : natSet p k < 2 ^ 62 := Nat.lt_of_lt_of_le (natSet_lt p k) (Nat.pow_le_pow_right (by decide) h)

/-! ### the socle -/
def SocTo (t u : List (List Int)) (x k : Nat) : Prop := ∀ y, y < k → ent u x y = ent t x y ∧ ent t x y = ent t y x
instance (t u x k) : Decidable (SocTo t u x k) := by unfold SocTo; infer_instance
@[irreducible] def socB (t u : List (List Int)) (x k : Nat) : Bool := decide (SocTo t u x k)
theorem socB_iff {t u x k} : socB t u x k = true ↔ SocTo t u x k := by unfold socB; simp
theorem socB_zero (t u x) : socB t u x 0 = true := socB_iff.2 (fun y hy => by omega)
theorem socB_succ (t u : List (List Int)) (x k : Nat) : socB t u x (k + 1) = ((socB t u x k && (ent u x k == ent t x k)) && (ent t x k == ent t k x)) := by
  rw [Bool.eq_iff_iff, Bool.and_eq_true, Bool.and_eq_true, socB_iff, socB_iff, beq_iff_eq, beq_iff_eq]
  constructor
  · intro h; exact ⟨⟨fun y hy => h y (by omega), (h k (by omega)).1⟩, (h k (by omega)).2⟩
  · rintro ⟨⟨h1, h2⟩, h3⟩ y hy
    by_cases e : y = k
    · subst e; exact ⟨h2, h3⟩
    · exact h1 y (by omega)
theorem row_eq_ent {t u : List (List Int)} (h : TableOk t) (h2 : TableOk u) (hl : t.length = u.length) {x : Nat} (hx : x < t.length) : row t x = row u x ↔ ∀ y, y < t.length → ent u x y = ent t x y := by
  constructor
  · intro e y hy
    rw [← ent_def, ← ent_def, e]
  · intro hc
    refine ix_ext (by rw [h.len hx, h2.len (by omega), hl]) fun i hi => ?_
    rw [h.len hx] at hi
    rw [ent_def, ent_def]
    exact (hc i hi).symm
theorem socB_row {t u : List (List Int)} (h : TableOk t) (h2 : TableOk u) (hl : t.length = u.length) {x : Nat} (hx : x < t.length) : (eqIB (row t x) (row u x) && eqIB (row t x) (row (turnT t) x)) = socB t u x t.length := by
  rw [Bool.eq_iff_iff, Bool.and_eq_true, eqIB_iff, eqIB_iff, socB_iff, row_eq_ent h h2 hl hx, row_eq_turn h hx]
  constructor
  · rintro ⟨a, b⟩ y hy; exact ⟨a y hy, b y hy⟩
  · intro a; exact ⟨fun y hy => (a y hy).1, fun y hy => (a y hy).2⟩
@[irreducible] def socI (t u : List (List Int)) : Int := setOf (fun x => socB t u x t.length) t.length
theorem socI_def (t u : List (List Int)) : socI t u = setOf (fun x => socB t u x t.length) t.length := by unfold socI; rfl
/-- the socle as a number -/
@[irreducible] def socN (t u : List (List Int)) : Nat := natSet (fun x => socB t u x t.length) t.length
theorem socN_def (t u : List (List Int)) : socN t u = natSet (fun x => socB t u x t.length) t.length := by unfold socN; rfl
theorem socI_nat {t u : List (List Int)} (h : t.length ≤ 12) : socI t u = ((socN t u : Nat) : Int) := by rw [socI_def, socN_def, setOf_nat _ _ (by omega)]
/-- the annihilator -/
@[irreducible] def annN (t u : List (List Int)) : Nat := natSet (fun x => socB t u x t.length && comB u x t.length) t.length
theorem annN_def (t u : List (List Int)) : annN t u = natSet (fun x => socB t u x t.length && comB u x t.length) t.length := by unfold annN; rfl
theorem ann_spec {t u : List (List Int)} (h : t.length ≤ 12) (hl : t.length = u.length) : bits .and .i64 (socI t u) (centerI u) = ((annN t u : Nat) : Int) := by
  rw [socI_def, centerI_def, ← hl, setOf_nat _ _ (by omega), setOf_nat _ _ (by omega), bits_and_nat (natSet_62 _ (by omega)) (natSet_62 _ (by omega)), natSet_and, annN_def]
/-- the program's way: S holds what of the first i elements of the list is central -/
def AnnTo (t u : List (List Int)) (i S : Nat) : Prop := S < 2 ^ t.length ∧ ∀ x : Nat, S.testBit x = true ↔ (∃ j, j < i ∧ ix (elemsL (socN t u)) j = (x : Int)) ∧ comB u x t.length = true
theorem AnnTo.zero (t u) : AnnTo t u 0 0 := ⟨Nat.two_pow_pos _, fun x => by simp⟩
theorem AnnTo.no {t u i S} (h : AnnTo t u i S) {x : Nat} (hx : ix (elemsL (socN t u)) i = (x : Int)) (hc : comB u x t.length = false) : AnnTo t u (i + 1) S := ⟨h.1, fun y => by
  rw [h.2]
  constructor
  · rintro ⟨⟨j, hj, e⟩, hy⟩; exact ⟨⟨j, by omega, e⟩, hy⟩
  · rintro ⟨⟨j, hj, e⟩, hy⟩
    refine ⟨⟨j, ?_, e⟩, hy⟩
    apply Classical.byContradiction
    intro hji
    have : j = i := by omega
    subst this
    rw [hx] at e
    have : x = y := by omega
    subst this
    rw [hc] at hy; cases hy⟩
theorem AnnTo.yes {t u i S} (h : AnnTo t u i S) {x : Nat} (hl : x < t.length) (hx : ix (elemsL (socN t u)) i = (x : Int)) (hc : comB u x t.length = true) : AnnTo t u (i + 1) (S ||| 2 ^ x) := by
  refine ⟨Nat.or_lt_two_pow h.1 (Nat.pow_lt_pow_right (by decide) hl), fun y => ?_⟩
  rw [Nat.testBit_or, Nat.testBit_two_pow, Bool.or_eq_true, h.2, decide_eq_true_iff]
  constructor
  · rintro (⟨⟨j, hj, e⟩, hy⟩ | rfl)
    · exact ⟨⟨j, by omega, e⟩, hy⟩
    · exact ⟨⟨i, by omega, hx⟩, hc⟩
  · rintro ⟨⟨j, hj, e⟩, hy⟩
    by_cases hji : j = i
    · subst hji
      rw [hx] at e
      right; omega
    · left; exact ⟨⟨j, by omega, e⟩, hy⟩
theorem AnnTo.done {t u S} (hn : t.length ≤ 12) (h : AnnTo t u (elemsL (socN t u)).length S) : S = annN t u := by
  have hsl : socN t u < 2 ^ t.length := by rw [socN_def]; exact natSet_lt _ _
  have hs62 := lt62 hn hsl
  apply Nat.eq_of_testBit_eq
  intro x
  rw [Bool.eq_iff_iff, h.2, annN_def, natSet_bit, Bool.and_eq_true, Bool.and_eq_true, decide_eq_true_iff]
  constructor
  · rintro ⟨⟨j, hj, e⟩, hy⟩
    obtain ⟨z, hz, bz, ez⟩ := elemsL_get hsl (by omega) hj
    rw [e] at ez
    have : x = z := by omega
    subst this
    rw [bitB_test hs62, socN_def, natSet_bit, Bool.and_eq_true] at bz
    exact ⟨hz, bz.2, hy⟩
  · rintro ⟨hx, hs, hy⟩
    have hb : bitB (socN t u) x = true := by rw [bitB_test hs62, socN_def, natSet_bit, hs]; simp [hx]
    obtain ⟨j, hj, e⟩ := elemsL_has hsl (by omega) hb
    exact ⟨⟨j, hj, e⟩, hy⟩
end Go.Proofs.Ytjbloenjphpngaa

/-
  The least form of a brace: plain.
-/
namespace Go.Proofs.Ytjbloenjphpngaa
set_option linter.unusedVariables false
set_option linter.unusedSimpArgs false

theorem cmpL_cons (a b : Int) (l m : List Int) : cmpL (a :: l) (b :: m) = if cmpI a b = 0 then cmpL l m else cmpI a b := by unfold cmpL; rfl
theorem cmpL_neg : ∀ (l m : List Int), cmpL l m < 0 ↔ l < m
  | [], [] => by unfold cmpL cmpBy; simp
  | [], b :: m => by unfold cmpL cmpBy; simp
  | a :: l, [] => by unfold cmpL cmpBy; simp
  | a :: l, b :: m => by
    have ih := cmpL_neg l m
    rw [List.cons_lt_cons_iff, ← ih, cmpL_cons]
    by_cases h1 : a < b
    · have : cmpI a b = -1 := by unfold cmpI; rw [if_pos h1]
      simp [this, h1]
    · by_cases h2 : b < a
      · have : cmpI a b = 1 := by unfold cmpI; rw [if_neg h1, if_pos h2]
        simp [this, h1, show ¬ a = b by omega]
      · have e : a = b := by omega
        subst e
        have : cmpI a a = 0 := cmpI_zero.2 rfl
        simp [this]
theorem lessB_cmp {l m : List Int} : lessB l m = decide (cmpL l m < 0) := by
  unfold lessB
  by_cases h : l < m
  · rw [decide_eq_true h, decide_eq_true ((cmpL_neg l m).2 h)]
  · rw [decide_eq_false h, decide_eq_false (fun e => h ((cmpL_neg l m).1 e))]
/-- the image of a table by a permutation -/
def imgE (t : List (List Int)) (p : List Int) (i j : Nat) : Int := ix p (ent t (indexOf p i).toNat (indexOf p j).toNat).toNat
def imgT (t : List (List Int)) (p : List Int) : List (List Int) := mkT t.length (imgE t p)
theorem indexOf_at {n : Nat} {p : List Int} (hp : IsoOk n [] [] p) {x : Nat} (hx : x < n) : indexOf p (ix p x) = (x : Int) := by
  rcases indexOf_spec p (ix p x) with ⟨_, h⟩ | ⟨i, hi, e, e2, _⟩
  · exact absurd rfl (h x (by have := hp.1; omega))
  · rw [e]
    have := hp.inj (x := i) (y := x) (by have := hp.1; omega) hx e2
    omega
theorem imgE_at {t : List (List Int)} {p : List Int} (hp : IsoOk t.length [] [] p) {x y : Nat} (hx : x < t.length) (hy : y < t.length) : imgE t p (ix p x).toNat (ix p y).toNat = ix p (ent t x y).toNat := by
  unfold imgE
  rw [Int.toNat_of_nonneg (hp.bd hx).1, Int.toNat_of_nonneg (hp.bd hy).1, indexOf_at hp hx, indexOf_at hp hy, Int.toNat_natCast, Int.toNat_natCast]
/-- one pair of tables stands ahead of another -/
def lessP (a b : List (List Int) × List (List Int)) : Bool := if cmpT a.1 b.1 = 0 then decide (cmpT a.2 b.2 < 0) else decide (cmpT a.1 b.1 < 0)
def stepP (t u : List (List Int)) (best : List (List Int) × List (List Int)) (p : List Int) : List (List Int) × List (List Int) := if lessP (imgT t p, imgT u p) best then (imgT t p, imgT u p) else best
/-- the least form -/
@[irreducible] noncomputable def leastP (t u : List (List Int)) : List (List Int) × List (List Int) := ((isoL t.length [] []).filter fun p => decide (ix p 0 = 0)).foldl (stepP t u) (t, u)
/-- those that lead 0 to 0 stand first -/
theorem zero_first {L : List (List Int)} (hs : L.Pairwise LexLt) (h0 : ∀ p, p ∈ L → 0 ≤ ix p 0) : ∀ (pre : List (List Int)) (p : List Int) (rest : List (List Int)), L = pre ++ p :: rest → (∀ q, q ∈ pre → ix q 0 = 0) → ix p 0 ≠ 0 → (L.filter fun p => decide (ix p 0 = 0)) = pre := by
  intro pre p rest hL hp hne
  subst hL
  rw [List.filter_append]
  have h1 : (pre.filter fun p => decide (ix p 0 = 0)) = pre := List.filter_eq_self.2 fun q hq => by simpa using hp q hq
  have h2 : ((p :: rest).filter fun p => decide (ix p 0 = 0)) = [] := by
    rw [List.filter_eq_nil_iff]
    intro q hq
    have hp0 := h0 p (by simp)
    rcases List.mem_cons.1 hq with rfl | hq
    · simpa using hne
    · have hlt := (List.pairwise_cons.1 (List.pairwise_append.1 hs).2.1).1 q hq
      obtain ⟨d, k1, k2⟩ := hlt
      have : ix p 0 ≤ ix q 0 := by
        by_cases e : d = 0
        · subst e; omega
        · have := k1 0 (by omega); omega
      simp; omega
  rw [h1, h2, List.append_nil]
end Go.Proofs.Ytjbloenjphpngaa

/-
  Which of two lists of tables stands ahead, row by row; the least form as a fold: plain.
-/
namespace Go.Proofs.Ytjbloenjphpngaa
set_option linter.unusedVariables false
set_option linter.unusedSimpArgs false

/-- d tables from table k on -/
def befG (az bz : List (List (List Int))) : Nat → Nat → Bool
  | 0, _ => false
  | d + 1, k => if cmpT (tab az k) (tab bz k) = 0 then befG az bz d (k + 1) else decide (cmpT (tab az k) (tab bz k) < 0)
/-- from row x of table k on -/
def befR (az bz : List (List (List Int))) (d k x : Nat) : Bool := if cmpTF (tab az k) (tab bz k) x = 0 then befG az bz d (k + 1) else decide (cmpTF (tab az k) (tab bz k) x < 0)
theorem befG_zero (az bz : List (List (List Int))) (k : Nat) : befG az bz 0 k = false := rfl
theorem befG_row (az bz : List (List (List Int))) (d k : Nat) : befG az bz (d + 1) k = befR az bz d k 0 := by unfold befG befR; rw [cmpTF_zero]
theorem befR_end {az bz : List (List (List Int))} {d k x : Nat} (h : (tab az k).length ≤ x) (h2 : (tab bz k).length ≤ x) : befR az bz d k x = befG az bz d (k + 1) := by unfold befR; rw [if_pos (cmpTF_end h h2)]
theorem befR_same {az bz : List (List (List Int))} {d k x : Nat} (h : x < (tab az k).length) (h2 : x < (tab bz k).length) (e : eqIB (row (tab az k) x) (row (tab bz k) x) = true) : befR az bz d k x = befR az bz d k (x + 1) := by
  unfold befR; rw [cmpTF_eq h h2 (cmpL_zero.2 (eqIB_iff.1 e))]
theorem befR_diff {az bz : List (List (List Int))} {d k x : Nat} (h : x < (tab az k).length) (h2 : x < (tab bz k).length) (e : eqIB (row (tab az k) x) (row (tab bz k) x) = false) : befR az bz d k x = lessB (row (tab az k) x) (row (tab bz k) x) := by
  have hne : cmpL (row (tab az k) x) (row (tab bz k) x) ≠ 0 := fun h0 => by
    rw [eqIB_iff.2 (cmpL_zero.1 h0)] at e; cases e
  unfold befR; rw [cmpTF_ne h h2 hne, if_neg hne, lessB_cmp]
theorem befG_two (a1 a2 b1 b2 : List (List Int)) : befG [a1, a2] [b1, b2] 2 0 = lessP (a1, a2) (b1, b2) := by
  unfold befG befG befG lessP
  rw [tab_two0, tab_two0, tab_two1, tab_two1]
  by_cases h : cmpT a1 b1 = 0
  · rw [if_pos h, if_pos h]
    by_cases h2 : cmpT a2 b2 = 0
    · rw [if_pos h2, h2]; rfl
    · rw [if_neg h2]
  · rw [if_neg h, if_neg h]
/-- the fold over the first k permutations, those that lead 0 elsewhere left out -/
@[irreducible] def foldZ (t u : List (List Int)) (L : List (List Int)) (k : Nat) : List (List Int) × List (List Int) := ((L.take k).filter fun p => decide (ix p 0 = 0)).foldl (stepP t u) (t, u)
theorem foldZ_zero (t u : List (List Int)) (L : List (List Int)) : foldZ t u L 0 = (t, u) := by unfold foldZ; simp
theorem take_snoc (L : List (List Int)) (k : Nat) (h : k < L.length) : L.take (k + 1) = L.take k ++ [row L k] := by
  rw [List.take_succ_eq_append_getElem h, row_eq]; simp [List.getD, h]
theorem foldZ_skip {t u : List (List Int)} {L : List (List Int)} {k : Nat} (h : k < L.length) (h0 : ix (row L k) 0 ≠ 0) : foldZ t u L (k + 1) = foldZ t u L k := by
  unfold foldZ; rw [take_snoc L k h, List.filter_append, List.filter_cons_of_neg (by simpa using h0), List.filter_nil, List.append_nil]
theorem foldZ_step {t u : List (List Int)} {L : List (List Int)} {k : Nat} (h : k < L.length) (h0 : ix (row L k) 0 = 0) : foldZ t u L (k + 1) = stepP t u (foldZ t u L k) (row L k) := by
  unfold foldZ; rw [take_snoc L k h, List.filter_append, List.filter_cons_of_pos (by simpa using h0), List.filter_nil, List.foldl_append]; rfl
theorem foldZ_all {t u : List (List Int)} : foldZ t u (isoL t.length [] []) (isoL t.length [] []).length = leastP t u := by unfold foldZ leastP; rw [List.take_length]
theorem stepP_yes {t u : List (List Int)} {b : List (List Int) × List (List Int)} {p : List Int} (h : lessP (imgT t p, imgT u p) b = true) : stepP t u b p = (imgT t p, imgT u p) := by unfold stepP; rw [if_pos h]
theorem stepP_no {t u : List (List Int)} {b : List (List Int) × List (List Int)} {p : List Int} (h : lessP (imgT t p, imgT u p) b = false) : stepP t u b p = b := by unfold stepP; rw [h]; rfl
end Go.Proofs.Ytjbloenjphpngaa

/-
  Slices of slices of integers that grow by several rows at once. No program in sight.
-/
namespace Go.Proofs.Ytjbloenjphpngaa
set_option linter.unusedVariables false
set_option linter.unusedSimpArgs false
open Go.RowKit

/-- the values xs are slices that hold the rows of s -/
def XS (w : World) (xs : List Value) (s : List (List Int)) : Prop := xs.length = s.length ∧ ∀ i, i < s.length → ∃ x, xs[i]? = some x ∧ Ints w x (row s i)
theorem XS.nil (w : World) : XS w [] [] := ⟨rfl, fun i hi => by simp at hi⟩
theorem XS.one {w : World} {x : Value} {l : List Int} (h : Ints w x l) : XS w [x] [l] := ⟨rfl, fun i hi => by
  have : i = 0 := by simpa using hi
  subst this
  exact ⟨x, rfl, by rw [row_eq]; exact h⟩⟩
theorem XS.ext {w w' : World} {xs : List Value} {s : List (List Int)} (h : XS w xs s) (hx : Ext w w') : XS w' xs s := ⟨h.1, fun i hi => by
  obtain ⟨x, h1, h2⟩ := h.2 i hi
  exact ⟨x, h1, h2.ext hx⟩⟩
theorem XS.append {w : World} {xs ys : List Value} {s t : List (List Int)} (h : XS w xs s) (k : XS w ys t) : XS w (xs ++ ys) (s ++ t) := by
  refine ⟨by simp [h.1, k.1], fun i hi => ?_⟩
  by_cases hs : i < s.length
  · obtain ⟨x, h1, h2⟩ := h.2 i hs
    refine ⟨x, by rw [List.getElem?_append_left (by rw [h.1]; exact hs)]; exact h1, ?_⟩
    rw [row_eq]
    rw [row_eq] at h2
    simpa [List.getD, List.getElem?_append_left hs] using h2
  · have hl : i - s.length < t.length := by simp at hi; omega
    obtain ⟨x, h1, h2⟩ := k.2 (i - s.length) hl
    refine ⟨x, by rw [List.getElem?_append_right (by rw [h.1]; omega), h.1]; exact h1, ?_⟩
    rw [row_eq]
    rw [row_eq] at h2
    simpa [List.getD, List.getElem?_append_right (Nat.le_of_not_lt hs)] using h2
theorem XS.take {w : World} {xs : List Value} {s : List (List Int)} (h : XS w xs s) (k : Nat) : XS w (xs.take k) (s.take k) := by
  refine ⟨by simp [h.1], fun i hi => ?_⟩
  have hi' : i < k ∧ i < s.length := by rw [List.length_take] at hi; omega
  obtain ⟨x, h1, h2⟩ := h.2 i hi'.2
  refine ⟨x, by rw [List.getElem?_take, if_pos hi'.1]; exact h1, ?_⟩
  rw [row_eq]
  rw [row_eq] at h2
  simpa [List.getD, List.getElem?_take, hi'.1] using h2
theorem XS.drop {w : World} {xs : List Value} {s : List (List Int)} (h : XS w xs s) (k : Nat) : XS w (xs.drop k) (s.drop k) := by
  refine ⟨by simp [h.1], fun i hi => ?_⟩
  have hi' : k + i < s.length := by rw [List.length_drop] at hi; omega
  obtain ⟨x, h1, h2⟩ := h.2 (k + i) hi'
  refine ⟨x, by rw [List.getElem?_drop]; exact h1, ?_⟩
  rw [row_eq]
  rw [row_eq] at h2
  simpa [List.getD, List.getElem?_drop] using h2
theorem XS.cell {w : World} {xs : List Value} {s : List (List Int)} (h : XS w xs s) : ∀ u ∈ xs, u.oneCell' = true := by
  intro u hu
  obtain ⟨i, hi, rfl⟩ := List.mem_iff_getElem.1 hu
  obtain ⟨x, h1, _, b, o, c, rfl, _⟩ := h.2 i (by rw [← h.1]; exact hi)
  rw [List.getElem?_eq_getElem hi] at h1
  have h1 := Option.some.inj h1
  rw [h1]; rfl
/-- v is a slice of the call's own of slices that hold the rows of s -/
def GrowX (e base : Nat) (w : World) (v : Value) (s : List (List Int)) : Prop := ∃ xs, w.ownsRow base e 1 v s.length xs ∧ XS w xs s
theorem GrowX.ext {e base : Nat} {w w' : World} {v : Value} {s : List (List Int)} (h : GrowX e base w v s) (hx : Ext w w') : GrowX e base w' v s := by
  obtain ⟨xs, h1, h2⟩ := h
  exact ⟨xs, ownsRow_ext h1 hx, h2.ext hx⟩
theorem GrowX.lit {e base : Nat} {w : World} (hb : base ≤ w.heap.size) : GrowX e base (w.alloc (.cells #[] e)) (.slice (some ⟨w.heap.size, 0, none⟩) 0 0) [] :=
  ⟨[], World.ownsRow_made w #[] 0 hb (Nat.zero_le _) rfl, XS.nil _⟩
theorem ownsRow_one {e base : Nat} {w : World} {x : Value} (hb : base ≤ w.heap.size) : (w.alloc (.cells #[x] e)).ownsRow base e 1 (.slice (some ⟨w.heap.size, 0, none⟩) 1 1) 1 [x] :=
  ⟨rfl, .inr ⟨w.heap.size, 1, #[x], rfl, hb, heap_alloc_new w _, Nat.le_refl _, by unfold maxLen; omega, rfl, rfl⟩⟩
/-- its parts -/
theorem GrowX.parts {e base : Nat} {w : World} {v : Value} {s : List (List Int)} (h : GrowX e base w v s) (hv : v ≠ .slice none 0 0) :
    ∃ g cap xs, v = .slice (some ⟨g, 0, none⟩) s.length cap ∧ s.length ≤ cap ∧ base ≤ g ∧ g < w.heap.size ∧ XS w xs s ∧ (∀ i x, xs[i]? = some x → w.cell? ⟨g, i, none⟩ = some x) ∧ w.ownsRow base e 1 v s.length xs := by
  obtain ⟨xs, h1, h2⟩ := h
  rcases id h1.2 with ⟨rfl, _⟩ | ⟨g, cap, cur, rfl, hb, hg, hnc, _⟩
  · exact absurd rfl hv
  · refine ⟨g, cap, xs, rfl, hnc, hb, (h1.lt g rfl).2, h2, fun i x hi => ?_, h1⟩
    have := h1.cells (g := g) rfl i x hi
    rwa [Addr.add_lit, Nat.zero_add] at this
theorem GrowX.rows {e base : Nat} {w : World} {v : Value} {s : List (List Int)} (h : GrowX e base w v s) (hv : v ≠ .slice none 0 0) (hl : s.length ≤ 1048576) : Rows w v s := by
  obtain ⟨g, cap, xs, rfl, _, _, _, h2, h3, _⟩ := h.parts hv
  refine ⟨hl, g, 0, cap, rfl, fun i hi => ?_⟩
  obtain ⟨x, k1, k2⟩ := h2.2 i hi
  exact ⟨x, by rw [Nat.zero_add]; exact h3 i x k1, k2⟩

/-- append(v, src..): the values at hand -/
theorem wpList_append_xs {P : Program} {w : World} {ops : Array Oper} {rest : List Oper} {o : Oper} {a : Act} {Q : Exit → Act → World → Prop} (hgd : o.guard = none) (s x : Operand) (t e : TypeId)
    (ho : o.op = .call { callee := .builtin .append, args := #[s, x], argTypes := #[t, t] }) (ht : P.underlying t = some (.slice e)) (hinfo : (P.info? e).map (fun i => (i.zero, i.size, i.bytes)) = some (some (.slice none 0 0), 1, 24))
    (base : Nat) (v : Value) (n : Nat) (xs : List Value) (hs : a.eval s = v) (hown : w.ownsRow base e 1 v n xs) (hv : v ≠ .slice none 0 0) (g q c m : Nat) (ys : List Value) (hm : ys.length = m) (hx : a.eval x = .slice (some ⟨g, q, none⟩) m c)
    (hc : ∀ i x, ys[i]? = some x → w.cell? ⟨g, q + i, none⟩ = some x) (h1 : ∀ u ∈ ys, u.oneCell' = true) (hl : n ≤ 1048576) (hl2 : m ≤ 1048576) (hbase : base ≤ w.heap.size)
    (h : ∀ v' w', w'.ownsRow base e 1 v' (n + m) (xs ++ ys) → w.grownBy w' v.ownBlock → v' ≠ .slice none 0 0 → wpList P ops Q rest (a.put o.dst v') w') : wpList P ops Q (o :: rest) a w := by
  obtain ⟨i0, hi, hz0, hz1, hz2⟩ := info_parts hinfo
  refine wpList_append_own w hgd s x t ho base e i0 (.slice none 0 0) 1 24 ht hi hz0 hz1 hz2 rfl (by decide) v n xs hs hown ⟨g, q, none⟩ m c ys hx (by rw [hm]; simp) ?_ h1 (by unfold maxLen; omega) (by omega) hbase fun v' w' h1 h2 h3 => h v' w' h1 h2 (fun e => hv (h3.1 e).1)
  intro j u hj
  rw [Addr.add_lit]
  exact hc j u hj
/-- the same at a step of a region that draws its order -/
theorem step_append_xs {P : Program} {w : World} {ops : Array Oper} {o : Oper} {a : Act} {K : Act → World → Prop} {Q : Exit → Act → World → Prop} {E : Prop} (hgd : o.guard = none) (s x : Operand) (t e : TypeId)
    (ho : o.op = .call { callee := .builtin .append, args := #[s, x], argTypes := #[t, t] }) (ht : P.underlying t = some (.slice e)) (hinfo : (P.info? e).map (fun i => (i.zero, i.size, i.bytes)) = some (some (.slice none 0 0), 1, 24))
    (base : Nat) (v : Value) (n : Nat) (xs : List Value) (hs : a.eval s = v) (hown : w.ownsRow base e 1 v n xs) (hv : v ≠ .slice none 0 0) (g q c m : Nat) (ys : List Value) (hm : ys.length = m) (hx : a.eval x = .slice (some ⟨g, q, none⟩) m c)
    (hc : ∀ i x, ys[i]? = some x → w.cell? ⟨g, q + i, none⟩ = some x) (h1 : ∀ u ∈ ys, u.oneCell' = true) (hl : n ≤ 1048576) (hl2 : m ≤ 1048576) (hbase : base ≤ w.heap.size)
    (h : ∀ v' w', w'.ownsRow base e 1 v' (n + m) (xs ++ ys) → w.grownBy w' v.ownBlock → v' ≠ .slice none 0 0 → K (a.put o.dst v') w') : if Region.wanted o (yielded ops a.tmps) = true then Oper.wp P o a w K Q else E := by
  obtain ⟨i0, hi, hz0, hz1, hz2⟩ := info_parts hinfo
  have hw : Region.wanted o (yielded ops a.tmps) = true := by simp [Region.wanted, hgd]
  rw [if_pos hw]
  refine wp_append_own w s x t ho base e i0 (.slice none 0 0) 1 24 ht hi hz0 hz1 hz2 rfl (by decide) v n xs hs hown ⟨g, q, none⟩ m c ys hx (by rw [hm]; simp) ?_ h1 (by unfold maxLen; omega) (by omega) hbase fun v' w' h1 h2 h3 => h v' w' h1 h2 (fun e => hv (h3.1 e).1)
  intro j u hj
  rw [Addr.add_lit]
  exact hc j u hj
end Go.Proofs.Ytjbloenjphpngaa

/-
  Refining colours: plain.
-/
namespace Go.Proofs.Ytjbloenjphpngaa
set_option linter.unusedVariables false
set_option linter.unusedSimpArgs false

def ColOk (n : Nat) (c : List Int) : Prop := c.length = n ∧ ∀ i, i < n → 0 ≤ ix c i ∧ ix c i ≤ 60
/-- the marks of all elements of both -/
@[irreducible] def marksL (az bz : List (List (List Int))) (l r : List Int) (n K : Nat) : List (List Int) :=
  ((List.range n).map fun x => markL az l n x K) ++ (List.range n).map fun x => markL bz r n x K
theorem length_marksL (az bz : List (List (List Int))) (l r : List Int) (n K : Nat) : (marksL az bz l r n K).length = 2 * n := by unfold marksL; simp; omega
theorem row_marksL1 (az bz : List (List (List Int))) (l r : List Int) (n K x : Nat) (hx : x < n) : row (marksL az bz l r n K) x = markL az l n x K := by
  rw [row_eq]; unfold marksL
  simp [List.getD, List.getElem?_append_left, hx]
theorem row_marksL2 (az bz : List (List (List Int))) (l r : List Int) (n K x : Nat) (hx : x < n) : row (marksL az bz l r n K) (n + x) = markL bz r n x K := by
  rw [row_eq]; unfold marksL
  simp [List.getD, List.getElem?_append_right, hx]
theorem length_row_marksL (az bz : List (List (List Int))) (l r : List Int) (n K i : Nat) (hi : i < 2 * n) : (row (marksL az bz l r n K) i).length = 1 + K * (2 * n) := by
  by_cases h : i < n
  · rw [row_marksL1 _ _ _ _ _ _ _ h, length_markL]
  · obtain ⟨x, rfl⟩ : ∃ x, i = n + x := ⟨i - n, by omega⟩
    rw [row_marksL2 _ _ _ _ _ _ _ (by omega), length_markL]
/-- the marks made so far -/
@[irreducible] def marksTo (az bz : List (List (List Int))) (l r : List Int) (n K i : Nat) : List (List Int) := (marksL az bz l r n K).take i
theorem marksTo_def (az bz : List (List (List Int))) (l r : List Int) (n K i : Nat) : marksTo az bz l r n K i = (marksL az bz l r n K).take i := by unfold marksTo; rfl
theorem marksTo_succ (az bz : List (List (List Int))) (l r : List Int) (n K i : Nat) (hi : i < 2 * n) : marksTo az bz l r n K (i + 1) = marksTo az bz l r n K i ++ [row (marksL az bz l r n K) i] := by
  rw [marksTo_def, marksTo_def]
  have h : i < (marksL az bz l r n K).length := by rw [length_marksL]; exact hi
  rw [List.take_succ_eq_append_getElem h, row_eq]; simp [List.getD, h]
theorem marksTo_all (az bz : List (List (List Int))) (l r : List Int) (n K : Nat) : marksTo az bz l r n K (2 * n) = marksL az bz l r n K := by
  rw [marksTo_def]; exact List.take_of_length_le (by rw [length_marksL]; omega)
theorem length_marksTo (az bz : List (List (List Int))) (l r : List Int) (n K i : Nat) (hi : i ≤ 2 * n) : (marksTo az bz l r n K i).length = i := by
  rw [marksTo_def, List.length_take, length_marksL]; omega
theorem marksTo_zero (az bz : List (List (List Int))) (l r : List Int) (n K : Nat) : marksTo az bz l r n K 0 = [] := by rw [marksTo_def, List.take_zero]

/-- all colours below num are in use -/
def Used (n num : Nat) (l r : List Int) : Prop := ∀ c : Nat, c < num → ∃ x, x < n ∧ (ix l x = (c : Int) ∨ ix r x = (c : Int))
theorem Used.zero (n : Nat) (l r : List Int) : Used n 0 l r := fun c hc => by omega
theorem Used.more {az bz : List (List (List Int))} {l r : List Int} {n K num : Nat} {Kd : List (List Int)} (h : Used n num l r) (hk : Kinds (marksL az bz l r n K) Kd) : num ≤ Kd.length := by
  refine hk.more fun c hc => ?_
  obtain ⟨x, hx, e | e⟩ := h c hc
  · exact ⟨x, by rw [length_marksL]; omega, by rw [row_marksL1 _ _ _ _ _ _ _ hx, markL_head]; exact e⟩
  · exact ⟨n + x, by rw [length_marksL]; omega, by rw [row_marksL2 _ _ _ _ _ _ _ hx, markL_head]; exact e⟩
/-- the new colour of place i -/
@[irreducible] def newC (M Kd : List (List Int)) (i : Nat) : Int := (placeL Kd (row M i) : Nat)
theorem newC_def (M Kd : List (List Int)) (i : Nat) : newC M Kd i = (placeL Kd (row M i) : Nat) := by unfold newC; rfl
theorem row_mem {M : List (List Int)} {i : Nat} (h : i < M.length) : row M i ∈ M := by rw [row_eq]; simp [List.getD, h]
theorem newC_bd {M Kd : List (List Int)} (hk : Kinds M Kd) {i : Nat} (hi : i < M.length) : 0 ≤ newC M Kd i ∧ newC M Kd i < Kd.length := by
  have := placeL_lt (hk.2.2 _ (row_mem hi))
  rw [newC_def]; omega
/-- how much oftener colour c stands among the first n places than behind, as far as place i -/
def cntD (M Kd : List (List Int)) (n c : Nat) : Nat → Int
  | 0 => 0
  | i + 1 => cntD M Kd n c i + (if placeL Kd (row M i) = c then (if i < n then 1 else -1) else 0)
theorem cntD_bd (M Kd : List (List Int)) (n c : Nat) : ∀ i : Nat, -(i : Int) ≤ cntD M Kd n c i ∧ cntD M Kd n c i ≤ i
  | 0 => by unfold cntD; omega
  | i + 1 => by
    have := cntD_bd M Kd n c i
    unfold cntD
    split
    · split <;> omega
    · omega
/-- .. as counts -/
theorem cntD_lo (M Kd : List (List Int)) (n c : Nat) : ∀ i, i ≤ n → cntD M Kd n c i = (((List.range i).countP fun j => decide (placeL Kd (row M j) = c) : Nat) : Int)
  | 0, _ => by unfold cntD; simp
  | i + 1, h => by
    unfold cntD
    rw [cntD_lo M Kd n c i (by omega), List.range_succ, List.countP_append]
    by_cases e : placeL Kd (row M i) = c
    · rw [if_pos e, if_pos (show i < n by omega)]; simp [e]
    · rw [if_neg e]; simp [e]
theorem cntD_hi (M Kd : List (List Int)) (n c : Nat) : ∀ i, i ≤ n → cntD M Kd n c (n + i) = cntD M Kd n c n - (((List.range i).countP fun j => decide (placeL Kd (row M (n + j)) = c) : Nat) : Int)
  | 0, _ => by simp
  | i + 1, h => by
    rw [show n + (i + 1) = (n + i) + 1 from rfl]
    rw [cntD, cntD_hi M Kd n c i (by omega), List.range_succ, List.countP_append]
    by_cases e : placeL Kd (row M (n + i)) = c
    · rw [if_pos e, if_neg (show ¬ n + i < n by omega)]; simp [e]; omega
    · rw [if_neg e]; simp [e]
/-- an isomorphism that keeps the colours: marks agree, so nothing is oftener -/
theorem marks_iso {n : Nat} {az bz : List (List (List Int))} {l r p : List Int} (hA : TabsOk n az) (h : IsoOk n az bz p) (hr : Resp n l r p) {x : Nat} (hx : x < n) :
    row (marksL az bz l r n az.length) x = row (marksL az bz l r n az.length) (n + (ix p x).toNat) := by
  rw [row_marksL1 _ _ _ _ _ _ _ hx, row_marksL2 _ _ _ _ _ _ _ (h.bd hx).2, markL_iso hA h hr hx _ (Nat.le_refl _)]
theorem cntD_iso {n : Nat} {az bz : List (List (List Int))} {l r p : List Int} (hA : TabsOk n az) (h : IsoOk n az bz p) (hr : Resp n l r p) (Kd : List (List Int)) (c : Nat) :
    cntD (marksL az bz l r n az.length) Kd n c (2 * n) = 0 := by
  rw [show 2 * n = n + n by omega, cntD_hi _ _ _ _ n (Nat.le_refl _), cntD_lo _ _ _ _ n (Nat.le_refl _)]
  have e : (List.range n).countP (fun j => decide (placeL Kd (row (marksL az bz l r n az.length) (n + j)) = c)) = (List.range n).countP fun j => decide (placeL Kd (row (marksL az bz l r n az.length) j) = c) := by
    rw [← (perm_range h.1 h.2.1).countP_eq, List.countP_map]
    refine List.countP_congr fun x hx => ?_
    rw [List.mem_range] at hx
    simp only [Function.comp, decide_eq_true_eq]
    rw [marks_iso hA h hr hx]
  rw [e]; omega
/-- the new colours of both halves -/
@[irreducible] def colsL (M Kd : List (List Int)) (m : Nat) : List Int := mkL m (newC M Kd)
theorem length_colsL (M Kd : List (List Int)) (m : Nat) : (colsL M Kd m).length = m := by unfold colsL; exact length_mkL _ _
theorem ix_colsL (M Kd : List (List Int)) (m i : Nat) (h : i < m) : ix (colsL M Kd m) i = newC M Kd i := by unfold colsL; exact ix_mkL _ _ _ h
theorem ix_take {l : List Int} {k i : Nat} (h : i < k) : ix (l.take k) i = ix l i := by
  rw [ix_eq, ix_eq]; simp [List.getD, List.getElem?_take, h]
theorem ix_drop {l : List Int} {k i : Nat} : ix (l.drop k) i = ix l (k + i) := by
  rw [ix_eq, ix_eq]; simp [List.getD, List.getElem?_drop]
theorem cols_ok {M Kd : List (List Int)} {n : Nat} (hk : Kinds M Kd) (hm : M.length = 2 * n) (h12 : n ≤ 12) : ColOk n ((colsL M Kd (2 * n)).take n) ∧ ColOk n ((colsL M Kd (2 * n)).drop n) := by
  have hle := hk.le
  refine ⟨⟨by rw [List.length_take, length_colsL]; omega, fun i hi => ?_⟩, ⟨by rw [List.length_drop, length_colsL]; omega, fun i hi => ?_⟩⟩
  · rw [ix_take hi, ix_colsL _ _ _ _ (by omega)]
    have := newC_bd hk (i := i) (by omega)
    omega
  · rw [ix_drop, ix_colsL _ _ _ _ (by omega)]
    have := newC_bd hk (i := n + i) (by omega)
    omega
theorem cols_used {M Kd : List (List Int)} {n : Nat} (hk : Kinds M Kd) (hm : M.length = 2 * n) : Used n Kd.length ((colsL M Kd (2 * n)).take n) ((colsL M Kd (2 * n)).drop n) := fun c hc => by
  obtain ⟨i, hi, e⟩ := hk.used hc
  by_cases h : i < n
  · exact ⟨i, h, .inl (by rw [ix_take h, ix_colsL _ _ _ _ (by omega), newC_def, e])⟩
  · refine ⟨i - n, by omega, .inr ?_⟩
    rw [ix_drop, ix_colsL _ _ _ _ (by omega), newC_def, show n + (i - n) = i by omega, e]
theorem cols_resp {n : Nat} {az bz : List (List (List Int))} {l r p : List Int} (hA : TabsOk n az) (h : IsoOk n az bz p) (hr : Resp n l r p) (Kd : List (List Int)) :
    Resp n ((colsL (marksL az bz l r n az.length) Kd (2 * n)).take n) ((colsL (marksL az bz l r n az.length) Kd (2 * n)).drop n) p := fun x hx => by
  have hp := h.bd hx
  rw [ix_take hx, ix_drop, ix_colsL _ _ _ _ (by omega), ix_colsL _ _ _ _ (by omega), newC_def, newC_def, marks_iso hA h hr hx]
end Go.Proofs.Ytjbloenjphpngaa

/-
  The search for isomorphisms: plain.
-/
namespace Go.Proofs.Ytjbloenjphpngaa
set_option linter.unusedVariables false
set_option linter.unusedSimpArgs false

/-- f fits as far as it goes -/
def FitAll (az bz : List (List (List Int))) (f : List Int) : Prop :=
  ∀ k, k < az.length → ∀ x, x < f.length → ∀ y, y < f.length → ent (tab az k) x y < (f.length : Int) → ix f (ent (tab az k) x y).toNat = ent (tab bz k) (ix f x).toNat (ix f y).toNat
/-- f is a beginning: elements, different ones, that fits -/
def Begun (n : Nat) (az bz : List (List (List Int))) (f : List Int) : Prop :=
  (∀ i, i < f.length → 0 ≤ ix f i ∧ ix f i < n) ∧ DistinctTo f f.length ∧ FitAll az bz f
theorem begun_iso {n : Nat} {az bz : List (List (List Int))} {f : List Int} (hA : TabsOk n az) (h : Begun n az bz f) (hl : f.length = n) : IsoOk n az bz f := by
  refine ⟨hl, ⟨fun i hi => ?_, h.2.1⟩, fun k hk x hx y hy => ?_⟩
  · have := h.1 i hi
    omega
  · have := hA.bd hk hx hy
    exact h.2.2 k hk x (by omega) y (by omega) (by omega)
theorem extP_get {f p : List Int} (h : ExtP f p) (hf : ∀ i, i < f.length → 0 ≤ ix f i) {i : Nat} (hi : i < f.length) : ix p i = ix f i := h i hi (hf i hi)
/-- the map lengthened by y -/
theorem begun_snoc {n l : Nat} {az bz : List (List (List Int))} {f : List Int} {y : Nat} (h : Begun n az bz f) (hy : y < n) (hh : hasB f y = false) (hfit : ∀ k, k < az.length → ∀ x, x < f.length + 1 → ∀ q, q < f.length + 1 →
    ((f.length : Int) < ent (tab az k) x q ∨ (x < f.length ∧ q < f.length ∧ ent (tab az k) x q < (f.length : Int)) ∨ ix (f ++ [(y : Int)]) (ent (tab az k) x q).toNat = ent (tab bz k) (ix (f ++ [(y : Int)]) x).toNat (ix (f ++ [(y : Int)]) q).toNat))
    (h0 : ∀ k, k < az.length → ∀ x, x < f.length → ∀ q, q < f.length → 0 ≤ ent (tab az k) x q) : Begun n az bz (f ++ [(y : Int)]) := by
  have hne : ∀ j, j < f.length → ix f j ≠ (y : Int) := fun j hj e => by
    have hno := hasB_no.1 hh
    rcases indexOf_spec f y with ⟨_, g⟩ | ⟨i, _, g, _⟩
    · exact g j hj e
    · omega
  refine ⟨fun i hi => ?_, fun i hi j hj => ?_, fun k hk x hx q hq hlt => ?_⟩
  · by_cases e : i < f.length
    · rw [ix_app e]; exact h.1 i e
    · have : i = f.length := by simp at hi; omega
      subst this
      rw [ix_snoc]; omega
  · by_cases e : i < f.length
    · rw [ix_app e, ix_app (show j < f.length by omega)]; exact h.2.1 i e j hj
    · have : i = f.length := by simp at hi; omega
      subst this
      rw [ix_snoc, ix_app hj]; exact hne j hj
  · simp at hx hq hlt
    rcases hfit k hk x hx q hq with g | ⟨g1, g2, g3⟩ | g
    · omega
    · have hp := h0 k hk x g1 q g2
      rw [ix_app g1, ix_app g2, ix_app (by omega)]
      exact h.2.2 k hk x g1 q g2 g3
    · exact g
theorem ext_no_has {n : Nat} {az bz : List (List (List Int))} {f : List Int} {y : Nat} (hf : ∀ i, i < f.length → 0 ≤ ix f i) (hln : f.length < n) (hh : hasB f y = true) : extL n az bz (f ++ [(y : Int)]) = [] := by
  refine extL_nil fun p hp he => ?_
  rw [← extP_snoc (by omega)] at he
  have := hasB_iff.1 hh
  rcases indexOf_spec f y with ⟨g, _⟩ | ⟨i, hi, _, e, _⟩
  · omega
  · have h1 := extP_get he.1 hf hi
    have := hp.inj (x := i) (y := f.length) (by omega) hln (by rw [h1, e, he.2])
    omega
theorem ext_no_colour {n : Nat} {az bz : List (List (List Int))} {f l r : List Int} {y : Nat} (hr : ∀ p, IsoOk n az bz p → ExtP f p → Resp n l r p) (hln : f.length < n) (hne : ix l f.length ≠ ix r y) : extL n az bz (f ++ [(y : Int)]) = [] := by
  refine extL_nil fun p hp he => ?_
  rw [← extP_snoc (by omega)] at he
  have := hr p hp he.1 f.length hln
  rw [he.2, Int.toNat_natCast] at this
  exact hne this
theorem ext_no_fit {n : Nat} {az bz : List (List (List Int))} {f : List Int} (hA : TabsOk n az) (hf : ∀ i, i < f.length → 0 ≤ ix f i) (hln : f.length ≤ n) {k x q : Nat} (hk : k < az.length) (hx : x < f.length) (hq : q < f.length) (hlt : ent (tab az k) x q < (f.length : Int))
    (hno : ix f (ent (tab az k) x q).toNat ≠ ent (tab bz k) (ix f x).toNat (ix f q).toNat) : extL n az bz f = [] := by
  refine extL_nil fun p hp he => ?_
  have h1 := hp.2.2 k hk x (by omega) q (by omega)
  have hb := hA.bd hk (show x < n by omega) (show q < n by omega)
  rw [extP_get he hf hx, extP_get he hf hq, extP_get he hf (show (ent (tab az k) x q).toNat < f.length by omega)] at h1
  exact hno h1
/-- x and y alone with a colour of their own -/
theorem resp_own {n : Nat} {az bz : List (List (List Int))} {f l r : List Int} {y : Nat} (hr : ∀ p, IsoOk n az bz p → ExtP f p → Resp n l r p) (hl : l.length = n) (hrl : r.length = n) (hln : f.length < n) (hy : y < n) {p : List Int} (hp : IsoOk n az bz p) (he : ExtP (f ++ [(y : Int)]) p) : Resp n (l.set f.length 60) (r.set y 60) p := fun z hz => by
  rw [← extP_snoc (by omega)] at he
  have hb := hp.bd hz
  have set_ix : ∀ (c : List Int) (i j : Nat), j < c.length → ix (c.set i 60) j = if i = j then 60 else ix c j := fun c i j hj => by
    rw [ix_eq, ix_eq]
    by_cases h : i = j
    · subst h; simp [List.getD, hj]
    · simp [List.getD, h, List.getElem?_set_ne]
  rw [set_ix _ _ _ (by omega), set_ix _ _ _ (by omega)]
  by_cases e : f.length = z
  · subst e
    rw [if_pos rfl, he.2, Int.toNat_natCast, if_pos rfl]
  · rw [if_neg e, if_neg (fun e2 => e (hp.inj hln hz (by rw [he.2]; omega)))]
    exact hr p hp he.1 z hz
theorem colOk_set {n : Nat} {l : List Int} (h : ColOk n l) (i : Nat) : ColOk n (l.set i 60) := by
  refine ⟨by rw [List.length_set]; exact h.1, fun j hj => ?_⟩
  have := h.2 j hj
  rw [ix_eq] at this ⊢
  by_cases e : i = j
  · subst e
    have : i < l.length := by rw [h.1]; exact hj
    simp [List.getD, this]
  · simp [List.getD, e, List.getElem?_set_ne] at this ⊢
    exact this
/-- the round's arithmetic -/
theorem take_round {α : Type} (s B X : List α) (most : Nat) (h1 : s.length ≤ most) (h : (s ++ B.take (most - s.length)).length < most) :
    (s ++ B.take (most - s.length)) ++ X.take (most - (s ++ B.take (most - s.length)).length) = s ++ (B ++ X).take (most - s.length) := by
  rw [List.length_append, List.length_take] at h
  have hB : B.length < most - s.length := by omega
  rw [List.take_of_length_le (show B.length ≤ most - s.length by omega), List.append_assoc, List.length_append, List.take_append]
  congr 2
  · rw [List.take_of_length_le (by omega)]
  · congr 1; omega
theorem take_full {α : Type} (s B X : List α) (most : Nat) (h1 : s.length ≤ most) (h : ¬ (s ++ B.take (most - s.length)).length < most) : s ++ B.take (most - s.length) = s ++ (B ++ X).take (most - s.length) := by
  rw [List.length_append, List.length_take] at h
  rw [List.take_append_of_le_length (by omega)]
/-- E is what is below k, and the rest -/
theorem below_split {M : List (List Int)} {x : Nat} (k : Nat) (h : M.Pairwise fun p q => ix p x ≤ ix q x) : ∃ X, M = below M x k ++ X := by
  unfold below
  induction M with
  | nil => exact ⟨[], rfl⟩
  | cons a M ih =>
    rw [List.pairwise_cons] at h
    obtain ⟨X, hX⟩ := ih h.2
    by_cases g : ix a x < (k : Int)
    · rw [List.filter_cons_of_pos (by simpa using g)]
      refine ⟨X, ?_⟩
      rw [List.cons_append, ← hX]
    · refine ⟨a :: M, ?_⟩
      rw [List.filter_cons_of_neg (by simpa using g)]
      have : M.filter (fun p => decide (ix p x < (k : Int))) = [] := by
        rw [List.filter_eq_nil_iff]
        intro p hp
        have := h.1 p hp
        simp; omega
      rw [this]; rfl
end Go.Proofs.Ytjbloenjphpngaa

/-
  Sorting by exchanges; counting: plain.
-/
namespace Go.Proofs.Ytjbloenjphpngaa
set_option linter.unusedVariables false
set_option linter.unusedSimpArgs false

/-- the first i are in order -/
def SortedTo (l : List Int) (i : Nat) : Prop := ∀ a b, a < b → b < i → ix l a ≤ ix l b
/-- the first i + 1 are in order but for place j, which is less than what stands behind it -/
def InnerTo (l : List Int) (i j : Nat) : Prop := (∀ a b, a < b → b ≤ i → a ≠ j → b ≠ j → ix l a ≤ ix l b) ∧ ∀ b, j < b → b ≤ i → ix l j ≤ ix l b
theorem SortedTo.one (l : List Int) : SortedTo l 1 := fun a b h1 h2 => by omega
theorem SortedTo.inner {l : List Int} {i : Nat} (h : SortedTo l i) : InnerTo l i i := ⟨fun a b h1 h2 h3 h4 => h a b h1 (by omega), fun b h1 h2 => by omega⟩
/-- places j + 1 and j exchanged -/
@[irreducible] def swapL (l : List Int) (j : Nat) : List Int := (l.set (j + 1) (ix l j)).set j (ix l (j + 1))
theorem length_swapL (l : List Int) (j : Nat) : (swapL l j).length = l.length := by unfold swapL; simp
theorem ix_set (l : List Int) (i j : Nat) (v : Int) (hj : j < l.length) : ix (l.set i v) j = if i = j then v else ix l j := by
  rw [ix_eq, ix_eq]
  by_cases h : i = j
  · subst h; simp [List.getD, hj]
  · simp [List.getD, h, List.getElem?_set_ne]
theorem ix_swapL (l : List Int) (j i : Nat) (hj : j + 1 < l.length) (hi : i < l.length) : ix (swapL l j) i = if i = j then ix l (j + 1) else if i = j + 1 then ix l j else ix l i := by
  unfold swapL
  rw [ix_set _ _ _ _ (by simp; omega)]
  by_cases h : j = i
  · subst h; simp
  · rw [if_neg h, if_neg (by omega), ix_set _ _ _ _ hi]
    by_cases h2 : j + 1 = i
    · subst h2; simp
    · rw [if_neg h2, if_neg (by omega)]
theorem swapL_perm (l : List Int) (j : Nat) (hj : j + 1 < l.length) : (swapL l j).Perm l := by
  have e1 : ix l j = l[j] := by rw [ix_eq]; simp [List.getD, show j < l.length by omega]
  have e2 : ix l (j + 1) = l[j + 1] := by rw [ix_eq]; simp [List.getD, hj]
  unfold swapL
  rw [e1, e2]
  exact List.set_set_perm hj (by omega)
theorem InnerTo.step {l : List Int} {i j : Nat} (h : InnerTo l i (j + 1)) (hi : i < l.length) (hj : j + 1 ≤ i) (hlt : ix l (j + 1) < ix l j) : InnerTo (swapL l j) i j := by
  refine ⟨fun a b h1 h2 h3 h4 => ?_, fun b h1 h2 => ?_⟩
  · rw [ix_swapL l j a (by omega) (by omega), ix_swapL l j b (by omega) (by omega), if_neg h3, if_neg h4]
    by_cases ha : a = j + 1
    · subst ha
      rw [if_pos rfl, if_neg (by omega)]
      exact h.1 j b (by omega) h2 (by omega) (by omega)
    · rw [if_neg ha]
      by_cases hb : b = j + 1
      · subst hb
        rw [if_pos rfl]
        have : a < j := by omega
        exact h.1 a j this (by omega) ha (by omega)
      · rw [if_neg hb]
        exact h.1 a b h1 h2 ha hb
  · rw [ix_swapL l j j (by omega) (by omega), ix_swapL l j b (by omega) (by omega), if_pos rfl, if_neg (by omega)]
    by_cases hb : b = j + 1
    · subst hb; rw [if_pos rfl]; omega
    · rw [if_neg hb]
      exact h.2 b (by omega) h2
theorem InnerTo.zero {l : List Int} {i : Nat} (h : InnerTo l i 0) : SortedTo l (i + 1) := fun a b h1 h2 => by
  by_cases ha : a = 0
  · subst ha; exact h.2 b h1 (by omega)
  · exact h.1 a b h1 (by omega) ha (by omega)
theorem InnerTo.stop {l : List Int} {i j : Nat} (h : InnerTo l i (j + 1)) (hle : ix l j ≤ ix l (j + 1)) : SortedTo l (i + 1) := fun a b h1 h2 => by
  by_cases ha : a = j + 1
  · subst ha; exact h.2 b h1 (by omega)
  · by_cases hb : b = j + 1
    · subst hb
      by_cases hj : a = j
      · subst hj; exact hle
      · have := h.1 a j (by omega) (by omega) ha (by omega)
        omega
    · exact h.1 a b h1 (by omega) ha hb
theorem SortedTo.pairwise {l : List Int} (h : SortedTo l l.length) : l.Pairwise (· ≤ ·) := by
  rw [List.pairwise_iff_getElem]
  intro i j hi hj hij
  have := h i j hij hj
  rw [ix_eq, ix_eq] at this
  simpa [List.getD, hi, hj] using this
theorem sorted_done {l m : List Int} {i : Nat} (hp : l.Perm m) (h : SortedTo l i) (hi : l.length ≤ i) : l = sortI m :=
  sortI_eq hp (SortedTo.pairwise fun a b h1 h2 => h a b h1 (by omega))

/-- counts while row j is read as far as z -/
@[irreducible] def cntV (ts : List (List (List Int))) (K x n j z i : Nat) : Value := .int .i64 ((if i < j then cntN ts K x i n else if i = j then cntN ts K x j z else 0 : Nat) : Int)
theorem cntV_zero (ts : List (List (List Int))) (K x n i : Nat) : cntV ts K x n 0 0 i = .int .i64 0 := by
  unfold cntV
  rw [cntN_zero]; simp
theorem cntV_next (ts : List (List (List Int))) (K x n j i : Nat) : cntV ts K x n j n i = cntV ts K x n (j + 1) 0 i := by
  unfold cntV
  rw [cntN_zero]
  congr 2
  by_cases h : i = j
  · subst h; simp
  · by_cases h2 : i < j
    · rw [if_pos h2, if_pos (by omega)]
    · rw [if_neg h2, if_neg h, if_neg (by omega)]; simp
theorem cntV_own (ts : List (List (List Int))) (K x n j z : Nat) : cntV ts K x n j z j = .int .i64 (cntN ts K x j z : Nat) := by
  unfold cntV; simp
theorem cntV_done (ts : List (List (List Int))) (K x n i : Nat) (h : i < n) : cntV ts K x n n 0 i = .int .i64 (cntN ts K x i n : Nat) := by
  unfold cntV; rw [if_pos h]
theorem cntV_hit (ts : List (List (List Int))) (K x n j z i : Nat) (h : ent (tab ts K) j z = (x : Int)) : cntV ts K x n j (z + 1) i = if i = j then .int .i64 ((cntN ts K x j z : Nat) + 1) else cntV ts K x n j z i := by
  unfold cntV
  rw [cntN_succ, if_pos h]
  by_cases hi : i = j
  · subst hi; simp
  · rw [if_neg hi, if_neg hi, if_neg hi]
theorem cntV_miss (ts : List (List (List Int))) (K x n j z i : Nat) (h : ¬ ent (tab ts K) j z = (x : Int)) : cntV ts K x n j (z + 1) i = cntV ts K x n j z i := by
  unfold cntV
  rw [cntN_succ, if_neg h, Nat.add_zero]
end Go.Proofs.Ytjbloenjphpngaa

/-
  Partial maps between lists of tables, element by element: plain.
-/
namespace Go.Proofs.Ytjbloenjphpngaa
set_option linter.unusedVariables false
set_option linter.unusedSimpArgs false

/-- f' goes on with f -/
def Goes (n : Nat) (f f' : List Int) : Prop := f'.length = n ∧ ∀ i, i < n → 0 ≤ ix f i → ix f' i = ix f i
theorem Goes.refl {n : Nat} {f : List Int} (h : f.length = n) : Goes n f f := ⟨h, fun _ _ _ => rfl⟩
theorem Goes.trans {n : Nat} {f g h : List Int} (a : Goes n f g) (b : Goes n g h) : Goes n f h := ⟨b.1, fun i hi h0 => by
  have e := a.2 i hi h0
  rw [b.2 i hi (by omega), e]⟩
/-- x and y are mapped, and so are their values, as the tables say -/
def Good (az bz : List (List (List Int))) (f : List Int) (x y : Nat) : Prop :=
  ∀ k, k < az.length → 0 ≤ ix f (ent (tab az k) x y).toNat ∧ ix f (ent (tab az k) x y).toNat = ent (tab bz k) (ix f x).toNat (ix f y).toNat
theorem Good.goes {n : Nat} {az bz : List (List (List Int))} {f g : List Int} {x y : Nat} (hA : TabsOk n az) (h : Good az bz f x y) (hg : Goes n f g) (hx : x < n) (hy : y < n) (fx : 0 ≤ ix f x) (fy : 0 ≤ ix f y) : Good az bz g x y := fun k hk => by
  obtain ⟨h1, h2⟩ := h k hk
  have hb := hA.bd hk hx hy
  have e := hg.2 _ hb.2 h1
  rw [e, hg.2 x hx fx, hg.2 y hy fy]
  exact ⟨h1, h2⟩
/-- f is a partial map; s its elements in the order of their mapping -/
structure PartOk (n : Nat) (f s : List Int) : Prop where
  len : f.length = n
  rng : ∀ x, x < n → -1 ≤ ix f x ∧ ix f x < (n : Int)
  inj : ∀ x, x < n → ∀ y, y < n → 0 ≤ ix f x → ix f x = ix f y → x = y
  mem : ∀ x : Nat, x < n → ((x : Int) ∈ s ↔ 0 ≤ ix f x)
  bd : ∀ i, i < s.length → 0 ≤ ix s i ∧ (ix s i).toNat < n
  nodup : s.Nodup
/-- all of s are good with all of s -/
def GoodAll (az bz : List (List (List Int))) (n : Nat) (f : List Int) : Prop := ∀ x, x < n → ∀ y, y < n → 0 ≤ ix f x → 0 ≤ ix f y → Good az bz f x y
theorem iso_of_good {n : Nat} {az bz : List (List (List Int))} {f s : List Int} (h : PartOk n f s) (hall : ∀ x, x < n → 0 ≤ ix f x) (hg : GoodAll az bz n f) : IsoOk n az bz f :=
  ⟨h.len, ⟨fun i hi => by
      have := h.rng i (by have := h.len; omega)
      have := hall i (by have := h.len; omega)
      have := h.len
      omega, fun i hi j hj e => by
      have := h.len
      have := h.inj j (by omega) i (by omega) (hall j (by omega)) e
      omega⟩, fun k hk x hx y hy => (hg x hx y hy (hall x hx) (hall y hy) k hk).2⟩
theorem ix_set_same (f : List Int) (x : Nat) (v : Int) (h : x < f.length) : ix (f.set x v) x = v := by
  rw [ix_eq]; simp [List.getD, h]
theorem ix_set_other (f : List Int) (x i : Nat) (v : Int) (h : i ≠ x) : ix (f.set x v) i = ix f i := by
  rw [ix_eq, ix_eq]; simp [List.getD, List.getElem?_set_ne (Ne.symm h)]
/-- x is new -/
theorem extP_set {f p : List Int} {x : Nat} {v : Int} (hx : x < f.length) (hf : ix f x < 0) (hv : 0 ≤ v) : (ExtP f p ∧ ix p x = v) ↔ ExtP (f.set x v) p := by
  constructor
  · rintro ⟨h1, h2⟩ i hi h0
    rw [List.length_set] at hi
    by_cases e : i = x
    · subst e; rw [ix_set_same _ _ _ hi]; exact h2
    · rw [ix_set_other _ _ _ _ e] at h0 ⊢
      exact h1 i hi h0
  · intro h
    refine ⟨fun i hi h0 => ?_, ?_⟩
    · have e : i ≠ x := fun e => by subst e; omega
      have := h i (by rw [List.length_set]; exact hi) (by rw [ix_set_other _ _ _ _ e]; exact h0)
      rw [this, ix_set_other _ _ _ _ e]
    · have e := ix_set_same f x v hx
      rw [h x (by rw [List.length_set]; exact hx) (by rw [e]; exact hv), e]
theorem goes_set {n : Nat} {f : List Int} {x : Nat} {v : Int} (hl : f.length = n) (hf : ix f x < 0) : Goes n f (f.set x v) :=
  ⟨by rw [List.length_set]; exact hl, fun i _ h0 => ix_set_other _ _ _ _ (fun e => by subst e; omega)⟩
theorem mem_snoc_iff {s : List Int} {a b : Int} : a ∈ s ++ [b] ↔ a ∈ s ∨ a = b := by simp
theorem PartOk.set {n : Nat} {f s : List Int} {x v : Nat} (h : PartOk n f s) (hx : x < n) (hv : v < n) (hf : ix f x < 0) (hu : ∀ y, y < n → ix f y ≠ (v : Int)) : PartOk n (f.set x (v : Int)) (s ++ [(x : Int)]) where
  len := by rw [List.length_set]; exact h.len
  rng y hy := by
    by_cases e : y = x
    · subst e; rw [ix_set_same _ _ _ (by rw [h.len]; exact hy)]; omega
    · rw [ix_set_other _ _ _ _ e]; exact h.rng y hy
  inj y hy z hz h0 e := by
    have hxl : x < f.length := by rw [h.len]; exact hx
    by_cases ey : y = x
    · subst ey
      by_cases ez : z = y
      · exact ez.symm
      · rw [ix_set_same _ _ _ hxl, ix_set_other _ _ _ _ ez] at e
        exact absurd e.symm (hu z hz)
    · by_cases ez : z = x
      · subst ez
        rw [ix_set_same _ _ _ hxl, ix_set_other _ _ _ _ ey] at e
        exact absurd e (hu y hy)
      · rw [ix_set_other _ _ _ _ ey] at h0
        rw [ix_set_other _ _ _ _ ey, ix_set_other _ _ _ _ ez] at e
        exact h.inj y hy z hz h0 e
  mem y hy := by
    have hxl : x < f.length := by rw [h.len]; exact hx
    rw [mem_snoc_iff, h.mem y hy]
    by_cases e : y = x
    · subst e; rw [ix_set_same _ _ _ hxl]; constructor
      · intro _; omega
      · intro _; exact .inr rfl
    · rw [ix_set_other _ _ _ _ e]; constructor
      · rintro (h1 | h1)
        · exact h1
        · exact absurd (Int.ofNat.inj h1) e
      · exact .inl
  bd i hi := by
    by_cases e : i < s.length
    · rw [ix_app e]; exact h.bd i e
    · have : i = s.length := by simp at hi; omega
      subst this
      rw [ix_snoc]; omega
  nodup := by
    rw [List.nodup_append]
    refine ⟨h.nodup, by simp, fun a ha b hb e => ?_⟩
    have : b = (x : Int) := by simpa using hb
    subst this; subst e
    have := (h.mem x hx).1 ha
    omega
/-- where v is used, nothing new goes there -/
theorem used_no {n : Nat} {az bz : List (List (List Int))} {f p : List Int} {x y : Nat} {v : Int} (hl : f.length = n) (hp : IsoOk n az bz p) (he : ExtP f p) (hx : x < n) (hy : y < n) (hf : ix f x < 0) (hv : 0 ≤ v) (e : ix f y = v) : ix p x ≠ v := fun h => by
  have h1 := he y (by omega) (by omega)
  have := hp.inj hx hy (by omega)
  subst this
  omega
/-- what follows -/
theorem ext_follows {n : Nat} {az bz : List (List (List Int))} {f p : List Int} {x y k : Nat} (hl : f.length = n) (hp : IsoOk n az bz p) (he : ExtP f p) (hx : x < n) (hy : y < n) (fx : 0 ≤ ix f x) (fy : 0 ≤ ix f y) (hk : k < az.length) : ix p (ent (tab az k) x y).toNat = ent (tab bz k) (ix f x).toNat (ix f y).toNat := by
  rw [hp.2.2 k hk x hx y hy, he x (by omega) fx, he y (by omega) fy]
end Go.Proofs.Ytjbloenjphpngaa
