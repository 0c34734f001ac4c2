/-
  The group that some permutations generate, element by element as it is found; lists of lists in order: plain.
-/
import Derived.Test.YtjhfieegkgndfaaJx0
import Derived.Test.YtjhfieegkgndfaaJx1
import Derived.Test.YtjhfieegkgndfaaJx5
import Derived.Test.YtjhfieegkgndfaaJx9
import Derived.Test.YtjhfieegkgndfaaJx17
import Derived.Test.YtjhfieegkgndfaaJx6
import Derived.Test.YtjhfieegkgndfaaJx8
import Derived.Test.YtjhfieegkgndfaaJx22
import Derived.Test.YtjhfieegkgndfaaJx19
import Derived.Test.YtjhfieegkgndfaaJx7
namespace Go.Proofs.Ytjhfieegkgndfaa
set_option linter.unusedVariables false
set_option linter.unusedSimpArgs false

/-- p, then q -/
@[irreducible] def thenL (p q : List Int) : List Int := mkL p.length (fun i => ix q (ix p i).toNat)
theorem length_thenL (p q : List Int) : (thenL p q).length = p.length := by unfold thenL; exact length_mkL _ _
theorem ix_thenL (p q : List Int) {i : Nat} (h : i < p.length) : ix (thenL p q) i = ix q (ix p i).toNat := by unfold thenL; exact ix_mkL _ _ _ h
theorem thenL_perm {n : Nat} {p q : List Int} (hp : IsoOk n [] [] p) (hq : IsoOk n [] [] q) : IsoOk n [] [] (thenL p q) := by
  have hl := hp.1
  refine isoOk_plain.2 ⟨by rw [length_thenL, hl], ⟨fun i hi => ?_, fun i hi j hj e => ?_⟩⟩
  · rw [length_thenL] at hi ⊢
    rw [ix_thenL _ _ hi]
    have := hp.bd (x := i) (by omega)
    have := hq.bd this.2
    omega
  · rw [length_thenL] at hi
    rw [ix_thenL _ _ hi, ix_thenL _ _ (by omega)] at e
    have b1 := hp.bd (x := i) (by omega)
    have b2 := hp.bd (x := j) (by omega)
    have := hq.inj b2.2 b1.2 e
    have := hp.inj (x := j) (y := i) (by omega) (by omega) (by omega)
    omega

theorem idL_perm (n : Nat) : IsoOk n [] [] (idL n) := by
  refine isoOk_plain.2 ⟨length_idL n, ⟨fun i hi => ?_, fun i hi j hj e => ?_⟩⟩
  · rw [length_idL] at hi ⊢
    rw [ix_idL _ _ hi]; omega
  · rw [length_idL] at hi
    rw [ix_idL _ _ hi, ix_idL _ _ (by omega)] at e
    omega
/-- what is found is taken, unless it is known or there are too many -/
@[irreducible] def addL (out : List (List Int)) (p : List Int) : List (List Int) := if out.length ≤ 12 ∧ p ∉ out then out ++ [p] else out
theorem addL_old {out : List (List Int)} {p : List Int} (h : p ∈ out) : addL out p = out := by unfold addL; rw [if_neg (fun e => e.2 h)]
theorem addL_new {out : List (List Int)} {p : List Int} (h : p ∉ out) (hl : out.length ≤ 12) : addL out p = out ++ [p] := by unfold addL; rw [if_pos ⟨hl, h⟩]
theorem addL_full {out : List (List Int)} {p : List Int} (hl : 12 < out.length) : addL out p = out := by unfold addL; rw [if_neg (fun e => by omega)]
/-- the products of x and the generators from number k on -/
@[irreducible] def rowFrom (gens : List (List Int)) (x : List Int) (k : Nat) (out : List (List Int)) : List (List Int) := (gens.drop k).foldl (fun o p => addL o (thenL x p)) out
theorem rowFrom_end {gens : List (List Int)} {x : List Int} {k : Nat} {out : List (List Int)} (h : gens.length ≤ k) : rowFrom gens x k out = out := by unfold rowFrom; rw [List.drop_of_length_le h]; rfl
theorem rowFrom_at {gens : List (List Int)} {x : List Int} {k : Nat} {out : List (List Int)} (h : k < gens.length) : rowFrom gens x k out = rowFrom gens x (k + 1) (addL out (thenL x (row gens k))) := by
  unfold rowFrom
  rw [List.drop_eq_getElem_cons h, List.foldl_cons]
  have : row gens k = gens[k] := by rw [row_eq]; simp [List.getD, h]
  rw [this]
theorem rowFrom_full {gens : List (List Int)} {x : List Int} {out : List (List Int)} (h : 12 < out.length) : ∀ (d k : Nat), gens.length ≤ k + d → rowFrom gens x k out = out
  | 0, k, hk => rowFrom_end (by omega)
  | d + 1, k, hk => by
    by_cases hg : k < gens.length
    · rw [rowFrom_at hg, addL_full h, rowFrom_full h d (k + 1) (by omega)]
    · exact rowFrom_end (by omega)
/-- one element after the other -/
def genF (gens : List (List Int)) : Nat → List (List Int) → Nat → List (List Int)
  | 0, out, _ => out
  | d + 1, out, i => if i < out.length ∧ out.length ≤ 12 then genF gens d (rowFrom gens (row out i) 0 out) (i + 1) else out
theorem genF_stop {gens : List (List Int)} {d i : Nat} {out : List (List Int)} (h : ¬ (i < out.length ∧ out.length ≤ 12)) : genF gens d out i = out := by
  cases d with
  | zero => rfl
  | succ d => unfold genF; rw [if_neg h]
theorem genF_go {gens : List (List Int)} {d i : Nat} {out : List (List Int)} (h1 : i < out.length) (h2 : out.length ≤ 12) : genF gens (d + 1) out i = genF gens d (rowFrom gens (row out i) 0 out) (i + 1) := by
  rw [show genF gens (d + 1) out i = if i < out.length ∧ out.length ≤ 12 then genF gens d (rowFrom gens (row out i) 0 out) (i + 1) else out from rfl, if_pos ⟨h1, h2⟩]
/-- the elements in the order in which they are found; 13 if there are more than 12 -/
@[irreducible] def genA (gens : List (List Int)) (n : Nat) : List (List Int) := genF gens 13 [idL n] 0
theorem genA_def (gens : List (List Int)) (n : Nat) : genA gens n = genF gens (13 - 0) [idL n] 0 := by unfold genA; rfl
/-- more than 12 are found -/
theorem genF_over {gens : List (List Int)} {d i : Nat} {x : List Int} {out : List (List Int)} {p : List Int} {k : Nat} (hl : out.length = 12) : genF gens d (rowFrom gens x k (out ++ [p])) i = out ++ [p] := by
  rw [rowFrom_full (out := out ++ [p]) (by simp; omega) gens.length k (by omega)]
  exact genF_stop (by simp; omega)
theorem row_app (out : List (List Int)) (p : List Int) {i : Nat} (h : i < out.length) : row (out ++ [p]) i = row out i := by rw [row_eq, row_eq]; simp [List.getD, List.getElem?_append_left h]

/-- as far as they are found: different permutations, 13 at most -/
structure GoodG (n : Nat) (out : List (List Int)) : Prop where
  nodup : out.Nodup
  perm : ∀ p, p ∈ out → IsoOk n [] [] p
  one : 1 ≤ out.length
  few : out.length ≤ 13
theorem GoodG.add {n : Nat} {out : List (List Int)} {p : List Int} (h : GoodG n out) (hp : IsoOk n [] [] p) : GoodG n (addL out p) := by
  unfold addL
  split
  · rename_i hc
    refine ⟨?_, fun q hq => ?_, by simp, by simp; omega⟩
    · rw [List.nodup_append]
      refine ⟨h.nodup, by simp, fun a ha b hb e => ?_⟩
      have : b = p := by simpa using hb
      exact hc.2 (by rw [← this, ← e]; exact ha)
    · rcases List.mem_append.1 hq with hq | hq
      · exact h.perm q hq
      · have : q = p := by simpa using hq
        rw [this]; exact hp
  · exact h
theorem GoodG.row {n : Nat} {out : List (List Int)} (h : GoodG n out) {i : Nat} (hi : i < out.length) : IsoOk n [] [] (row out i) := h.perm _ (by rw [row_eq]; simp [List.getD, hi])
theorem GoodG.rowFrom {n : Nat} {gens : List (List Int)} (hg : ∀ k, k < gens.length → IsoOk n [] [] (Go.Proofs.Ytjhfieegkgndfaa.row gens k)) {x : List Int} (hx : IsoOk n [] [] x) : ∀ (d k : Nat) (out : List (List Int)), gens.length ≤ k + d → GoodG n out → GoodG n (rowFrom gens x k out)
  | 0, k, out, hd, h => by rw [rowFrom_end (by omega)]; exact h
  | d + 1, k, out, hd, h => by
    by_cases hk : k < gens.length
    · rw [rowFrom_at hk]
      exact GoodG.rowFrom hg hx d (k + 1) _ (by omega) (h.add (thenL_perm hx (hg k hk)))
    · rw [rowFrom_end (by omega)]; exact h
theorem GoodG.genF {n : Nat} {gens : List (List Int)} (hg : ∀ k, k < gens.length → IsoOk n [] [] (Go.Proofs.Ytjhfieegkgndfaa.row gens k)) : ∀ (d : Nat) (out : List (List Int)) (i : Nat), GoodG n out → GoodG n (genF gens d out i)
  | 0, out, i, h => h
  | d + 1, out, i, h => by
    by_cases hc : i < out.length ∧ out.length ≤ 12
    · rw [genF_go hc.1 hc.2]
      exact GoodG.genF hg d _ _ (GoodG.rowFrom hg (h.row hc.1) gens.length 0 out (by omega) h)
    · rw [genF_stop hc]; exact h
theorem goodG_unit {n : Nat} (hi : IsoOk n [] [] (idL n)) : GoodG n [idL n] := ⟨by simp, fun p hp => by
  have : p = idL n := by simpa using hp
  rw [this]; exact hi, by simp, by simp⟩
theorem genA_good {n : Nat} {gens : List (List Int)} (hg : ∀ k, k < gens.length → IsoOk n [] [] (row gens k)) (hi : IsoOk n [] [] (idL n)) : GoodG n (genA gens n) := by
  unfold genA
  exact GoodG.genF hg 13 _ 0 (goodG_unit hi)
theorem GoodG.pos {n : Nat} {out : List (List Int)} (h : GoodG n out) (h1 : 1 ≤ n) : ∀ i, i < out.length → 0 < (Go.Proofs.Ytjhfieegkgndfaa.row out i).length := fun i hi => by rw [(h.row hi).1]; omega

/-! ### in order -/
theorem sortedS_unique : ∀ {l m : List (List Int)}, l.Pairwise (· < ·) → m.Pairwise (· < ·) → l.Perm m → l = m
  | [], m, _, _, h => (List.Perm.nil_eq h)
  | x :: r, [], _, _, h => by have := h.length_eq; simp at this
  | x :: r, y :: s, h1, h2, h => by
    rw [List.pairwise_cons] at h1 h2
    have hx : x ∈ y :: s := (h.mem_iff).1 (by simp)
    have hy : y ∈ x :: r := (h.mem_iff).2 (by simp)
    have e : x = y := by
      rcases List.mem_cons.1 hx with e | e
      · exact e
      · rcases List.mem_cons.1 hy with e2 | e2
        · exact e2.symm
        · exact absurd (less_trans (h1.1 y e2) (h2.1 x e)) (less_irrefl x)
    subst e
    rw [sortedS_unique h1.2 h2.2 ((List.perm_cons x).1 h)]
theorem rowG_mem {S : List (List Int)} {i : Nat} (h : i < S.length) : row S i ∈ S := by rw [row_eq]; simp [List.getD, h]
theorem mem_row {S : List (List Int)} {p : List Int} (h : p ∈ S) : ∃ i, i < S.length ∧ row S i = p := by
  obtain ⟨i, hi, e⟩ := List.getElem_of_mem h
  exact ⟨i, hi, by rw [row_eq]; simp [List.getD, hi, e]⟩
theorem sorted_row {S : List (List Int)} (h : S.Pairwise (· < ·)) {i j : Nat} (hij : i < j) (hj : j < S.length) : row S i < row S j := by
  have := (List.pairwise_iff_getElem.1 h) i j (by omega) hj hij
  rw [row_eq, row_eq]; simpa [List.getD, hj, show i < S.length by omega] using this
/-- a list is put at its place -/
theorem put_sorted {S : List (List Int)} {p : List Int} {k : Nat} (h : S.Pairwise (· < ·)) (hk : k ≤ S.length) (h1 : ∀ i, i < k → row S i < p) (h2 : ∀ i, k ≤ i → i < S.length → ¬ row S i < p) (hp : p ∉ S) : (S.take k ++ ([p] ++ S.drop k)).Pairwise (· < ·) := by
  rw [List.pairwise_append]
  refine ⟨h.take, ?_, fun a ha b hb => ?_⟩
  · rw [List.singleton_append, List.pairwise_cons]
    refine ⟨fun b hb => ?_, h.drop⟩
    obtain ⟨i, hi, e⟩ := List.getElem_of_mem hb
    rw [List.length_drop] at hi
    have e2 : row S (k + i) = b := by rw [row_eq]; rw [List.getElem_drop] at e; simp [List.getD, show k + i < S.length by omega, e]
    have hn := h2 (k + i) (by omega) (by omega)
    rw [e2] at hn
    rcases less_tri p b with g | g | g
    · exact g
    · exact absurd (by rw [g, ← e2]; exact rowG_mem (by omega)) hp
    · exact absurd g hn
  · obtain ⟨i, hi, e⟩ := List.getElem_of_mem ha
    rw [List.length_take] at hi
    have e2 : row S i = a := by rw [row_eq]; rw [List.getElem_take] at e; simp [List.getD, show i < S.length by omega, e]
    have hap := h1 i (by omega)
    rw [e2] at hap
    rw [List.singleton_append] at hb
    rcases List.mem_cons.1 hb with rfl | hb
    · exact hap
    · obtain ⟨j, hj, e3⟩ := List.getElem_of_mem hb
      rw [List.length_drop] at hj
      have e4 : row S (k + j) = b := by rw [row_eq]; rw [List.getElem_drop] at e3; simp [List.getD, show k + j < S.length by omega, e3]
      rw [← e2, ← e4]
      exact sorted_row h (by omega) (by omega)
theorem put_perm {S : List (List Int)} {p : List Int} {k : Nat} : (S.take k ++ ([p] ++ S.drop k)).Perm (p :: S) := by
  have h1 : (S.take k ++ ([p] ++ S.drop k)).Perm ([p] ++ (S.take k ++ S.drop k)) := by
    rw [← List.append_assoc, ← List.append_assoc]
    exact (List.perm_append_comm).append_right _
  rw [List.take_append_drop] at h1
  exact h1
/-- found at its place exactly if it is there -/
theorem put_known {S : List (List Int)} {p : List Int} {k : Nat} (h : S.Pairwise (· < ·)) (h1 : ∀ i, i < k → row S i < p) (h2 : ∀ i, k ≤ i → i < S.length → ¬ row S i < p) : (k < S.length ∧ row S k = p) ↔ p ∈ S := by
  constructor
  · rintro ⟨hk, e⟩; rw [← e]; exact rowG_mem hk
  · intro hp
    obtain ⟨j, hj, e⟩ := mem_row hp
    have hkj : k ≤ j := by
      apply Classical.byContradiction
      intro hn
      have := h1 j (by omega)
      rw [e] at this
      exact less_irrefl p this
    have hjk : ¬ k < j := fun hlt => by
      have := sorted_row h hlt hj
      rw [e] at this
      exact h2 k (Nat.le_refl _) (by omega) this
    have : k = j := by omega
    subst this
    exact ⟨hj, e⟩
/-- the elements in order -/
@[irreducible] noncomputable def sortS (R : List (List Int)) : List (List Int) := R.mergeSort (fun a b => !decide (b < a))
theorem sortS_eq {R S : List (List Int)} (hn : R.Nodup) (hp : S.Perm R) (hs : S.Pairwise (· < ·)) : S = sortS R := by
  refine sortedS_unique hs ?_ (hp.trans (by unfold sortS; exact (List.mergeSort_perm R _).symm))
  unfold sortS
  have h1 := List.pairwise_mergeSort (le := fun (a b : List Int) => !decide (b < a)) (fun a b c h1 h2 => by
    simp at *
    intro hca
    rcases less_tri a b with g | g | g
    · exact h2 (less_trans hca g)
    · subst g; exact h2 hca
    · exact h1 g) (fun a b => by
    simp
    rcases less_tri a b with g | g | g
    · exact .inl (fun e => less_irrefl a (less_trans g e))
    · subst g; exact .inl (less_irrefl a)
    · exact .inr (fun e => less_irrefl a (less_trans e g))) R
  have hnd : (R.mergeSort (fun a b => !decide (b < a))).Nodup := (List.mergeSort_perm R _).nodup_iff.2 hn
  have h2 := List.pairwise_and_iff.2 ⟨h1, hnd⟩
  refine h2.imp fun {a b} ⟨h, hne⟩ => ?_
  simp at h
  rcases less_tri a b with g | g | g
  · exact g
  · exact absurd g hne
  · exact absurd g h
theorem sortS_perm (R : List (List Int)) : (sortS R).Perm R := by unfold sortS; exact List.mergeSort_perm R _
theorem length_sortS (R : List (List Int)) : (sortS R).length = R.length := (sortS_perm R).length_eq
/-- the index of a list in lists, or -1 -/
def findL (S : List (List Int)) (p : List Int) : Int := findIx (fun r => eqIB r p) S
theorem findL_eq (S : List (List Int)) (p : List Int) : findIx (fun r => eqIB r p) S = findL S p := rfl
theorem anyB_mem (S : List (List Int)) (p : List Int) : anyB (fun r => eqIB r p) S = decide (p ∈ S) := by
  unfold anyB
  rw [Bool.eq_iff_iff, List.any_eq_true, decide_eq_true_iff]
  constructor
  · rintro ⟨x, h1, h2⟩; rw [← eqIB_iff.1 h2]; exact h1
  · intro h; exact ⟨p, h, eqIB_yes rfl⟩
/-- no permutation of n elements -/
@[irreducible] def sysBad (n : Int) (p : List Int) : Bool := decide ((p.length : Int) ≠ n) || !permB p
theorem sysBad_no {n : Int} {p : List Int} : sysBad n p = false ↔ (p.length : Int) = n ∧ permB p = true := by unfold sysBad; simp
@[irreducible] def sysB (n : Int) (gens : List (List Int)) : Bool := inR n 1 12 && decide (gens.length ≤ 16) && !anyB (sysBad n) gens
theorem sysB_no1 {n : Int} {gens : List (List Int)} (h : inR n 1 12 = false) : sysB n gens = false := by unfold sysB; rw [h]; rfl
theorem sysB_no2 {n : Int} {gens : List (List Int)} (h : ¬ gens.length ≤ 16) : sysB n gens = false := by unfold sysB; simp [h]
theorem sysB_any {n : Int} {gens : List (List Int)} (h : inR n 1 12 = true) (h2 : gens.length ≤ 16) : sysB n gens = !anyB (sysBad n) gens := by unfold sysB; simp [h, h2]
theorem sysB_no3 {n : Int} {gens : List (List Int)} {k : Nat} (hk : k < gens.length) (hb : sysBad n (row gens k) = true) : sysB n gens = false := by
  have : anyB (sysBad n) gens = true := by
    unfold anyB; rw [List.any_eq_true]; exact ⟨_, rowG_mem hk, hb⟩
  unfold sysB; rw [this]; simp
theorem sysB_yes {n : Int} {gens : List (List Int)} (h : inR n 1 12 = true) (h2 : gens.length ≤ 16) (h3 : ∀ k, k < gens.length → sysBad n (row gens k) = false) : sysB n gens = true := by
  rw [sysB_any h h2]
  have : anyB (sysBad n) gens = false := by
    unfold anyB; rw [List.any_eq_false]
    intro x hx
    obtain ⟨k, hk, e⟩ := mem_row hx
    rw [← e, h3 k hk]; simp
  rw [this]; rfl
theorem sysB_ok {n : Int} {gens : List (List Int)} (h : sysB n gens = true) : (1 ≤ n ∧ n ≤ 12) ∧ gens.length ≤ 16 ∧ ∀ k, k < gens.length → IsoOk n.toNat [] [] (row gens k) := by
  unfold sysB at h
  simp only [Bool.and_eq_true, decide_eq_true_eq, Bool.not_eq_true'] at h
  obtain ⟨⟨h1, h2⟩, h3⟩ := h
  refine ⟨inR_iff.1 h1, h2, fun k hk => ?_⟩
  have h4 : sysBad n (row gens k) = false := by
    unfold anyB at h3
    rw [List.any_eq_false] at h3
    have := h3 _ (rowG_mem hk)
    simpa using this
  obtain ⟨h5, h6⟩ := sysBad_no.1 h4
  exact isoOk_plain.2 ⟨by omega, permB_iff.1 h6⟩
/-- the table of the group, if it has at most 12 elements -/
noncomputable def gopS (n : Int) (gens : List (List Int)) : List (List Int) := sortS (genA gens n.toNat)
def gopE (S : List (List Int)) (x y : Nat) : Int := findL S (thenL (row S x) (row S y))
@[irreducible] noncomputable def gopV (n : Int) (gens : List (List Int)) : List (List Int) := if sysB n gens = true ∧ (genA gens n.toNat).length ≤ 12 then mkT (gopS n gens).length (gopE (gopS n gens)) else []
@[irreducible] noncomputable def gopC (n : Int) (gens : List (List Int)) : Int := if sysB n gens = true then (if (genA gens n.toNat).length ≤ 12 then 0 else 3) else 1
theorem gop_no {n : Int} {gens : List (List Int)} (h : sysB n gens = false) : gopV n gens = [] ∧ gopC n gens = 1 := by unfold gopV gopC; simp [h]
theorem gop_big {n : Int} {gens : List (List Int)} (h : sysB n gens = true) (h2 : ¬ (genA gens n.toNat).length ≤ 12) : gopV n gens = [] ∧ gopC n gens = 3 := by unfold gopV gopC; simp [h, h2]
theorem gop_yes {n : Int} {gens : List (List Int)} (h : sysB n gens = true) (h2 : (genA gens n.toNat).length ≤ 12) : gopV n gens = mkT (gopS n gens).length (gopE (gopS n gens)) ∧ gopC n gens = 0 := by unfold gopV gopC; simp [h, h2]
end Go.Proofs.Ytjhfieegkgndfaa

/-
  The least form of a brace: plain.
-/
namespace Go.Proofs.Ytjhfieegkgndfaa
set_option linter.unusedVariables false
set_option linter.unusedSimpArgs false

theorem cmpL_cons (a b : Int) (l m : List Int) : cmpL (a :: l) (b :: m) = if cmpI a b = 0 then cmpL l m else cmpI a b := by unfold cmpL; rfl
theorem cmpL_neg : ∀ (l m : List Int), cmpL l m < 0 ↔ l < m
  | [], [] => by unfold cmpL cmpBy; simp
  | [], b :: m => by unfold cmpL cmpBy; simp
  | a :: l, [] => by unfold cmpL cmpBy; simp
  | a :: l, b :: m => by
    have ih := cmpL_neg l m
    rw [List.cons_lt_cons_iff, ← ih, cmpL_cons]
    by_cases h1 : a < b
    · have : cmpI a b = -1 := by unfold cmpI; rw [if_pos h1]
      simp [this, h1]
    · by_cases h2 : b < a
      · have : cmpI a b = 1 := by unfold cmpI; rw [if_neg h1, if_pos h2]
        simp [this, h1, show ¬ a = b by omega]
      · have e : a = b := by omega
        subst e
        have : cmpI a a = 0 := cmpI_zero.2 rfl
        simp [this]
theorem lessB_cmp {l m : List Int} : lessB l m = decide (cmpL l m < 0) := by
  unfold lessB
  by_cases h : l < m
  · rw [decide_eq_true h, decide_eq_true ((cmpL_neg l m).2 h)]
  · rw [decide_eq_false h, decide_eq_false (fun e => h ((cmpL_neg l m).1 e))]
/-- the image of a table by a permutation -/
def imgE (t : List (List Int)) (p : List Int) (i j : Nat) : Int := ix p (ent t (indexOf p i).toNat (indexOf p j).toNat).toNat
def imgT (t : List (List Int)) (p : List Int) : List (List Int) := mkT t.length (imgE t p)
theorem indexOf_at {n : Nat} {p : List Int} (hp : IsoOk n [] [] p) {x : Nat} (hx : x < n) : indexOf p (ix p x) = (x : Int) := by
  rcases indexOf_spec p (ix p x) with ⟨_, h⟩ | ⟨i, hi, e, e2, _⟩
  · exact absurd rfl (h x (by have := hp.1; omega))
  · rw [e]
    have := hp.inj (x := i) (y := x) (by have := hp.1; omega) hx e2
    omega
theorem imgE_at {t : List (List Int)} {p : List Int} (hp : IsoOk t.length [] [] p) {x y : Nat} (hx : x < t.length) (hy : y < t.length) : imgE t p (ix p x).toNat (ix p y).toNat = ix p (ent t x y).toNat := by
  unfold imgE
  rw [Int.toNat_of_nonneg (hp.bd hx).1, Int.toNat_of_nonneg (hp.bd hy).1, indexOf_at hp hx, indexOf_at hp hy, Int.toNat_natCast, Int.toNat_natCast]
/-- one pair of tables stands ahead of another -/
def lessP (a b : List (List Int) × List (List Int)) : Bool := if cmpT a.1 b.1 = 0 then decide (cmpT a.2 b.2 < 0) else decide (cmpT a.1 b.1 < 0)
def stepP (t u : List (List Int)) (best : List (List Int) × List (List Int)) (p : List Int) : List (List Int) × List (List Int) := if lessP (imgT t p, imgT u p) best then (imgT t p, imgT u p) else best
/-- the least form -/
@[irreducible] noncomputable def leastP (t u : List (List Int)) : List (List Int) × List (List Int) := ((isoL t.length [] []).filter fun p => decide (ix p 0 = 0)).foldl (stepP t u) (t, u)
/-- those that lead 0 to 0 stand first -/
theorem zero_first {L : List (List Int)} (hs : L.Pairwise LexLt) (h0 : ∀ p, p ∈ L → 0 ≤ ix p 0) : ∀ (pre : List (List Int)) (p : List Int) (rest : List (List Int)), L = pre ++ p :: rest → (∀ q, q ∈ pre → ix q 0 = 0) → ix p 0 ≠ 0 → (L.filter fun p => decide (ix p 0 = 0)) = pre := by
  intro pre p rest hL hp hne
  subst hL
  rw [List.filter_append]
  have h1 : (pre.filter fun p => decide (ix p 0 = 0)) = pre := List.filter_eq_self.2 fun q hq => by simpa using hp q hq
  have h2 : ((p :: rest).filter fun p => decide (ix p 0 = 0)) = [] := by
    rw [List.filter_eq_nil_iff]
    intro q hq
    have hp0 := h0 p (by simp)
    rcases List.mem_cons.1 hq with rfl | hq
    · simpa using hne
    · have hlt := (List.pairwise_cons.1 (List.pairwise_append.1 hs).2.1).1 q hq
      obtain ⟨d, k1, k2⟩ := hlt
      have : ix p 0 ≤ ix q 0 := by
        by_cases e : d = 0
        · subst e; omega
        · have := k1 0 (by omega); omega
      simp; omega
  rw [h1, h2, List.append_nil]
end Go.Proofs.Ytjhfieegkgndfaa

/-
  Sorting lists by exchanges: plain.
-/
namespace Go.Proofs.Ytjhfieegkgndfaa
set_option linter.unusedVariables false
set_option linter.unusedSimpArgs false

/-- the first i are in order -/
def SortTo (S : List (List Int)) (i : Nat) : Prop := ∀ a b, a < b → b < i → row S a < row S b
/-- the first i + 1 are in order but for place j, which stands ahead of what is behind it -/
def InsTo (S : List (List Int)) (i j : Nat) : Prop := (∀ a b, a < b → b ≤ i → a ≠ j → b ≠ j → row S a < row S b) ∧ ∀ b, j < b → b ≤ i → row S j < row S b
theorem SortTo.one (S : List (List Int)) : SortTo S 1 := fun a b h1 h2 => by omega
theorem SortTo.inner {S : List (List Int)} {i : Nat} (h : SortTo S i) : InsTo S i i := ⟨fun a b h1 h2 h3 h4 => h a b h1 (by omega), fun b h1 h2 => by omega⟩
/-- places j + 1 and j exchanged -/
@[irreducible] def swapS (S : List (List Int)) (j : Nat) : List (List Int) := (S.set (j + 1) (row S j)).set j (row S (j + 1))
theorem length_swapS (S : List (List Int)) (j : Nat) : (swapS S j).length = S.length := by unfold swapS; simp
theorem row_setS (S : List (List Int)) (i j : Nat) (v : List Int) (hj : j < S.length) : row (S.set i v) j = if i = j then v else row S j := by
  rw [row_eq, row_eq]
  by_cases h : i = j
  · subst h; simp [List.getD, hj]
  · simp [List.getD, h, List.getElem?_set_ne]
theorem row_swapS (S : List (List Int)) (j i : Nat) (hj : j + 1 < S.length) (hi : i < S.length) : row (swapS S j) i = if i = j then row S (j + 1) else if i = j + 1 then row S j else row S i := by
  unfold swapS
  rw [row_setS _ _ _ _ (by simp; omega)]
  by_cases h : j = i
  · subst h; simp
  · rw [if_neg h, if_neg (by omega), row_setS _ _ _ _ hi]
    by_cases h2 : j + 1 = i
    · subst h2; simp
    · rw [if_neg h2, if_neg (by omega)]
theorem swapS_perm (S : List (List Int)) (j : Nat) (hj : j + 1 < S.length) : (swapS S j).Perm S := by
  have e1 : row S j = S[j] := by rw [row_eq]; simp [List.getD, show j < S.length by omega]
  have e2 : row S (j + 1) = S[j + 1] := by rw [row_eq]; simp [List.getD, hj]
  unfold swapS
  rw [e1, e2]
  exact List.set_set_perm hj (by omega)
theorem InsTo.step {S : List (List Int)} {i j : Nat} (h : InsTo S i (j + 1)) (hi : i < S.length) (hj : j + 1 ≤ i) (hlt : row S (j + 1) < row S j) : InsTo (swapS S j) i j := by
  refine ⟨fun a b h1 h2 h3 h4 => ?_, fun b h1 h2 => ?_⟩
  · rw [row_swapS S j a (by omega) (by omega), row_swapS S j b (by omega) (by omega), if_neg h3, if_neg h4]
    by_cases ha : a = j + 1
    · subst ha
      rw [if_pos rfl, if_neg (by omega)]
      exact h.1 j b (by omega) h2 (by omega) (by omega)
    · rw [if_neg ha]
      by_cases hb : b = j + 1
      · subst hb
        rw [if_pos rfl]
        have : a < j := by omega
        exact h.1 a j this (by omega) ha (by omega)
      · rw [if_neg hb]
        exact h.1 a b h1 h2 ha hb
  · rw [row_swapS S j j (by omega) (by omega), row_swapS S j b (by omega) (by omega), if_pos rfl, if_neg (by omega)]
    by_cases hb : b = j + 1
    · subst hb; rw [if_pos rfl]; exact hlt
    · rw [if_neg hb]
      exact h.2 b (by omega) h2
theorem InsTo.zero {S : List (List Int)} {i : Nat} (h : InsTo S i 0) : SortTo S (i + 1) := fun a b h1 h2 => by
  by_cases ha : a = 0
  · subst ha; exact h.2 b h1 (by omega)
  · exact h.1 a b h1 (by omega) ha (by omega)
theorem InsTo.stop {S : List (List Int)} {i j : Nat} (h : InsTo S i (j + 1)) (hle : row S j < row S (j + 1)) : SortTo S (i + 1) := fun a b h1 h2 => by
  by_cases ha : a = j + 1
  · subst ha; exact h.2 b h1 (by omega)
  · by_cases hb : b = j + 1
    · subst hb
      by_cases hj : a = j
      · subst hj; exact hle
      · exact less_trans (h.1 a j (by omega) (by omega) ha (by omega)) hle
    · exact h.1 a b h1 (by omega) ha hb
theorem SortTo.pairwise {S : List (List Int)} (h : SortTo S S.length) : S.Pairwise (· < ·) := by
  rw [List.pairwise_iff_getElem]
  intro i j hi hj hij
  have := h i j hij hj
  rw [row_eq, row_eq] at this
  simpa [List.getD, hi, hj] using this
theorem row_ne {S : List (List Int)} (h : S.Nodup) {i j : Nat} (hi : i < S.length) (hj : j < S.length) (hij : i ≠ j) : row S i ≠ row S j := fun e => by
  rw [row_eq, row_eq] at e
  have e2 : S[i] = S[j] := by simpa [List.getD, hi, hj] using e
  rcases Nat.lt_or_gt_of_ne hij with g | g
  · exact (List.pairwise_iff_getElem.1 h) i j hi hj g e2
  · exact (List.pairwise_iff_getElem.1 h) j i hj hi g e2.symm
end Go.Proofs.Ytjhfieegkgndfaa

/-
  Turning round the end of a list, pair by pair: plain.
-/
namespace Go.Proofs.Ytjhfieegkgndfaa
set_option linter.unusedVariables false
set_option linter.unusedSimpArgs false

/-- r pairs behind place i are exchanged -/
@[irreducible] def turnTo (c : Nat → Int) (i n r x : Nat) : Int := if x ≤ i ∨ n ≤ x then c x else if x < i + 1 + r ∨ n ≤ x + r then c (n + i - x) else c x
theorem turnTo_zero (c : Nat → Int) (i n x : Nat) : turnTo c i n 0 x = c x := by
  unfold turnTo
  by_cases h : x ≤ i ∨ n ≤ x
  · rw [if_pos h]
  · rw [if_neg h, if_neg (by omega)]
theorem turnTo_left (c : Nat → Int) (i n r : Nat) (h : i + 1 + r < n - 1 - r) : turnTo c i n r (i + 1 + r) = c (i + 1 + r) := by
  unfold turnTo; rw [if_neg (by omega), if_neg (by omega)]
theorem turnTo_right (c : Nat → Int) (i n r : Nat) (h : i + 1 + r < n - 1 - r) : turnTo c i n r (n - 1 - r) = c (n - 1 - r) := by
  unfold turnTo; rw [if_neg (by omega), if_neg (by omega)]
theorem turnTo_succ (c : Nat → Int) (i n r x : Nat) (h : i + 1 + r < n - 1 - r) : turnTo c i n (r + 1) x = if x = n - 1 - r then c (i + 1 + r) else if x = i + 1 + r then c (n - 1 - r) else turnTo c i n r x := by
  unfold turnTo
  by_cases h0 : x ≤ i ∨ n ≤ x
  · rw [if_pos h0, if_pos h0, if_neg (by omega), if_neg (by omega)]
  · rw [if_neg h0, if_neg h0]
    by_cases h1 : x = n - 1 - r
    · rw [if_pos h1, if_pos (by omega)]; congr 1; omega
    · rw [if_neg h1]
      by_cases h2 : x = i + 1 + r
      · rw [if_pos h2, if_pos (by omega)]; congr 1; omega
      · rw [if_neg h2]
        by_cases h3 : x < i + 1 + r ∨ n ≤ x + r
        · rw [if_pos h3, if_pos (by omega)]
        · rw [if_neg h3, if_neg (by omega)]
theorem turnTo_done (c : Nat → Int) (i n r x : Nat) (h : ¬ i + 1 + r < n - 1 - r) (hr : i + 1 + r ≤ n) (hx : x < n) : turnTo c i n r x = turnC c i n x := by
  unfold turnTo turnC
  by_cases h0 : x ≤ i
  · rw [if_pos (.inl h0), if_pos h0]
  · rw [if_neg (by omega), if_neg h0]
    by_cases h3 : x < i + 1 + r ∨ n ≤ x + r
    · rw [if_pos h3]
    · rw [if_neg h3]; congr 1; omega
end Go.Proofs.Ytjhfieegkgndfaa

/-
  Sets as natural numbers; the socle: plain.
-/
namespace Go.Proofs.Ytjhfieegkgndfaa
set_option linter.unusedVariables false
set_option linter.unusedSimpArgs false
open Go.RowKit

/-- the set of the x below k with p x -/
def natTo (p : Nat → Bool) : Nat → Nat
  | 0 => 0
  | k + 1 => if p k = true then natTo p k ||| 2 ^ k else natTo p k
@[irreducible] def natSet (p : Nat → Bool) (k : Nat) : Nat := natTo p k
theorem natSet_zero (p) : natSet p 0 = 0 := by unfold natSet; rfl
theorem natSet_yes {p : Nat → Bool} {k : Nat} (h : p k = true) : natSet p (k + 1) = natSet p k ||| 2 ^ k := by unfold natSet; simp only [natTo]; rw [if_pos h]
theorem natSet_no {p : Nat → Bool} {k : Nat} (h : p k = false) : natSet p (k + 1) = natSet p k := by unfold natSet; simp only [natTo]; rw [if_neg (by rw [h]; simp)]
theorem natSet_bit (p : Nat → Bool) : ∀ (k i : Nat), (natSet p k).testBit i = (decide (i < k) && p i)
  | 0, i => by rw [natSet_zero]; simp
  | k + 1, i => by
    have ih := natSet_bit p k i
    cases h : p k with
    | true =>
      rw [natSet_yes h, Nat.testBit_or, ih, Nat.testBit_two_pow]
      by_cases e : k = i
      · subst e; simp [h]
      · have h1 : decide (i < k + 1) = decide (i < k) := by rw [Bool.eq_iff_iff]; simp; omega
        rw [h1]; simp [e]
    | false =>
      rw [natSet_no h, ih]
      by_cases e : k = i
      · subst e; simp [h]
      · have h1 : decide (i < k + 1) = decide (i < k) := by rw [Bool.eq_iff_iff]; simp; omega
        rw [h1]
theorem natSet_lt (p : Nat → Bool) (k : Nat) : natSet p k < 2 ^ k := by
  apply Nat.lt_pow_two_of_testBit
  intro i hi
  rw [natSet_bit]
  have : decide (i < k) = false := by simp; omega
  rw [this]; rfl
theorem natSet_ext {p q : Nat → Bool} {k : Nat} (h : ∀ i, i < k → p i = q i) : natSet p k = natSet q k := by
  apply Nat.eq_of_testBit_eq
  intro i
  rw [natSet_bit, natSet_bit]
  by_cases hi : i < k
  · rw [h i hi]
  · have : decide (i < k) = false := by simp; omega
    rw [this]; rfl
theorem bits_or_nat {a b : Nat} (ha : a < 2 ^ 62) (hb : b < 2 ^ 62) : bits .or .i64 (a : Int) (b : Int) = ((a ||| b : Nat) : Int) :=
  (bits_nat .i64 62 (by decide) (fun n h0 h1 => by rw [IntKind.wrap_i64]; omega) a b ha hb).2
theorem bits_and_nat {a b : Nat} (ha : a < 2 ^ 62) (hb : b < 2 ^ 62) : bits .and .i64 (a : Int) (b : Int) = ((a &&& b : Nat) : Int) :=
  (bits_nat .i64 62 (by decide) (fun n h0 h1 => by rw [IntKind.wrap_i64]; omega) a b ha hb).1
theorem wrap_pow {x : Nat} (h : x < 62) : wrap64 (2 ^ x) = ((2 ^ x : Nat) : Int) := by
  have h1 : 2 ^ x < 2 ^ 62 := Nat.pow_lt_pow_right (by decide) h
  have hc : ((2 : Int) ^ x) = ((2 ^ x : Nat) : Int) := by simp
  rw [hc]
  clear hc
  generalize 2 ^ x = P at h1
  exact IntWalk.wrap64_in _ (by omega)
theorem or_pow {a x : Nat} (ha : a < 2 ^ 62) (h : x < 62) : bits .or .i64 (a : Int) (wrap64 (2 ^ x)) = ((a ||| 2 ^ x : Nat) : Int) := by
  rw [wrap_pow h, bits_or_nat ha (Nat.pow_lt_pow_right (by decide) h)]
theorem setOf_nat (p : Nat → Bool) : ∀ k, k ≤ 62 → setOf p k = ((natSet p k : Nat) : Int)
  | 0, _ => by rw [setOf_zero, natSet_zero]; rfl
  | k + 1, h => by
    have ih := setOf_nat p k (by omega)
    have hl : natSet p k < 2 ^ 62 := Nat.lt_of_lt_of_le (natSet_lt p k) (Nat.pow_le_pow_right (by decide) (by omega))
    cases hp : p k with
    | true => rw [setOf_yes hp, natSet_yes hp, ih, or_pow hl (by omega)]
    | false => rw [setOf_no hp, natSet_no hp, ih]
theorem natSet_and (p q : Nat → Bool) (k : Nat) : natSet p k &&& natSet q k = natSet (fun x => p x && q x) k := by
  apply Nat.eq_of_testBit_eq
  intro i
  rw [Nat.testBit_and, natSet_bit, natSet_bit, natSet_bit]
  cases decide (i < k) <;> cases p i <;> cases q i <;> rfl
theorem natSet_62 (p : Nat → Bool) {k : Nat} (h : k ≤ 62) : natSet p k < 2 ^ 62 := Nat.lt_of_lt_of_le (natSet_lt p k) (Nat.pow_le_pow_right (by decide) h)

/-! ### the socle -/
def SocTo (t u : List (List Int)) (x k : Nat) : Prop := ∀ y, y < k → ent u x y = ent t x y ∧ ent t x y = ent t y x
instance (t u x k) : Decidable (SocTo t u x k) := by unfold SocTo; infer_instance
@[irreducible] def socB (t u : List (List Int)) (x k : Nat) : Bool := decide (SocTo t u x k)
theorem socB_iff {t u x k} : socB t u x k = true ↔ SocTo t u x k := by unfold socB; simp
theorem socB_zero (t u x) : socB t u x 0 = true := socB_iff.2 (fun y hy => by omega)
theorem socB_succ (t u : List (List Int)) (x k : Nat) : socB t u x (k + 1) = ((socB t u x k && (ent u x k == ent t x k)) && (ent t x k == ent t k x)) := by
  rw [Bool.eq_iff_iff, Bool.and_eq_true, Bool.and_eq_true, socB_iff, socB_iff, beq_iff_eq, beq_iff_eq]
  constructor
  · intro h; exact ⟨⟨fun y hy => h y (by omega), (h k (by omega)).1⟩, (h k (by omega)).2⟩
  · rintro ⟨⟨h1, h2⟩, h3⟩ y hy
    by_cases e : y = k
    · subst e; exact ⟨h2, h3⟩
    · exact h1 y (by omega)
theorem row_eq_ent {t u : List (List Int)} (h : TableOk t) (h2 : TableOk u) (hl : t.length = u.length) {x : Nat} (hx : x < t.length) : row t x = row u x ↔ ∀ y, y < t.length → ent u x y = ent t x y := by
  constructor
  · intro e y hy
    rw [← ent_def, ← ent_def, e]
  · intro hc
    refine ix_ext (by rw [h.len hx, h2.len (by omega), hl]) fun i hi => ?_
    rw [h.len hx] at hi
    rw [ent_def, ent_def]
    exact (hc i hi).symm
theorem socB_row {t u : List (List Int)} (h : TableOk t) (h2 : TableOk u) (hl : t.length = u.length) {x : Nat} (hx : x < t.length) : (eqIB (row t x) (row u x) && eqIB (row t x) (row (turnT t) x)) = socB t u x t.length := by
  rw [Bool.eq_iff_iff, Bool.and_eq_true, eqIB_iff, eqIB_iff, socB_iff, row_eq_ent h h2 hl hx, row_eq_turn h hx]
  constructor
  · rintro ⟨a, b⟩ y hy; exact ⟨a y hy, b y hy⟩
  · intro a; exact ⟨fun y hy => (a y hy).1, fun y hy => (a y hy).2⟩
@[irreducible] def socI (t u : List (List Int)) : Int := setOf (fun x => socB t u x t.length) t.length
theorem socI_def (t u : List (List Int)) : socI t u = setOf (fun x => socB t u x t.length) t.length := by unfold socI; rfl
/-- the socle as a number -/
@[irreducible] def socN (t u : List (List Int)) : Nat := natSet (fun x => socB t u x t.length) t.length
theorem socN_def (t u : List (List Int)) : socN t u = natSet (fun x => socB t u x t.length) t.length := by unfold socN; rfl
theorem socI_nat {t u : List (List Int)} (h : t.length ≤ 12) : socI t u = ((socN t u : Nat) : Int) := by rw [socI_def, socN_def, setOf_nat _ _ (by omega)]
/-- the annihilator -/
@[irreducible] def annN (t u : List (List Int)) : Nat := natSet (fun x => socB t u x t.length && comB u x t.length) t.length
theorem annN_def (t u : List (List Int)) : annN t u = natSet (fun x => socB t u x t.length && comB u x t.length) t.length := by unfold annN; rfl
theorem ann_spec {t u : List (List Int)} (h : t.length ≤ 12) (hl : t.length = u.length) : bits .and .i64 (socI t u) (centerI u) = ((annN t u : Nat) : Int) := by
  rw [socI_def, centerI_def, ← hl, setOf_nat _ _ (by omega), setOf_nat _ _ (by omega), bits_and_nat (natSet_62 _ (by omega)) (natSet_62 _ (by omega)), natSet_and, annN_def]
/-- the program's way: S holds what of the first i elements of the list is central -/
def AnnTo (t u : List (List Int)) (i S : Nat) : Prop := S < 2 ^ t.length ∧ ∀ x : Nat, S.testBit x = true ↔ (∃ j, j < i ∧ ix (elemsL (socN t u)) j = (x : Int)) ∧ comB u x t.length = true
theorem AnnTo.zero (t u) : AnnTo t u 0 0 := ⟨Nat.two_pow_pos _, fun x => by simp⟩
theorem AnnTo.no {t u i S} (h : AnnTo t u i S) {x : Nat} (hx : ix (elemsL (socN t u)) i = (x : Int)) (hc : comB u x t.length = false) : AnnTo t u (i + 1) S := ⟨h.1, fun y => by
  rw [h.2]
  constructor
  · rintro ⟨⟨j, hj, e⟩, hy⟩; exact ⟨⟨j, by omega, e⟩, hy⟩
  · rintro ⟨⟨j, hj, e⟩, hy⟩
    refine ⟨⟨j, ?_, e⟩, hy⟩
    apply Classical.byContradiction
    intro hji
    have : j = i := by omega
    subst this
    rw [hx] at e
    have : x = y := by omega
    subst this
    rw [hc] at hy; cases hy⟩
theorem AnnTo.yes {t u i S} (h : AnnTo t u i S) {x : Nat} (hl : x < t.length) (hx : ix (elemsL (socN t u)) i = (x : Int)) (hc : comB u x t.length = true) : AnnTo t u (i + 1) (S ||| 2 ^ x) := by
  refine ⟨Nat.or_lt_two_pow h.1 (Nat.pow_lt_pow_right (by decide) hl), fun y => ?_⟩
  rw [Nat.testBit_or, Nat.testBit_two_pow, Bool.or_eq_true, h.2, decide_eq_true_iff]
  constructor
  · rintro (⟨⟨j, hj, e⟩, hy⟩ | rfl)
    · exact ⟨⟨j, by omega, e⟩, hy⟩
    · exact ⟨⟨i, by omega, hx⟩, hc⟩
  · rintro ⟨⟨j, hj, e⟩, hy⟩
    by_cases hji : j = i
    · subst hji
      rw [hx] at e
      right; omega
    · left; exact ⟨⟨j, by omega, e⟩, hy⟩
theorem AnnTo.done {t u S} (hn : t.length ≤ 12) (h : AnnTo t u (elemsL (socN t u)).length S) : S = annN t u := by
  have hsl : socN t u < 2 ^ t.length := by rw [socN_def]; exact natSet_lt _ _
  have hs62 := lt62 hn hsl
  apply Nat.eq_of_testBit_eq
  intro x
  rw [Bool.eq_iff_iff, h.2, annN_def, natSet_bit, Bool.and_eq_true, Bool.and_eq_true, decide_eq_true_iff]
  constructor
  · rintro ⟨⟨j, hj, e⟩, hy⟩
    obtain ⟨z, hz, bz, ez⟩ := elemsL_get hsl (by omega) hj
    rw [e] at ez
    have : x = z := by omega
    subst this
    rw [bitB_test hs62, socN_def, natSet_bit, Bool.and_eq_true] at bz
    exact ⟨hz, bz.2, hy⟩
  · rintro ⟨hx, hs, hy⟩
    have hb : bitB (socN t u) x = true := by rw [bitB_test hs62, socN_def, natSet_bit, hs]; simp [hx]
    obtain ⟨j, hj, e⟩ := elemsL_has hsl (by omega) hb
    exact ⟨⟨j, hj, e⟩, hy⟩
end Go.Proofs.Ytjhfieegkgndfaa

/-
  Sorting by exchanges; counting: plain.
-/
namespace Go.Proofs.Ytjhfieegkgndfaa
set_option linter.unusedVariables false
set_option linter.unusedSimpArgs false

/-- the first i are in order -/
def SortedTo (l : List Int) (i : Nat) : Prop := ∀ a b, a < b → b < i → ix l a ≤ ix l b
/-- the first i + 1 are in order but for place j, which is less than what stands behind it -/
def InnerTo (l : List Int) (i j : Nat) : Prop := (∀ a b, a < b → b ≤ i → a ≠ j → b ≠ j → ix l a ≤ ix l b) ∧ ∀ b, j < b → b ≤ i → ix l j ≤ ix l b
theorem SortedTo.one (l : List Int) : SortedTo l 1 := fun a b h1 h2 => by omega
theorem SortedTo.inner {l : List Int} {i : Nat} (h : SortedTo l i) : InnerTo l i i := ⟨fun a b h1 h2 h3 h4 => h a b h1 (by omega), fun b h1 h2 => by omega⟩
/-- places j + 1 and j exchanged -/
@[irreducible] def swapL (l : List Int) (j : Nat) : List Int := (l.set (j + 1) (ix l j)).set j (ix l (j + 1))
theorem length_swapL (l : List Int) (j : Nat) : (swapL l j).length = l.length := by unfold swapL; simp
theorem ix_set (l : List Int) (i j : Nat) (v : Int) (hj : j < l.length) : ix (l.set i v) j = if i = j then v else ix l j := by
  rw [ix_eq, ix_eq]
  by_cases h : i = j
  · subst h; simp [List.getD, hj]
  · simp [List.getD, h, List.getElem?_set_ne]
theorem ix_swapL (l : List Int) (j i : Nat) (hj : j + 1 < l.length) (hi : i < l.length) : ix (swapL l j) i = if i = j then ix l (j + 1) else if i = j + 1 then ix l j else ix l i := by
  unfold swapL
  rw [ix_set _ _ _ _ (by simp; omega)]
  by_cases h : j = i
  · subst h; simp
  · rw [if_neg h, if_neg (by omega), ix_set _ _ _ _ hi]
    by_cases h2 : j + 1 = i
    · subst h2; simp
    · rw [if_neg h2, if_neg (by omega)]
theorem swapL_perm (l : List Int) (j : Nat) (hj : j + 1 < l.length) : (swapL l j).Perm l := by
  have e1 : ix l j = l[j] := by rw [ix_eq]; simp [List.getD, show j < l.length by omega]
  have e2 : ix l (j + 1) = l[j + 1] := by rw [ix_eq]; simp [List.getD, hj]
  unfold swapL
  rw [e1, e2]
  exact List.set_set_perm hj (by omega)
theorem InnerTo.step {l : List Int} {i j : Nat} (h : InnerTo l i (j + 1)) (hi : i < l.length) (hj : j + 1 ≤ i) (hlt : ix l (j + 1) < ix l j) : InnerTo (swapL l j) i j := by
  refine ⟨fun a b h1 h2 h3 h4 => ?_, fun b h1 h2 => ?_⟩
  · rw [ix_swapL l j a (by omega) (by omega), ix_swapL l j b (by omega) (by omega), if_neg h3, if_neg h4]
    by_cases ha : a = j + 1
    · subst ha
      rw [if_pos rfl, if_neg (by omega)]
      exact h.1 j b (by omega) h2 (by omega) (by omega)
    · rw [if_neg ha]
      by_cases hb : b = j + 1
      · subst hb
        rw [if_pos rfl]
        have : a < j := by omega
        exact h.1 a j this (by omega) ha (by omega)
      · rw [if_neg hb]
        exact h.1 a b h1 h2 ha hb
  · rw [ix_swapL l j j (by omega) (by omega), ix_swapL l j b (by omega) (by omega), if_pos rfl, if_neg (by omega)]
    by_cases hb : b = j + 1
    · subst hb; rw [if_pos rfl]; omega
    · rw [if_neg hb]
      exact h.2 b (by omega) h2
theorem InnerTo.zero {l : List Int} {i : Nat} (h : InnerTo l i 0) : SortedTo l (i + 1) := fun a b h1 h2 => by
  by_cases ha : a = 0
  · subst ha; exact h.2 b h1 (by omega)
  · exact h.1 a b h1 (by omega) ha (by omega)
theorem InnerTo.stop {l : List Int} {i j : Nat} (h : InnerTo l i (j + 1)) (hle : ix l j ≤ ix l (j + 1)) : SortedTo l (i + 1) := fun a b h1 h2 => by
  by_cases ha : a = j + 1
  · subst ha; exact h.2 b h1 (by omega)
  · by_cases hb : b = j + 1
    · subst hb
      by_cases hj : a = j
      · subst hj; exact hle
      · have := h.1 a j (by omega) (by omega) ha (by omega)
        omega
    · exact h.1 a b h1 (by omega) ha hb
theorem SortedTo.pairwise {l : List Int} (h : SortedTo l l.length) : l.Pairwise (· ≤ ·) := by
  rw [List.pairwise_iff_getElem]
  intro i j hi hj hij
  have := h i j hij hj
  rw [ix_eq, ix_eq] at this
  simpa [List.getD, hi, hj] using this
theorem sorted_done {l m : List Int} {i : Nat} (hp : l.Perm m) (h : SortedTo l i) (hi : l.length ≤ i) : l = sortI m :=
  sortI_eq hp (SortedTo.pairwise fun a b h1 h2 => h a b h1 (by omega))

/-- counts while row j is read as far as z -/
@[irreducible] def cntV (ts : List (List (List Int))) (K x n j z i : Nat) : Value := .int .i64 ((if i < j then cntN ts K x i n else if i = j then cntN ts K x j z else 0 : Nat) : Int)
theorem cntV_zero (ts : List (List (List Int))) (K x n i : Nat) : cntV ts K x n 0 0 i = .int .i64 0 := by
  unfold cntV
  rw [cntN_zero]; simp
theorem cntV_next (ts : List (List (List Int))) (K x n j i : Nat) : cntV ts K x n j n i = cntV ts K x n (j + 1) 0 i := by
  unfold cntV
  rw [cntN_zero]
  congr 2
  by_cases h : i = j
  · subst h; simp
  · by_cases h2 : i < j
    · rw [if_pos h2, if_pos (by omega)]
    · rw [if_neg h2, if_neg h, if_neg (by omega)]; simp
theorem cntV_own (ts : List (List (List Int))) (K x n j z : Nat) : cntV ts K x n j z j = .int .i64 (cntN ts K x j z : Nat) := by
  unfold cntV; simp
theorem cntV_done (ts : List (List (List Int))) (K x n i : Nat) (h : i < n) : cntV ts K x n n 0 i = .int .i64 (cntN ts K x i n : Nat) := by
  unfold cntV; rw [if_pos h]
theorem cntV_hit (ts : List (List (List Int))) (K x n j z i : Nat) (h : ent (tab ts K) j z = (x : Int)) : cntV ts K x n j (z + 1) i = if i = j then .int .i64 ((cntN ts K x j z : Nat) + 1) else cntV ts K x n j z i := by
  unfold cntV
  rw [cntN_succ, if_pos h]
  by_cases hi : i = j
  · subst hi; simp
  · rw [if_neg hi, if_neg hi, if_neg hi]
theorem cntV_miss (ts : List (List (List Int))) (K x n j z i : Nat) (h : ¬ ent (tab ts K) j z = (x : Int)) : cntV ts K x n j (z + 1) i = cntV ts K x n j z i := by
  unfold cntV
  rw [cntN_succ, if_neg h, Nat.add_zero]
end Go.Proofs.Ytjhfieegkgndfaa
