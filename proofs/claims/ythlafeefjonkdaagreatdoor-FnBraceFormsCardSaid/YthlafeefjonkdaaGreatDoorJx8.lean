/-
  Contracts of IsNormalIn: reference and program.
-/
import Derived.Deep.RegionHeld3
import Derived.Deep.DrawnRows
import Derived.Test.YthlafeefjonkdaaGreatDoorJx7
import Derived.Test.YthlafeefjonkdaaGreatDoorJx5
namespace Go.Proofs.YthlafeefjonkdaaGreatDoor
set_option linter.unusedVariables false
set_option linter.unusedSimpArgs false
open Go.RowKit
attribute [local go_sem ↓] Go.wp_at_zero Go.wp_at_succ

end Go.Proofs.YthlafeefjonkdaaGreatDoor


namespace Go.Proofs.YthlafeefjonkdaaGreatDoor
set_option linter.unusedVariables false
set_option linter.unusedSimpArgs false
open Go.RowKit
attribute [local go_sem ↓] Go.wp_at_zero Go.wp_at_succ

@[irreducible] def idL (n : Nat) : List Int := mkL n (fun i => (i : Int))
theorem length_idL (n : Nat) : (idL n).length = n := by unfold idL; exact length_mkL _ _
theorem ix_idL (n i : Nat) (h : i < n) : ix (idL n) i = (i : Int) := by unfold idL; exact ix_mkL _ _ _ h

theorem slicesIndex_r (l : List Int) (v : Value) (n : Int) (w : World) (hv : IntsR w v l) (hlen : l.length ≤ 1048576) :
    Calls Tryz.prog 73 #[v, .int .i64 n] w fun e w' => e = .returned (.int .i64 (indexOf l n)) ∧ w = w' := by
  obtain ⟨a, c, rfl, hr⟩ := hv
  have HR := Lib.hid hr
  clear hr
  go_enter Tryz.func73, Tryz.ntmps73
  go_wp2
  go_loop [8] (fun i => ∃ k : Nat, k ≤ l.length ∧ i = .int .i64 k ∧ indexOf l n = indexFrom n (l.drop k) k) (fun i => l.length - (intOf i).toNat)
  case atStart => exact ⟨0, Nat.zero_le _, rfl, by unfold indexOf; rfl⟩
  case round =>
    obtain ⟨k, hk, rfl, hr⟩ := hrel
    have Hr := Lib.hid hr
    clear hr
    by_cases hlt : k < l.length
    · obtain ⟨b, o, rfl, hc⟩ := HR.out (ne_nil_of_lt hlt)
      have hcell := hc k hlt
      clear hc
      by_cases he : (n == ix l k) = true
      · go_wp2
        go_ret
        exact ⟨ret_int (by rw [Hr.out, indexFrom_hit l n k hlt (eq_of_beq he).symm]), rfl⟩
      · have he' : (n == ix l k) = false := by simpa using he
        have hne : ¬ ix l k = n := fun h => he (by rw [h]; exact beq_self_eq_true n)
        have HN := Lib.hid hne
        clear he hne
        go_wp2
        go_round
        case rel => exact ⟨k + 1, by omega, by go_num, by rw [Hr.out, indexFrom_miss l n k hlt HN.out]⟩
        case measure => simp [intOf]; omega
    · go_wp2
      go_ret
      exact ⟨ret_int (by rw [Hr.out, indexFrom_end l n k (by omega)]), rfl⟩

end Go.Proofs.YthlafeefjonkdaaGreatDoor


namespace Go.Proofs.YthlafeefjonkdaaGreatDoor
set_option linter.unusedVariables false
set_option linter.unusedSimpArgs false

@[irreducible] def thenL (p q : List Int) : List Int := mkL p.length (fun i => ix q (ix p i).toNat)
theorem length_thenL (p q : List Int) : (thenL p q).length = p.length := by unfold thenL; exact length_mkL _ _
theorem ix_thenL (p q : List Int) {i : Nat} (h : i < p.length) : ix (thenL p q) i = ix q (ix p i).toNat := by unfold thenL; exact ix_mkL _ _ _ h
theorem thenL_perm {n : Nat} {p q : List Int} (hp : IsoOk n [] [] p) (hq : IsoOk n [] [] q) : IsoOk n [] [] (thenL p q) := by
  have hl := hp.1
  refine isoOk_plain.2 ⟨by rw [length_thenL, hl], ⟨fun i hi => ?_, fun i hi j hj e => ?_⟩⟩
  · rw [length_thenL] at hi ⊢
    rw [ix_thenL _ _ hi]
    have := hp.bd (x := i) (by omega)
    have := hq.bd this.2
    omega
  · rw [length_thenL] at hi
    rw [ix_thenL _ _ hi, ix_thenL _ _ (by omega)] at e
    have b1 := hp.bd (x := i) (by omega)
    have b2 := hp.bd (x := j) (by omega)
    have := hq.inj b2.2 b1.2 e
    have := hp.inj (x := j) (y := i) (by omega) (by omega) (by omega)
    omega

theorem idL_perm (n : Nat) : IsoOk n [] [] (idL n) := by
  refine isoOk_plain.2 ⟨length_idL n, ⟨fun i hi => ?_, fun i hi j hj e => ?_⟩⟩
  · rw [length_idL] at hi ⊢
    rw [ix_idL _ _ hi]; omega
  · rw [length_idL] at hi
    rw [ix_idL _ _ hi, ix_idL _ _ (by omega)] at e
    omega
@[irreducible] def addL (out : List (List Int)) (p : List Int) : List (List Int) := if out.length ≤ 12 ∧ p ∉ out then out ++ [p] else out
theorem addL_old {out : List (List Int)} {p : List Int} (h : p ∈ out) : addL out p = out := by unfold addL; rw [if_neg (fun e => e.2 h)]
theorem addL_new {out : List (List Int)} {p : List Int} (h : p ∉ out) (hl : out.length ≤ 12) : addL out p = out ++ [p] := by unfold addL; rw [if_pos ⟨hl, h⟩]
theorem addL_full {out : List (List Int)} {p : List Int} (hl : 12 < out.length) : addL out p = out := by unfold addL; rw [if_neg (fun e => by omega)]
@[irreducible] def rowFrom (gens : List (List Int)) (x : List Int) (k : Nat) (out : List (List Int)) : List (List Int) := (gens.drop k).foldl (fun o p => addL o (thenL x p)) out
theorem rowFrom_end {gens : List (List Int)} {x : List Int} {k : Nat} {out : List (List Int)} (h : gens.length ≤ k) : rowFrom gens x k out = out := by unfold rowFrom; rw [List.drop_of_length_le h]; rfl
theorem rowFrom_at {gens : List (List Int)} {x : List Int} {k : Nat} {out : List (List Int)} (h : k < gens.length) : rowFrom gens x k out = rowFrom gens x (k + 1) (addL out (thenL x (row gens k))) := by
  unfold rowFrom
  rw [List.drop_eq_getElem_cons h, List.foldl_cons]
  have : row gens k = gens[k] := by rw [row_eq]; simp [List.getD, h]
  rw [this]
theorem rowFrom_full {gens : List (List Int)} {x : List Int} {out : List (List Int)} (h : 12 < out.length) : ∀ (d k : Nat), gens.length ≤ k + d → rowFrom gens x k out = out
  | 0, k, hk => rowFrom_end (by omega)
  | d + 1, k, hk => by
    by_cases hg : k < gens.length
    · rw [rowFrom_at hg, addL_full h, rowFrom_full h d (k + 1) (by omega)]
    · exact rowFrom_end (by omega)
def genF (gens : List (List Int)) : Nat → List (List Int) → Nat → List (List Int)
  | 0, out, _ => out
  | d + 1, out, i => if i < out.length ∧ out.length ≤ 12 then genF gens d (rowFrom gens (row out i) 0 out) (i + 1) else out
theorem genF_stop {gens : List (List Int)} {d i : Nat} {out : List (List Int)} (h : ¬ (i < out.length ∧ out.length ≤ 12)) : genF gens d out i = out := by
  cases d with
  | zero => rfl
  | succ d => unfold genF; rw [if_neg h]
theorem genF_go {gens : List (List Int)} {d i : Nat} {out : List (List Int)} (h1 : i < out.length) (h2 : out.length ≤ 12) : genF gens (d + 1) out i = genF gens d (rowFrom gens (row out i) 0 out) (i + 1) := by
  rw [show genF gens (d + 1) out i = if i < out.length ∧ out.length ≤ 12 then genF gens d (rowFrom gens (row out i) 0 out) (i + 1) else out from rfl, if_pos ⟨h1, h2⟩]
@[irreducible] def genA (gens : List (List Int)) (n : Nat) : List (List Int) := genF gens 13 [idL n] 0
theorem genA_def (gens : List (List Int)) (n : Nat) : genA gens n = genF gens (13 - 0) [idL n] 0 := by unfold genA; rfl
theorem row_app (out : List (List Int)) (p : List Int) {i : Nat} (h : i < out.length) : row (out ++ [p]) i = row out i := by rw [row_eq, row_eq]; simp [List.getD, List.getElem?_append_left h]

structure GoodG (n : Nat) (out : List (List Int)) : Prop where
  nodup : out.Nodup
  perm : ∀ p, p ∈ out → IsoOk n [] [] p
  one : 1 ≤ out.length
  few : out.length ≤ 13
theorem GoodG.add {n : Nat} {out : List (List Int)} {p : List Int} (h : GoodG n out) (hp : IsoOk n [] [] p) : GoodG n (addL out p) := by
  unfold addL
  split
  · rename_i hc
    refine ⟨?_, fun q hq => ?_, by simp, by simp; omega⟩
    · rw [List.nodup_append]
      refine ⟨h.nodup, by simp, fun a ha b hb e => ?_⟩
      have : b = p := by simpa using hb
      exact hc.2 (by rw [← this, ← e]; exact ha)
    · rcases List.mem_append.1 hq with hq | hq
      · exact h.perm q hq
      · have : q = p := by simpa using hq
        rw [this]; exact hp
  · exact h
theorem GoodG.row {n : Nat} {out : List (List Int)} (h : GoodG n out) {i : Nat} (hi : i < out.length) : IsoOk n [] [] (row out i) := h.perm _ (by rw [row_eq]; simp [List.getD, hi])
theorem GoodG.rowFrom {n : Nat} {gens : List (List Int)} (hg : ∀ k, k < gens.length → IsoOk n [] [] (Go.Proofs.YthlafeefjonkdaaGreatDoor.row gens k)) {x : List Int} (hx : IsoOk n [] [] x) : ∀ (d k : Nat) (out : List (List Int)), gens.length ≤ k + d → GoodG n out → GoodG n (rowFrom gens x k out)
  | 0, k, out, hd, h => by rw [rowFrom_end (by omega)]; exact h
  | d + 1, k, out, hd, h => by
    by_cases hk : k < gens.length
    · rw [rowFrom_at hk]
      exact GoodG.rowFrom hg hx d (k + 1) _ (by omega) (h.add (thenL_perm hx (hg k hk)))
    · rw [rowFrom_end (by omega)]; exact h
theorem GoodG.genF {n : Nat} {gens : List (List Int)} (hg : ∀ k, k < gens.length → IsoOk n [] [] (Go.Proofs.YthlafeefjonkdaaGreatDoor.row gens k)) : ∀ (d : Nat) (out : List (List Int)) (i : Nat), GoodG n out → GoodG n (genF gens d out i)
  | 0, out, i, h => h
  | d + 1, out, i, h => by
    by_cases hc : i < out.length ∧ out.length ≤ 12
    · rw [genF_go hc.1 hc.2]
      exact GoodG.genF hg d _ _ (GoodG.rowFrom hg (h.row hc.1) gens.length 0 out (by omega) h)
    · rw [genF_stop hc]; exact h
theorem goodG_unit {n : Nat} (hi : IsoOk n [] [] (idL n)) : GoodG n [idL n] := ⟨by simp, fun p hp => by
  have : p = idL n := by simpa using hp
  rw [this]; exact hi, by simp, by simp⟩
theorem genA_good {n : Nat} {gens : List (List Int)} (hg : ∀ k, k < gens.length → IsoOk n [] [] (row gens k)) (hi : IsoOk n [] [] (idL n)) : GoodG n (genA gens n) := by
  unfold genA
  exact GoodG.genF hg 13 _ 0 (goodG_unit hi)
/-! ### in order -/
theorem sortedS_unique : ∀ {l m : List (List Int)}, l.Pairwise (· < ·) → m.Pairwise (· < ·) → l.Perm m → l = m
  | [], m, _, _, h => (List.Perm.nil_eq h)
  | x :: r, [], _, _, h => by have := h.length_eq; simp at this
  | x :: r, y :: s, h1, h2, h => by
    rw [List.pairwise_cons] at h1 h2
    have hx : x ∈ y :: s := (h.mem_iff).1 (by simp)
    have hy : y ∈ x :: r := (h.mem_iff).2 (by simp)
    have e : x = y := by
      rcases List.mem_cons.1 hx with e | e
      · exact e
      · rcases List.mem_cons.1 hy with e2 | e2
        · exact e2.symm
        · exact absurd (less_trans (h1.1 y e2) (h2.1 x e)) (less_irrefl x)
    subst e
    rw [sortedS_unique h1.2 h2.2 ((List.perm_cons x).1 h)]
theorem rowG_mem {S : List (List Int)} {i : Nat} (h : i < S.length) : row S i ∈ S := by rw [row_eq]; simp [List.getD, h]
theorem mem_row {S : List (List Int)} {p : List Int} (h : p ∈ S) : ∃ i, i < S.length ∧ row S i = p := by
  obtain ⟨i, hi, e⟩ := List.getElem_of_mem h
  exact ⟨i, hi, by rw [row_eq]; simp [List.getD, hi, e]⟩
theorem sorted_row {S : List (List Int)} (h : S.Pairwise (· < ·)) {i j : Nat} (hij : i < j) (hj : j < S.length) : row S i < row S j := by
  have := (List.pairwise_iff_getElem.1 h) i j (by omega) hj hij
  rw [row_eq, row_eq]; simpa [List.getD, hj, show i < S.length by omega] using this
theorem put_sorted {S : List (List Int)} {p : List Int} {k : Nat} (h : S.Pairwise (· < ·)) (hk : k ≤ S.length) (h1 : ∀ i, i < k → row S i < p) (h2 : ∀ i, k ≤ i → i < S.length → ¬ row S i < p) (hp : p ∉ S) : (S.take k ++ ([p] ++ S.drop k)).Pairwise (· < ·) := by
  rw [List.pairwise_append]
  refine ⟨h.take, ?_, fun a ha b hb => ?_⟩
  · rw [List.singleton_append, List.pairwise_cons]
    refine ⟨fun b hb => ?_, h.drop⟩
    obtain ⟨i, hi, e⟩ := List.getElem_of_mem hb
    rw [List.length_drop] at hi
    have e2 : row S (k + i) = b := by rw [row_eq]; rw [List.getElem_drop] at e; simp [List.getD, show k + i < S.length by omega, e]
    have hn := h2 (k + i) (by omega) (by omega)
    rw [e2] at hn
    rcases less_tri p b with g | g | g
    · exact g
    · exact absurd (by rw [g, ← e2]; exact rowG_mem (by omega)) hp
    · exact absurd g hn
  · obtain ⟨i, hi, e⟩ := List.getElem_of_mem ha
    rw [List.length_take] at hi
    have e2 : row S i = a := by rw [row_eq]; rw [List.getElem_take] at e; simp [List.getD, show i < S.length by omega, e]
    have hap := h1 i (by omega)
    rw [e2] at hap
    rw [List.singleton_append] at hb
    rcases List.mem_cons.1 hb with rfl | hb
    · exact hap
    · obtain ⟨j, hj, e3⟩ := List.getElem_of_mem hb
      rw [List.length_drop] at hj
      have e4 : row S (k + j) = b := by rw [row_eq]; rw [List.getElem_drop] at e3; simp [List.getD, show k + j < S.length by omega, e3]
      rw [← e2, ← e4]
      exact sorted_row h (by omega) (by omega)
theorem put_perm {S : List (List Int)} {p : List Int} {k : Nat} : (S.take k ++ ([p] ++ S.drop k)).Perm (p :: S) := by
  have h1 : (S.take k ++ ([p] ++ S.drop k)).Perm ([p] ++ (S.take k ++ S.drop k)) := by
    rw [← List.append_assoc, ← List.append_assoc]
    exact (List.perm_append_comm).append_right _
  rw [List.take_append_drop] at h1
  exact h1
theorem put_known {S : List (List Int)} {p : List Int} {k : Nat} (h : S.Pairwise (· < ·)) (h1 : ∀ i, i < k → row S i < p) (h2 : ∀ i, k ≤ i → i < S.length → ¬ row S i < p) : (k < S.length ∧ row S k = p) ↔ p ∈ S := by
  constructor
  · rintro ⟨hk, e⟩; rw [← e]; exact rowG_mem hk
  · intro hp
    obtain ⟨j, hj, e⟩ := mem_row hp
    have hkj : k ≤ j := by
      apply Classical.byContradiction
      intro hn
      have := h1 j (by omega)
      rw [e] at this
      exact less_irrefl p this
    have hjk : ¬ k < j := fun hlt => by
      have := sorted_row h hlt hj
      rw [e] at this
      exact h2 k (Nat.le_refl _) (by omega) this
    have : k = j := by omega
    subst this
    exact ⟨hj, e⟩
@[irreducible] noncomputable def sortS (R : List (List Int)) : List (List Int) := R.mergeSort (fun a b => !decide (b < a))
theorem sortS_eq {R S : List (List Int)} (hn : R.Nodup) (hp : S.Perm R) (hs : S.Pairwise (· < ·)) : S = sortS R := by
  refine sortedS_unique hs ?_ (hp.trans (by unfold sortS; exact (List.mergeSort_perm R _).symm))
  unfold sortS
  have h1 := List.pairwise_mergeSort (le := fun (a b : List Int) => !decide (b < a)) (fun a b c h1 h2 => by
    simp at *
    intro hca
    rcases less_tri a b with g | g | g
    · exact h2 (less_trans hca g)
    · subst g; exact h2 hca
    · exact h1 g) (fun a b => by
    simp
    rcases less_tri a b with g | g | g
    · exact .inl (fun e => less_irrefl a (less_trans g e))
    · subst g; exact .inl (less_irrefl a)
    · exact .inr (fun e => less_irrefl a (less_trans e g))) R
  have hnd : (R.mergeSort (fun a b => !decide (b < a))).Nodup := (List.mergeSort_perm R _).nodup_iff.2 hn
  have h2 := List.pairwise_and_iff.2 ⟨h1, hnd⟩
  refine h2.imp fun {a b} ⟨h, hne⟩ => ?_
  simp at h
  rcases less_tri a b with g | g | g
  · exact g
  · exact absurd g hne
  · exact absurd g h
theorem sortS_perm (R : List (List Int)) : (sortS R).Perm R := by unfold sortS; exact List.mergeSort_perm R _
theorem length_sortS (R : List (List Int)) : (sortS R).length = R.length := (sortS_perm R).length_eq
def findL (S : List (List Int)) (p : List Int) : Int := findIx (fun r => eqIB r p) S
theorem findL_eq (S : List (List Int)) (p : List Int) : findIx (fun r => eqIB r p) S = findL S p := rfl
@[irreducible] def sysBad (n : Int) (p : List Int) : Bool := decide ((p.length : Int) ≠ n) || !permB p
theorem sysBad_no {n : Int} {p : List Int} : sysBad n p = false ↔ (p.length : Int) = n ∧ permB p = true := by unfold sysBad; simp
@[irreducible] def sysB (n : Int) (gens : List (List Int)) : Bool := inR n 1 12 && decide (gens.length ≤ 16) && !anyB (sysBad n) gens
theorem sysB_no1 {n : Int} {gens : List (List Int)} (h : inR n 1 12 = false) : sysB n gens = false := by unfold sysB; rw [h]; rfl
theorem sysB_no2 {n : Int} {gens : List (List Int)} (h : ¬ gens.length ≤ 16) : sysB n gens = false := by unfold sysB; simp [h]
theorem sysB_any {n : Int} {gens : List (List Int)} (h : inR n 1 12 = true) (h2 : gens.length ≤ 16) : sysB n gens = !anyB (sysBad n) gens := by unfold sysB; simp [h, h2]
theorem sysB_no3 {n : Int} {gens : List (List Int)} {k : Nat} (hk : k < gens.length) (hb : sysBad n (row gens k) = true) : sysB n gens = false := by
  have : anyB (sysBad n) gens = true := by
    unfold anyB; rw [List.any_eq_true]; exact ⟨_, rowG_mem hk, hb⟩
  unfold sysB; rw [this]; simp
theorem sysB_yes {n : Int} {gens : List (List Int)} (h : inR n 1 12 = true) (h2 : gens.length ≤ 16) (h3 : ∀ k, k < gens.length → sysBad n (row gens k) = false) : sysB n gens = true := by
  rw [sysB_any h h2]
  have : anyB (sysBad n) gens = false := by
    unfold anyB; rw [List.any_eq_false]
    intro x hx
    obtain ⟨k, hk, e⟩ := mem_row hx
    rw [← e, h3 k hk]; simp
  rw [this]; rfl
theorem sysB_ok {n : Int} {gens : List (List Int)} (h : sysB n gens = true) : (1 ≤ n ∧ n ≤ 12) ∧ gens.length ≤ 16 ∧ ∀ k, k < gens.length → IsoOk n.toNat [] [] (row gens k) := by
  unfold sysB at h
  simp only [Bool.and_eq_true, decide_eq_true_eq, Bool.not_eq_true'] at h
  obtain ⟨⟨h1, h2⟩, h3⟩ := h
  refine ⟨inR_iff.1 h1, h2, fun k hk => ?_⟩
  have h4 : sysBad n (row gens k) = false := by
    unfold anyB at h3
    rw [List.any_eq_false] at h3
    have := h3 _ (rowG_mem hk)
    simpa using this
  obtain ⟨h5, h6⟩ := sysBad_no.1 h4
  exact isoOk_plain.2 ⟨by omega, permB_iff.1 h6⟩
noncomputable def gopS (n : Int) (gens : List (List Int)) : List (List Int) := sortS (genA gens n.toNat)
def gopE (S : List (List Int)) (x y : Nat) : Int := findL S (thenL (row S x) (row S y))
@[irreducible] noncomputable def gopV (n : Int) (gens : List (List Int)) : List (List Int) := if sysB n gens = true ∧ (genA gens n.toNat).length ≤ 12 then mkT (gopS n gens).length (gopE (gopS n gens)) else []
@[irreducible] noncomputable def gopC (n : Int) (gens : List (List Int)) : Int := if sysB n gens = true then (if (genA gens n.toNat).length ≤ 12 then 0 else 3) else 1
theorem gop_yes {n : Int} {gens : List (List Int)} (h : sysB n gens = true) (h2 : (genA gens n.toNat).length ≤ 12) : gopV n gens = mkT (gopS n gens).length (gopE (gopS n gens)) ∧ gopC n gens = 0 := by unfold gopV gopC; simp [h, h2]
end Go.Proofs.YthlafeefjonkdaaGreatDoor


namespace Go.Proofs.YthlafeefjonkdaaGreatDoor
set_option linter.unusedVariables false
set_option linter.unusedSimpArgs false

@[irreducible] def leftF (t u : List (List Int)) (x y z : Nat) : Int := ent u x (ent t y z).toNat
@[irreducible] def rightF (t u : List (List Int)) (x y z : Nat) : Int := ent t (ent t (ent u x y).toNat (backF t x).toNat).toNat (ent u x z).toNat
theorem leftF_def (t u : List (List Int)) (x y z : Nat) : ent u x (ent t y z).toNat = leftF t u x y z := by unfold leftF; rfl
theorem rightF_def (t u : List (List Int)) (x y z : Nat) : ent t (ent t (ent u x y).toNat (backF t x).toNat).toNat (ent u x z).toNat = rightF t u x y z := by unfold rightF; rfl
def NoZ (t u : List (List Int)) (x y k : Nat) : Prop := ∀ z, z < k → leftF t u x y z = rightF t u x y z
def NoY (t u : List (List Int)) (x k : Nat) : Prop := ∀ y, y < k → NoZ t u x y t.length
def NoX (t u : List (List Int)) (k : Nat) : Prop := ∀ x, x < k → NoY t u x t.length
theorem NoZ.zero (t u x y) : NoZ t u x y 0 := all_zero
theorem NoZ.succ {t u x y k} (h : NoZ t u x y k) (hk : leftF t u x y k = rightF t u x y k) : NoZ t u x y (k + 1) := all_succ h hk
theorem NoY.zero (t u x) : NoY t u x 0 := all_zero
theorem NoY.succ {t u x k} (h : NoY t u x k) (hk : NoZ t u x k t.length) : NoY t u x (k + 1) := all_succ h hk
theorem NoX.zero (t u) : NoX t u 0 := all_zero
theorem NoX.succ {t u k} (h : NoX t u k) (hk : NoY t u k t.length) : NoX t u (k + 1) := all_succ h hk
def IsFault (t u : List (List Int)) (l : List Int) : Prop :=
  (l = [] ∧ NoX t u t.length) ∨ ∃ x y z : Nat, x < t.length ∧ y < t.length ∧ z < t.length ∧ l = [(x : Int), (y : Int), (z : Int)] ∧ leftF t u x y z ≠ rightF t u x y z ∧ NoX t u x ∧ NoY t u x y ∧ NoZ t u x y z
theorem IsFault.uniq {t u : List (List Int)} {l m : List Int} (h : IsFault t u l) (k : IsFault t u m) : l = m := by
  rcases h with ⟨rfl, h⟩ | ⟨x, y, z, hx, hy, hz, rfl, hb, h1, h2, h3⟩
  · rcases k with ⟨rfl, _⟩ | ⟨x, y, z, hx, hy, hz, rfl, hb, _, _, _⟩
    · rfl
    · exact absurd (h x hx y hy z hz) hb
  · rcases k with ⟨rfl, k⟩ | ⟨x', y', z', hx', hy', hz', rfl, hb', k1, k2, k3⟩
    · exact absurd (k x hx y hy z hz) hb
    · have ex : x = x' := by
        rcases Nat.lt_trichotomy x x' with g | g | g
        · exact absurd (k1 x g y hy z hz) hb
        · exact g
        · exact absurd (h1 x' g y' hy' z' hz') hb'
      subst ex
      have ey : y = y' := by
        rcases Nat.lt_trichotomy y y' with g | g | g
        · exact absurd (k2 y g z hz) hb
        · exact g
        · exact absurd (h2 y' g z' hz') hb'
      subst ey
      have ez : z = z' := by
        rcases Nat.lt_trichotomy z z' with g | g | g
        · exact absurd (k3 z g) hb
        · exact g
        · exact absurd (h3 z' g) hb'
      subst ez
      rfl
open Classical in
@[irreducible] noncomputable def faultL (t u : List (List Int)) : List Int := if h : ∃ l, IsFault t u l then h.choose else []
theorem faultL_eq {t u : List (List Int)} {l : List Int} (h : IsFault t u l) : faultL t u = l := by
  unfold faultL
  rw [dif_pos ⟨l, h⟩]
  exact IsFault.uniq (Exists.choose_spec (p := fun l => IsFault t u l) ⟨l, h⟩) h
theorem faultL_none {t u : List (List Int)} (h : NoX t u t.length) : faultL t u = [] := faultL_eq (.inl ⟨rfl, h⟩)
theorem faultL_at {t u : List (List Int)} {x y z : Nat} (hx : x < t.length) (hy : y < t.length) (hz : z < t.length) (hb : leftF t u x y z ≠ rightF t u x y z) (h1 : NoX t u x) (h2 : NoY t u x y) (h3 : NoZ t u x y z) : faultL t u = [(x : Int), (y : Int), (z : Int)] :=
  faultL_eq (.inr ⟨x, y, z, hx, hy, hz, rfl, hb, h1, h2, h3⟩)

@[irreducible] def twoB (t u : List (List Int)) : Bool := groupB t && (groupB u && decide (t.length = u.length))
theorem twoB_iff {t u : List (List Int)} : twoB t u = true ↔ GroupOk t ∧ GroupOk u ∧ t.length = u.length := by
  unfold twoB; simp [groupB_iff]
theorem twoB_1 {t u : List (List Int)} (h : groupB t = false) : twoB t u = false := by unfold twoB; simp [h]
theorem twoB_2 {t u : List (List Int)} (h : groupB u = false) : twoB t u = false := by unfold twoB; simp [h]
theorem twoB_3 {t u : List (List Int)} (h : t.length ≠ u.length) : twoB t u = false := by unfold twoB; simp [h]
theorem twoB_yes {t u : List (List Int)} (h : groupB t = true) (h2 : groupB u = true) (h3 : t.length = u.length) : twoB t u = true := by unfold twoB; simp [h, h2, h3]
@[irreducible] noncomputable def braceB (t u : List (List Int)) : Bool := twoB t u && (faultL t u).isEmpty
theorem braceB_1 {t u : List (List Int)} (h : twoB t u = false) : braceB t u = false := by unfold braceB; simp [h]
theorem braceB_2 {t u : List (List Int)} (h : faultL t u ≠ []) : braceB t u = false := by unfold braceB; simp [h]
theorem braceB_yes {t u : List (List Int)} (h : twoB t u = true) (h2 : faultL t u = []) : braceB t u = true := by unfold braceB; simp [h, h2]
theorem braceB_two {t u : List (List Int)} (h : braceB t u = true) : twoB t u = true := by
  cases h' : twoB t u with
  | true => rfl
  | false => rw [braceB_1 h'] at h; cases h
theorem braceB_ok {t u : List (List Int)} (h : braceB t u = true) : GroupOk t ∧ GroupOk u ∧ t.length = u.length := twoB_iff.1 (braceB_two h)
@[irreducible] noncomputable def codeB (t u : List (List Int)) : Int := if braceB t u = true then 0 else 1
theorem codeB_yes {t u} (h : braceB t u = true) : codeB t u = 0 := by unfold codeB; rw [if_pos h]
theorem codeB_no {t u} (h : braceB t u = false) : codeB t u = 1 := by unfold codeB; rw [if_neg (by rw [h]; simp)]
@[irreducible] noncomputable def ifB {α : Type} (t u : List (List Int)) (a d : α) : α := if braceB t u = true then a else d
theorem ifB_yes {α : Type} {t u} {a d : α} (h : braceB t u = true) : ifB t u a d = a := by unfold ifB; rw [if_pos h]
theorem ifB_no {α : Type} {t u} {a d : α} (h : braceB t u = false) : ifB t u a d = d := by unfold ifB; rw [if_neg (by rw [h]; simp)]
end Go.Proofs.YthlafeefjonkdaaGreatDoor


namespace Go.Proofs.YthlafeefjonkdaaGreatDoor
set_option linter.unusedVariables false
set_option linter.unusedSimpArgs false

theorem grp_inj_r {t : List (List Int)} (h : GroupOk t) {x y z : Nat} (hx : x < t.length) (hy : y < t.length) (hz : z < t.length) (e : ent t y x = ent t z x) : y = z := by
  obtain ⟨b0, b1, b2⟩ := backF_ok h hx
  have a1 := grp_assoc h hy hx (z := (backF t x).toNat) (by omega)
  have a2 := grp_assoc h hz hx (z := (backF t x).toNat) (by omega)
  rw [e, a2, b2] at a1
  have e1 := grp_unit_r h hy
  have e2 := grp_unit_r h hz
  simp only [Int.toNat_zero] at a1
  omega
theorem IsoOk.zero {n : Nat} {az bz : List (List (List Int))} {p : List Int} (hp : IsoOk n az bz p) (h0 : 0 < az.length) (hA : GroupOk (tab az 0)) (hB : GroupOk (tab bz 0)) (la : (tab az 0).length = n) (lb : (tab bz 0).length = n) : ix p 0 = 0 := by
  have h1 : 1 ≤ n := by have := hA.1.1; omega
  have hb := hp.bd (x := 0) (by omega)
  have hm := hp.2.2 0 h0 0 (by omega) 0 (by omega)
  rw [grp_unit_l hA (by omega)] at hm
  have hu := grp_unit_r hB (x := (ix p 0).toNat) (by omega)
  have := grp_inj hB (x := (ix p 0).toNat) (y := 0) (z := (ix p 0).toNat) (by omega) (by omega) (by omega) (by
    rw [hu, ← hm]
    simp
    omega)
  omega
theorem extL_zero {n : Nat} {az bz : List (List (List Int))} (h0 : 0 < az.length) (hA : GroupOk (tab az 0)) (hB : GroupOk (tab bz 0)) (la : (tab az 0).length = n) (lb : (tab bz 0).length = n) : extL n az bz [0] = isoL n az bz :=
  extL_all fun p hp i hi _ => by
    have : i = 0 := by simpa using hi
    subst this
    rw [hp.zero h0 hA hB la lb, ix_eq]; rfl

theorem nodup_filter {α : Type} {l : List α} (p : α → Bool) (h : l.Nodup) : (l.filter p).Nodup := by
  rw [List.nodup_iff_pairwise_ne] at h ⊢
  exact h.filter _
def Agr (M : List (List Int)) (x : Nat) : Prop := ∀ p, p ∈ M → ∀ q, q ∈ M → ix p x = ix q x
open Classical in
noncomputable def agrL (n : Nat) (M : List (List Int)) : List Nat := (List.range n).filter fun x => decide (Agr M x)
theorem mem_agrL {n : Nat} {M : List (List Int)} {x : Nat} : x ∈ agrL n M ↔ x < n ∧ Agr M x := by
  unfold agrL; rw [List.mem_filter, List.mem_range]; simp
theorem nodup_agrL (n : Nat) (M : List (List Int)) : (agrL n M).Nodup := by
  unfold agrL; exact nodup_filter _ List.nodup_range
theorem agrL_le (n : Nat) (M : List (List Int)) : (agrL n M).length ≤ n := by
  unfold agrL
  exact Nat.le_trans (List.length_filter_le _ _) (by simp)
def part (M : List (List Int)) (x : Nat) (v : Nat) : List (List Int) := M.filter fun p => decide (ix p x = (v : Int))
theorem mem_part {M : List (List Int)} {x v : Nat} {p : List Int} : p ∈ part M x v ↔ p ∈ M ∧ ix p x = (v : Int) := by
  unfold part; rw [List.mem_filter]; simp
theorem len_parts (x B : Nat) : ∀ (n : Nat) (M : List (List Int)), (∀ p, p ∈ M → 0 ≤ ix p x ∧ ix p x < (n : Int)) → (∀ v, v < n → (part M x v).length ≤ B) → M.length ≤ n * B
  | 0, M, hb, _ => by
    cases M with
    | nil => simp
    | cons p M => have := hb p (by simp); omega
  | n + 1, M, hb, hv => by
    have h := List.length_eq_countP_add_countP (fun p : List Int => decide (ix p x = (n : Int))) (l := M)
    have h1 := hv n (by omega)
    unfold part at h1
    rw [← List.countP_eq_length_filter] at h1
    have h2 := len_parts x B n (M.filter fun p => ! decide (ix p x = (n : Int))) (fun p hp => by
        rw [List.mem_filter] at hp
        have := hb p hp.1
        have h3 : ¬ ix p x = (n : Int) := by simpa using hp.2
        omega) (fun v hvn => by
        refine Nat.le_trans ?_ (hv v (by omega))
        unfold part
        rw [List.filter_filter, ← List.countP_eq_length_filter, ← List.countP_eq_length_filter]
        exact List.countP_mono_left fun p _ => by simp; intro a _; exact a)
    rw [← List.countP_eq_length_filter] at h2
    have e : List.countP (fun p : List Int => ! decide (ix p x = (n : Int))) M = List.countP (fun a : List Int => decide (¬ (decide (ix a x = (n : Int))) = true)) M := by
      congr 1; funext p; simp
    rw [e] at h2
    rw [Nat.add_mul, Nat.one_mul]
    omega
section
variable {n : Nat} {az bz : List (List (List Int))} (h0 : 0 < az.length) (hA : GroupOk (tab az 0)) (hB : GroupOk (tab bz 0)) (la : (tab az 0).length = n) (lb : (tab bz 0).length = n)
include h0 hA hB la lb
omit hA hB la lb in
theorem agr_mul {M : List (List Int)} (hM : ∀ p, p ∈ M → IsoOk n az bz p) {x y : Nat} (hx : x < n) (hy : y < n) (ax : Agr M x) (ay : Agr M y) : Agr M (ent (tab az 0) x y).toNat := fun p hp q hq => by
  rw [(hM p hp).2.2 0 h0 x hx y hy, (hM q hq).2.2 0 h0 x hx y hy, ax p hp q hq, ay p hp q hq]
omit hA la in
theorem agr_back {M : List (List Int)} (hM : ∀ p, p ∈ M → IsoOk n az bz p) {x y : Nat} (hx : x < n) (hy : y < n) (ay : Agr M y) (axy : Agr M (ent (tab az 0) x y).toNat) : Agr M x := fun p hp q hq => by
  have h := axy p hp q hq
  rw [(hM p hp).2.2 0 h0 x hx y hy, (hM q hq).2.2 0 h0 x hx y hy, ay p hp q hq] at h
  have b1 := (hM p hp).bd hx
  have b2 := (hM q hq).bd hx
  have b3 := (hM q hq).bd hy
  have := grp_inj_r hB (x := (ix q y).toNat) (y := (ix p x).toNat) (z := (ix q x).toNat) (by omega) (by omega) (by omega) h
  omega
theorem agr_two {M : List (List Int)} (hM : ∀ p, p ∈ M → IsoOk n az bz p) {x v : Nat} (hx : x < n) (hn : ¬ Agr M x) : 2 * (agrL n M).length ≤ (agrL n (part M x v)).length := by
  have hs : ∀ y, Agr M y → Agr (part M x v) y := fun y h p hp q hq => h p (mem_part.1 hp).1 q (mem_part.1 hq).1
  have hP : ∀ p, p ∈ part M x v → IsoOk n az bz p := fun p hp => hM p (mem_part.1 hp).1
  have hax : Agr (part M x v) x := fun p hp q hq => by rw [(mem_part.1 hp).2, (mem_part.1 hq).2]
  have hbd : ∀ y, y < n → 0 ≤ ent (tab az 0) x y ∧ (ent (tab az 0) x y).toNat < n := fun y hy => by
    have := hA.1.bd (x := x) (y := y) (by omega) (by omega)
    omega
  have h := nodup_le (agrL n M ++ (agrL n M).map fun y => (ent (tab az 0) x y).toNat) (agrL n (part M x v)) (by
      rw [List.nodup_append]
      refine ⟨nodup_agrL _ _, ?_, ?_⟩
      · rw [List.nodup_iff_pairwise_ne, List.pairwise_map]
        have hn2 := nodup_agrL n M
        rw [List.nodup_iff_pairwise_ne] at hn2
        refine hn2.imp_of_mem ?_
        intro a b ha hb hab e
        have ba := hbd a (mem_agrL.1 ha).1
        have bb := hbd b (mem_agrL.1 hb).1
        exact hab (grp_inj hA (x := x) (by omega) (by have := (mem_agrL.1 ha).1; omega) (by have := (mem_agrL.1 hb).1; omega) (by omega))
      · intro a ha b hb e
        rw [List.mem_map] at hb
        obtain ⟨y, hy, rfl⟩ := hb
        subst e
        exact hn (agr_back h0 hB lb hM hx (mem_agrL.1 hy).1 (mem_agrL.1 hy).2 (mem_agrL.1 ha).2))
    (fun y hy => by
      rw [List.mem_append, List.mem_map] at hy
      rcases hy with hy | ⟨z, hz, rfl⟩
      · exact mem_agrL.2 ⟨(mem_agrL.1 hy).1, hs y (mem_agrL.1 hy).2⟩
      · exact mem_agrL.2 ⟨(hbd z (mem_agrL.1 hz).1).2, agr_mul h0 hP hx (mem_agrL.1 hz).1 hax (hs z (mem_agrL.1 hz).2)⟩)
  rw [List.length_append, List.length_map] at h
  omega
theorem few : ∀ (f : Nat) (M : List (List Int)), M.Nodup → (∀ p, p ∈ M → IsoOk n az bz p) → n < 2 ^ f * (agrL n M).length → M.length ≤ n ^ f
  | 0, M, _, _, hl => by have := agrL_le n M; omega
  | f + 1, M, hn, hM, hl => by
    have h1 : 1 ≤ n := by have := hA.1.1; omega
    by_cases hall : ∀ x, x < n → Agr M x
    · have : M.length ≤ 1 := by
        rcases M with _ | ⟨p, _ | ⟨q, r⟩⟩
        · simp
        · simp
        · have hpq : p = q := ix_ext (by rw [(hM p (by simp)).1, (hM q (by simp)).1]) fun i hi => hall i (by rw [(hM p (by simp)).1] at hi; exact hi) p (by simp) q (by simp)
          subst hpq
          simp at hn
      exact Nat.le_trans this (Nat.pow_pos (by omega))
    · obtain ⟨x, hx⟩ := Classical.not_forall.1 hall
      obtain ⟨hx, hna⟩ := Classical.not_imp.1 hx
      have := len_parts x (n ^ f) n M (fun p hp => by have := (hM p hp).bd hx; omega) (fun v _ => few f (part M x v) (by unfold part; exact nodup_filter _ hn) (fun p hp => hM p (mem_part.1 hp).1) (by
        have h2 := agr_two h0 hA hB la lb hM (v := v) hx hna
        rw [Nat.pow_succ] at hl
        have h3 := Nat.mul_le_mul_left (2 ^ f) h2
        rw [← Nat.mul_assoc] at h3
        omega))
      rw [Nat.pow_succ, Nat.mul_comm]
      exact this
theorem few_iso (h12 : n ≤ 12) : (isoL n az bz).length ≤ 1000000 := by
  have h1 : 1 ≤ n := by have := hA.1.1; omega
  have hnd : (isoL n az bz).Nodup := by
    have := nodup_extL n az bz [0]
    rwa [extL_zero h0 hA hB la lb] at this
  have := few h0 hA hB la lb 4 (isoL n az bz) hnd (fun p hp => mem_isoL.1 hp) (by
    have : 0 < (agrL n (isoL n az bz)).length := List.length_pos_of_mem (a := 0) (mem_agrL.2 ⟨by omega, fun p hp q hq => by
      rw [(mem_isoL.1 hp).zero h0 hA hB la lb, (mem_isoL.1 hq).zero h0 hA hB la lb]⟩)
    omega)
  have h2 : n ^ 4 ≤ 12 ^ 4 := Nat.pow_le_pow_left h12 4
  omega
theorem take_iso (h12 : n ≤ 12) : (extL n az bz [0]).take 1000000 = isoL n az bz := by
  rw [extL_zero h0 hA hB la lb]
  exact List.take_of_length_le (few_iso h0 hA hB la lb h12)
end
@[irreducible] noncomputable def isoF (az bz : List (List (List Int))) : List Int := if (tab az 0).length = (tab bz 0).length then (isoL (tab az 0).length az bz).headD [] else []
theorem isoF_len {az bz : List (List (List Int))} (h : ¬ (tab az 0).length = (tab bz 0).length) : isoF az bz = [] := by unfold isoF; rw [if_neg h]
theorem isoF_nil {n : Nat} {az bz : List (List (List Int))} (ha : (tab az 0).length = n) (h : isoL n az bz = []) : isoF az bz = [] := by
  unfold isoF
  subst ha
  split
  · rw [h]; rfl
  · rfl
theorem isoF_cons {n : Nat} {az bz : List (List (List Int))} (ha : (tab az 0).length = n) (hb : (tab bz 0).length = n) {p : List Int} {r : List (List Int)} (h : isoL n az bz = p :: r) : isoF az bz = p := by
  unfold isoF
  subst ha
  rw [if_pos (by omega), h]; rfl
theorem isoF_ne {n : Nat} {az bz : List (List (List Int))} (h1 : 1 ≤ n) {p : List Int} {r : List (List Int)} (h : isoL n az bz = p :: r) : p.length = n ∧ 0 < p.length := by
  have := (mem_isoL.1 (show p ∈ isoL n az bz by rw [h]; simp)).1
  omega
end Go.Proofs.YthlafeefjonkdaaGreatDoor


namespace Go.Proofs.YthlafeefjonkdaaGreatDoor
set_option linter.unusedVariables false
set_option linter.unusedSimpArgs false

structure Grp (n : Nat) (m : Nat → Nat → Nat) (v : Nat → Nat) : Prop where
  bd : ∀ x, x < n → ∀ y, y < n → m x y < n
  vb : ∀ x, x < n → v x < n
  assoc : ∀ x, x < n → ∀ y, y < n → ∀ z, z < n → m (m x y) z = m x (m y z)
  ul : ∀ x, x < n → m 0 x = x
  ur : ∀ x, x < n → m x 0 = x
  vl : ∀ x, x < n → m (v x) x = 0
  vr : ∀ x, x < n → m x (v x) = 0
section
variable {n : Nat} {m : Nat → Nat → Nat} {v : Nat → Nat} (h : Grp n m v)
include h
end
structure Sub (n : Nat) (m : Nat → Nat → Nat) (v : Nat → Nat) (S : List Nat) : Prop where
  nodup : S.Nodup
  bd : ∀ x, x ∈ S → x < n
  mul : ∀ x, x ∈ S → ∀ y, y ∈ S → m x y ∈ S
  inv : ∀ x, x ∈ S → v x ∈ S
theorem nodup_map_on {α β : Type} {f : α → β} : ∀ {l : List α}, l.Nodup → (∀ x, x ∈ l → ∀ y, y ∈ l → f x = f y → x = y) → (l.map f).Nodup
  | [], _, _ => List.nodup_nil
  | a :: l, hn, hi => by
    rw [List.nodup_cons] at hn
    rw [List.map_cons, List.nodup_cons]
    refine ⟨fun hm => ?_, nodup_map_on hn.2 (fun x hx y hy => hi x (by simp [hx]) y (by simp [hy]))⟩
    obtain ⟨b, hb, e⟩ := List.mem_map.1 hm
    have := hi b (by simp [hb]) a (by simp) e
    subst this
    exact hn.1 hb
theorem len_without {α : Type} [DecidableEq α] : ∀ (C L : List α), C.Nodup → L.Nodup → (∀ x, x ∈ C → x ∈ L) → (L.filter fun x => decide (x ∉ C)).length + C.length = L.length
  | [], L, _, _, _ => by simp
  | c :: C, L, hC, hL, hs => by
    rw [List.nodup_cons] at hC
    have ih := len_without C (L.erase c) hC.2 (hL.erase c) (fun x hx => by
      have hne : x ≠ c := fun e => by subst e; exact hC.1 hx
      exact (List.mem_erase_of_ne hne).2 (hs x (by simp [hx])))
    have hc : c ∈ L := hs c (by simp)
    have hl : (L.erase c).length + 1 = L.length := by
      have := List.length_erase_of_mem hc
      have : 0 < L.length := List.length_pos_of_mem hc
      omega
    have hf : (L.filter fun x => decide (x ∉ c :: C)) = ((L.erase c).filter fun x => decide (x ∉ C)) := by
      rw [hL.erase_eq_filter, List.filter_filter]
      refine List.filter_congr fun x _ => ?_
      by_cases e : x = c
      · subst e; simp
      · simp [e]
    rw [hf, List.length_cons]
    omega
end Go.Proofs.YthlafeefjonkdaaGreatDoor


namespace Go.Proofs.YthlafeefjonkdaaGreatDoor
set_option linter.unusedVariables false
set_option linter.unusedSimpArgs false

theorem thenL_assoc {n : Nat} {p q r : List Int} (hp : IsoOk n [] [] p) (hq : IsoOk n [] [] q) : thenL (thenL p q) r = thenL p (thenL q r) := by
  refine ix_ext (by rw [length_thenL, length_thenL, length_thenL]) fun i hi => ?_
  rw [length_thenL, length_thenL] at hi
  have hl := hp.1
  have hb := hp.bd (x := i) (by omega)
  rw [ix_thenL _ _ (by rw [length_thenL]; exact hi), ix_thenL _ _ hi, ix_thenL _ _ hi, ix_thenL _ _ (by rw [hq.1]; exact hb.2)]
theorem thenL_id {n : Nat} {p : List Int} (hp : IsoOk n [] [] p) : thenL p (idL n) = p := by
  refine ix_ext (by rw [length_thenL]) fun i hi => ?_
  rw [length_thenL] at hi
  have hl := hp.1
  have hb := hp.bd (x := i) (by omega)
  rw [ix_thenL _ _ hi, ix_idL _ _ hb.2]
  omega
theorem thenL_inj {n : Nat} {p q r : List Int} (hp : IsoOk n [] [] p) (hq : IsoOk n [] [] q) (hr : IsoOk n [] [] r) (e : thenL p q = thenL p r) : q = r := by
  have hl := hp.1
  refine ix_ext (by rw [hq.1, hr.1]) fun i hi => ?_
  rw [hq.1] at hi
  obtain ⟨x, hx, e1⟩ := hp.surj hi
  have this : ix (thenL p q) x = ix (thenL p r) x := by rw [e]
  rw [ix_thenL _ _ (by omega), ix_thenL _ _ (by omega), e1, Int.toNat_natCast] at this
  exact this
theorem findL_at {S : List (List Int)} {p : List Int} (h : p ∈ S) : ∃ i : Nat, i < S.length ∧ findL S p = (i : Int) ∧ row S i = p := by
  have key : ∀ (d k : Nat), S.length = k + d → (∃ i, k ≤ i ∧ i < S.length ∧ row S i = p) → ∃ i : Nat, i < S.length ∧ findFrom (fun r => eqIB r p) (S.drop k) k = (i : Int) ∧ row S i = p := by
    intro d
    induction d with
    | zero => rintro k hk ⟨i, h1, h2, -⟩; omega
    | succ d ih =>
      rintro k hk ⟨i, h1, h2, h3⟩
      by_cases e : row S k = p
      · exact ⟨k, by omega, findFrom_hit _ _ _ (by omega) (eqIB_yes e), e⟩
      · rw [findFrom_miss (fun r => eqIB r p) S k (by omega) (eqIB_no e)]
        refine ih (k + 1) (by omega) ⟨i, ?_, h2, h3⟩
        by_cases e2 : i = k
        · subst e2; exact absurd h3 e
        · omega
  obtain ⟨i, hi, e⟩ := mem_row h
  obtain ⟨j, j1, j2, j3⟩ := key S.length 0 (by omega) ⟨i, Nat.zero_le _, hi, e⟩
  refine ⟨j, j1, ?_, j3⟩
  rw [← findL_eq]
  unfold findIx
  simpa using j2
end Go.Proofs.YthlafeefjonkdaaGreatDoor


namespace Go.Proofs.YthlafeefjonkdaaGreatDoor
set_option linter.unusedVariables false
set_option linter.unusedSimpArgs false

theorem isoL_row {n : Nat} {az bz : List (List (List Int))} {a : Nat} (ha : a < (isoL n az bz).length) : IsoOk n az bz (row (isoL n az bz) a) := by
  refine mem_isoL.1 ?_
  rw [row_eq]; simp [List.getD, ha]
theorem isoOk_then {n : Nat} {az : List (List (List Int))} {p q : List Int} (hA : TabsOk n az) (hp : IsoOk n az az p) (hq : IsoOk n az az q) : IsoOk n az az (thenL p q) := by
  have h := thenL_perm (isoOk_plain.2 ⟨hp.1, hp.2.1⟩) (isoOk_plain.2 ⟨hq.1, hq.2.1⟩)
  refine ⟨h.1, h.2.1, fun k hk x hx y hy => ?_⟩
  have hb := hA.bd hk hx hy
  have bx := hp.bd hx
  have bY := hp.bd hy
  rw [ix_thenL _ _ (by rw [hp.1]; exact hb.2), hp.2.2 k hk x hx y hy, hq.2.2 k hk _ bx.2 _ bY.2, ix_thenL _ _ (by rw [hp.1]; exact hx), ix_thenL _ _ (by rw [hp.1]; exact hy)]
theorem then_id {n : Nat} : thenL (idL n) (idL n) = idL n := by
  refine ix_ext (by rw [length_thenL]) fun i hi => ?_
  rw [length_thenL, length_idL] at hi
  rw [ix_thenL _ _ (by rw [length_idL]; exact hi), ix_idL _ _ hi, Int.toNat_natCast, ix_idL _ _ hi]
theorem idL_auto {n : Nat} {az : List (List (List Int))} (hA : TabsOk n az) : IsoOk n az az (idL n) := by
  have h := idL_perm n
  refine ⟨h.1, h.2.1, fun k hk x hx y hy => ?_⟩
  have := hA.bd hk hx hy
  rw [ix_idL _ _ hx, ix_idL _ _ hy, ix_idL _ _ this.2, Int.toNat_natCast, Int.toNat_natCast]
  omega
theorem auto_zero {n : Nat} {az : List (List (List Int))} (hA : TabsOk n az) : 0 < (isoL n az az).length ∧ row (isoL n az az) 0 = idL n := by
  have hm := mem_isoL.2 (idL_auto hA)
  have hs := sorted_isoL n az az
  cases hL : isoL n az az with
  | nil => rw [hL] at hm; cases hm
  | cons p r =>
    refine ⟨by simp, ?_⟩
    have e : row (p :: r) 0 = p := by rw [row_eq]; rfl
    rw [e]
    rw [hL] at hm hs
    have hp : IsoOk n az az p := mem_isoL.1 (by rw [hL]; simp)
    rcases List.mem_cons.1 hm with h | h
    · exact h.symm
    · exfalso
      have h2 := (List.pairwise_cons.1 hs).1 _ h
      rcases first_perm (idL_perm n) (fun x hx => ix_idL _ _ hx) p (mem_isoL.2 (isoOk_plain.2 ⟨hp.1, hp.2.1⟩)) with h3 | h3
      · rw [h3] at h2
        obtain ⟨d, -, h4⟩ := h2
        omega
      · obtain ⟨d, k1, k2⟩ := h2
        obtain ⟨d', k3, k4⟩ := h3
        rcases Nat.lt_trichotomy d d' with g | g | g
        · have := k3 d g; omega
        · subst g; omega
        · have := k1 d' g; omega
theorem find_zero {S : List (List Int)} (h : 0 < S.length) : findL S (row S 0) = 0 := by
  have := findFrom_hit (fun r => eqIB r (row S 0)) S 0 h (eqIB_yes rfl)
  unfold findL findIx
  simpa using this
structure AutOk (n : Nat) (A : List (List Int)) : Prop where
  pos : 0 < A.length
  perm : ∀ a, a < A.length → IsoOk n [] [] (row A a)
  clos : ∀ a, a < A.length → ∀ b, b < A.length → 0 ≤ findL A (thenL (row A b) (row A a)) ∧ findL A (thenL (row A b) (row A a)) < A.length
  zero : findL A (thenL (row A 0) (row A 0)) = 0
theorem autOk_isoL {n : Nat} {az : List (List (List Int))} (hA : TabsOk n az) : AutOk n (isoL n az az) := by
  obtain ⟨h0, h1⟩ := auto_zero hA
  refine ⟨h0, fun a ha => ?_, fun a ha b hb => ?_, ?_⟩
  · have := isoL_row ha
    exact isoOk_plain.2 ⟨this.1, this.2.1⟩
  · obtain ⟨i, h1, h2, -⟩ := findL_at (mem_isoL.2 (isoOk_then hA (isoL_row hb) (isoL_row ha)))
    omega
  · rw [h1, then_id]
    have := find_zero h0
    rwa [h1] at this

structure KOk (n m : Nat) (K : List Int) : Prop where
  len : K.length = n
  bd : ∀ i, i < n → -1 ≤ ix K i ∧ ix K i < m
def unset (K : List Int) : Nat := ((List.range K.length).filter fun i => decide (ix K i < 0)).length
def Zer (K : List Int) : Prop := ∀ i, i < K.length → ix K i ≤ 0
theorem unset_le (K : List Int) : unset K ≤ K.length := by
  unfold unset
  exact Nat.le_trans (List.length_filter_le _ _) (by simp)
theorem filter_len_lt {α : Type} (l : List α) (f g : α → Bool) (h : ∀ x, x ∈ l → f x = true → g x = true) (x : α) (hx : x ∈ l) (hf : f x = false) (hg : g x = true) : (l.filter f).length < (l.filter g).length := by
  induction l with
  | nil => cases hx
  | cons a r ih =>
    have hle : (r.filter f).length ≤ (r.filter g).length := by
      have := fun y hy => h y (List.mem_cons_of_mem _ hy)
      clear ih hx h
      induction r with
      | nil => simp
      | cons b s ihs =>
        have h1 := ihs (fun y hy => this y (List.mem_cons_of_mem _ hy))
        have h2 := this b (by simp)
        rw [List.filter_cons, List.filter_cons]
        cases hfb : f b <;> cases hgb : g b <;> simp [hfb, hgb] at h2 ⊢ <;> omega
    rw [List.filter_cons, List.filter_cons]
    rcases List.mem_cons.1 hx with rfl | hx
    · simp [hf, hg]; omega
    · have h1 := ih (fun y hy => h y (List.mem_cons_of_mem _ hy)) hx
      have h2 := h a (by simp)
      cases hfa : f a <;> cases hga : g a <;> simp [hfa, hga] at h2 ⊢ <;> omega
theorem ix_setN (K : List Int) (z : Nat) (v : Int) (i : Nat) (hz : z < K.length) : ix (K.set z v) i = if i = z then v else ix K i := by
  rw [ix_eq, ix_eq]
  simp only [List.getD]
  rw [List.getElem?_set]
  by_cases e : z = i
  · subst e; simp [hz]
  · simp [e, Ne.symm e]
theorem KOk.set {n m : Nat} {K : List Int} (h : KOk n m K) {z : Nat} {v : Int} (hz : z < n) (h0 : 0 ≤ v) (hm : v < m) : KOk n m (K.set z v) := by
  refine ⟨by rw [List.length_set, h.len], fun i hi => ?_⟩
  rw [ix_setN _ _ _ _ (by rw [h.len]; exact hz)]
  have := h.bd i hi
  by_cases e : i = z
  · rw [if_pos e]; omega
  · rw [if_neg e]; exact this
theorem unset_set {n m : Nat} {K : List Int} (h : KOk n m K) {z : Nat} {v : Int} (hz : z < n) (h0 : 0 ≤ v) (hu : ix K z < 0) : unset (K.set z v) < unset K := by
  unfold unset
  rw [List.length_set]
  refine filter_len_lt _ _ _ (fun i hi hf => ?_) z (List.mem_range.2 (by rw [h.len]; exact hz)) ?_ ?_
  · rw [ix_setN _ _ _ _ (by rw [h.len]; exact hz)] at hf
    by_cases e : i = z
    · rw [if_pos e] at hf; simp at hf; omega
    · rw [if_neg e] at hf; exact hf
  · rw [ix_setN _ _ _ _ (by rw [h.len]; exact hz), if_pos rfl]; simp; omega
  · simpa using hu
theorem Zer.set {n m : Nat} {K : List Int} (h : KOk n m K) (hZ : Zer K) {z : Nat} (hz : z < n) : Zer (K.set z 0) := by
  intro i hi
  rw [List.length_set] at hi
  rw [ix_setN _ _ _ _ (by rw [h.len]; exact hz)]
  by_cases e : i = z
  · rw [if_pos e]; exact Int.le_refl _
  · rw [if_neg e]; exact hZ i hi
@[irreducible] def circF (T A : List (List Int)) (K : List Int) (x y : Nat) : Int := ix (row T x) (ix (row A (ix K x).toNat) y).toNat
theorem circF_row {T A : List (List Int)} {K : List Int} {n x : Nat} (hA : AutOk n A) (hT : TableOk T) (hl : T.length = n) (hK : KOk n A.length K) (hx : x < n) (h0 : 0 ≤ ix K x) : thenL (row A (ix K x).toNat) (row T x) = row (mkT n (circF T A K)) x := by
  have hb := hK.bd x hx
  have hp := hA.perm (ix K x).toNat (by omega)
  refine ix_ext (by rw [length_thenL, hp.1, row_mkT _ _ _ hx, length_partRow]) fun y hy => ?_
  rw [length_thenL, hp.1] at hy
  rw [ix_thenL _ _ (by rw [hp.1]; exact hy), ent_def (mkT n (circF T A K)), ent_mkT _ _ _ _ hx hy]
  unfold circF
  rfl
theorem circ_table {T A : List (List Int)} {K : List Int} {n : Nat} (hA : AutOk n A) (hT : TableOk T) (hl : T.length = n) (hK : KOk n A.length K) (h0 : ∀ i, i < n → 0 ≤ ix K i) : TableOk (mkT n (circF T A K)) := by
  have h1 := hT.1
  have h2 := hT.2.1
  refine ⟨by rw [length_mkT]; omega, by rw [length_mkT]; omega, fun x hx => ?_⟩
  rw [length_mkT] at hx ⊢
  refine ⟨by rw [row_mkT _ _ _ hx]; exact length_partRow _ _ _ _, fun y hy => ?_⟩
  rw [ent_mkT _ _ _ _ hx hy]
  have hb := hK.bd x hx
  have := h0 x hx
  have hp := (hA.perm (ix K x).toNat (by omega)).bd hy
  have := hT.bd (x := x) (y := (ix (row A (ix K x).toNat) y).toNat) (by omega) (by omega)
  unfold circF
  rw [hl] at this
  simp only [ent_def] at this ⊢
  exact this
theorem auto_few {T : List (List Int)} (hG : GroupOk T) (h6 : T.length ≤ 6) : (isoL T.length [T] [T]).length ≤ 216 := by
  have h1 := hG.1.1
  have hM : ∀ p, p ∈ isoL T.length [T] [T] → IsoOk T.length [T] [T] p := fun p hp => mem_isoL.1 hp
  have hne : (isoL T.length [T] [T]).Nodup := by
    have := sorted_isoL T.length [T] [T]
    refine this.imp fun h e => ?_
    obtain ⟨d, -, h2⟩ := h
    rw [e] at h2
    omega
  have ha : 1 ≤ (agrL T.length (isoL T.length [T] [T])).length := by
    have h0 : 0 ∈ agrL T.length (isoL T.length [T] [T]) := mem_agrL.2 ⟨h1, fun p hp q hq => by
      rw [(hM p hp).zero (by simp) (by rw [tab_one]; exact hG) (by rw [tab_one]; exact hG) (by rw [tab_one]) (by rw [tab_one]), (hM q hq).zero (by simp) (by rw [tab_one]; exact hG) (by rw [tab_one]; exact hG) (by rw [tab_one]) (by rw [tab_one])]⟩
    exact List.length_pos_of_mem h0
  have := few (az := [T]) (bz := [T]) (by simp) (by rw [tab_one]; exact hG) (by rw [tab_one]; exact hG) (by rw [tab_one]) (by rw [tab_one]) 3 _ hne hM (by omega)
  have h3 : T.length ^ 3 ≤ 6 ^ 3 := Nat.pow_le_pow_left h6 3
  omega
end Go.Proofs.YthlafeefjonkdaaGreatDoor


namespace Go.Proofs.YthlafeefjonkdaaGreatDoor
set_option linter.unusedVariables false
set_option linter.unusedSimpArgs false
open Go.RowKit
theorem kf_drew {w : World} {a : Addr} (h : w.frozen? a = false) : w.drew.frozen? a = false := h
theorem size_drew (w : World) : w.drew.heap.size = w.heap.size := rfl
theorem size_drewN (w : World) (n : Nat) : (w.drewN n).heap.size = w.heap.size := rfl
end Go.Proofs.YthlafeefjonkdaaGreatDoor


namespace Go.Proofs.YthlafeefjonkdaaGreatDoor
set_option linter.unusedVariables false
set_option linter.unusedSimpArgs false
open Go.RowKit

set_option maxRecDepth 100000 in
theorem slicesClone_any (l : List Int) (v : Value) (w : World) (hv : Ints w v l) :
    Calls Tryz.prog 27 #[v] w (NewI l w) := by
  obtain ⟨hlen, b, o, c, rfl, hc⟩ := hv
  have hx0 : Ext w (w.alloc (.cells #[] 2)) := (Ext.refl _).alloc _
  have hi0 := GrowI.lit (e := 2) (base := w.heap.size) (w := w) (Nat.le_refl _)
  have he : ∀ w : World, (binOp .eql 29 (.slice (some ⟨b, o, none⟩) l.length c) (.slice none 0 0)).run Tryz.prog w = .ok (.bool false) w := fun _ => rfl
  go_enter Tryz.func27, Tryz.ntmps27
  go_wp2_with (at_builtin; refine wpList_append_ints rfl _ _ 29 2 rfl Tryz.underlying29 infoInt w.heap.size _ _ rfl hi0 b o c l rfl (hc.ext hx0) (by simp) hlen (by simp) ?_)
  intro v' w3 hi3 hgr hv3
  have hx3 : Ext w w3 := hx0.grown hgr hi0 (Nat.le_refl _)
  obtain ⟨b3, c3, rfl, ho⟩ := hi3.own (fun h => by first | exact hv3 h | simpa using (hv3.1 h).1)
  go_wp2
  go_ret
  exact ⟨b3, c3, rfl, ho, hx3⟩

theorem l01Own_any (l : List Int) (v : Value) (w : World) (hv : Ints w v l) :
    Calls Tryz.prog 71 #[v] w (NewI l w) := by
  obtain ⟨hlen, b, o, c, rfl, hc⟩ := hv
  have hx0 : Ext w (w.alloc (.cells #[] 2)) := (Ext.refl _).alloc _
  have hi0 := GrowI.lit (e := 2) (base := w.heap.size) (w := w) (Nat.le_refl _)
  go_enter Tryz.func71, Tryz.ntmps71
  go_wp2_with (at_builtin; refine wpList_append_ints rfl _ _ 29 2 rfl Tryz.underlying29 infoInt w.heap.size _ _ rfl hi0 b o c l rfl (hc.ext hx0) (by simp) hlen (by simp) ?_)
  intro v' w3 hi3 hgr hv3
  have hx3 : Ext w w3 := hx0.grown hgr hi0 (Nat.le_refl _)
  obtain ⟨b3, c3, rfl, ho⟩ := hi3.own (fun h => by first | exact hv3 h | simpa using (hv3.1 h).1)
  go_wp2
  go_ret
  exact ⟨b3, c3, rfl, ho, hx3⟩

theorem cloneTable_any (t : List (List Int)) (v : Value) (w : World) (hv : Rows w v t) :
    Calls Tryz.prog 51 #[v] w (NewT t w) := by
  obtain ⟨hlen, b, o, c, rfl, hc⟩ := id hv
  have hmk := run_make_row' (P := Tryz.prog) 24 29 (.slice none 0 0) 24 Tryz.underlying24 infoSl rfl .i64 .i64 t.length (by omega) (by omega)
  go_enter Tryz.func51, Tryz.ntmps51
  go_wp2_with fail
  clear hmk
  have hx0 : Ext w (w.alloc (.cells (madeCells #[Value.slice none 0 0] t.length) 29)) := (Ext.refl _).alloc _
  have hr0 := World.rowIs_made w (.slice none 0 0) t.length 29
  go_loopw [11] (fun i wr => ∃ k : Nat, k ≤ t.length ∧ i = .int .i64 k ∧ Build wr w.heap.size 29 t.length k (row t) ∧ Ext w wr) (fun i _ => t.length - (intOf i).toNat)
  case atStart => exact ⟨0, Nat.zero_le _, rfl, Build.zero _ hr0, hx0⟩
  case round =>
    clear hx0 hr0
    obtain ⟨k, hk, rfl, hb, hx⟩ := hrel
    by_cases hlt : k < t.length
    · obtain ⟨b4, o4, c4, r4, i4, m4⟩ := (hc.ext hx).get hlt
      have e4 := i4.ints m4 c4
      clear i4
      go_wp2_with fail
      refine (slicesClone_any (row t k) _ _ e4).mono ?_
      rintro e w1 ⟨b1, c1, rfl, ho, hx1⟩
      have hb1 := hb.ext hx1
      have e2 := hb1.cell hlt (Nat.le_refl _)
      have e3 := hb1.frozen k
      go_wp2
      go_roundw
      case rel => exact ⟨k + 1, by omega, by go_num, hb.succ hx1 ho rfl, (hx.trans hx1).setNew (Nat.le_refl _) _⟩
      case measure => simp [intOf]; omega
    · go_wp2
      go_ret
      exact ⟨w.heap.size, t.length, rfl, hb.done (fun _ _ => rfl) (by omega) (Nat.le_refl _) (Nat.le_refl _) (Nat.le_refl _), hx⟩

end Go.Proofs.YthlafeefjonkdaaGreatDoor


namespace Go.Proofs.YthlafeefjonkdaaGreatDoor
set_option linter.unusedVariables false
set_option linter.unusedSimpArgs false
open Go.RowKit
attribute [local go_sem ↓] Go.wp_at_zero Go.wp_at_succ

def TabsAt (w : World) (b o : Nat) (ts : List (List (List Int))) : Prop := ∀ k, k < ts.length → ∃ r, w.cell? ⟨b, o + k, none⟩ = some r ∧ Rows w r (tab ts k)

def Tabs (w : World) (v : Value) (ts : List (List (List Int))) : Prop := ts.length ≤ 1048576 ∧ ∃ b o c, v = .slice (some ⟨b, o, none⟩) ts.length c ∧ TabsAt w b o ts
theorem TabsAt.ext {w w' : World} {b o : Nat} {ts : List (List (List Int))} (h : TabsAt w b o ts) (hx : Ext w w') : TabsAt w' b o ts := fun k hk => by
  obtain ⟨r, h1, h2⟩ := h k hk
  exact ⟨r, hx.cell h1, h2.ext hx⟩
theorem Tabs.ext {w w' : World} {v : Value} {ts : List (List (List Int))} (h : Tabs w v ts) (hx : Ext w w') : Tabs w' v ts := by
  obtain ⟨hl, b, o, c, rfl, hc⟩ := h
  exact ⟨hl, b, o, c, rfl, hc.ext hx⟩
theorem TabsAt.get {w : World} {b o : Nat} {ts : List (List (List Int))} (h : TabsAt w b o ts) {k : Nat} (hk : k < ts.length) :
    ∃ b1 o1 c1, w.cell? ⟨b, o + k, none⟩ = some (.slice (some ⟨b1, o1, none⟩) (tab ts k).length c1) ∧ RowsAt w b1 o1 (tab ts k) := by
  obtain ⟨r, h1, _, b1, o1, c1, rfl, h2⟩ := h k hk
  exact ⟨b1, o1, c1, h1, h2⟩

theorem TabsAt.read {w : World} {b o n : Nat} {ts : List (List (List Int))} (h : TabsAt w b o ts) (hT : TabsOk n ts) {k : Nat} (hk : k < ts.length) :
    ∃ b1 o1 c1, w.cell? ⟨b, o + k, none⟩ = some (.slice (some ⟨b1, o1, none⟩) n c1) ∧ ∀ x, x < n → ∃ b2 o2 c2, w.cell? ⟨b1, o1 + x, none⟩ = some (.slice (some ⟨b2, o2, none⟩) n c2) ∧ ∀ y, y < n → w.cell? ⟨b2, o2 + y, none⟩ = some (.int .i64 (ent (tab ts k) x y)) := by
  obtain ⟨b1, o1, c1, h1, h2⟩ := h.get hk
  obtain ⟨t1, t2⟩ := hT k hk
  rw [t2] at h1
  refine ⟨b1, o1, c1, h1, fun x hx => ?_⟩
  obtain ⟨b2, o2, c2, g1, g2, _⟩ := h2.get (i := x) (by omega)
  have hl := t1.len (x := x) (by omega)
  rw [hl, t2] at g1
  exact ⟨b2, o2, c2, g1, fun y hy => g2.ent (by rw [hl, t2]) hy⟩

set_option maxHeartbeats 400000 in
theorem l01Less_any (l m : List Int) (v u : Value) (w : World) (hv : Ints w v l) (hu : Ints w u m) :
    Calls Tryz.prog 110 #[v, u] w fun e w' => e = .returned (.bool (lessB l m)) ∧ Drawn w w' := by
  obtain ⟨hlen, b, o, c, rfl, hc⟩ := hv
  obtain ⟨hlen2, b2, o2, c2, rfl, hc2⟩ := hu
  go_enter Tryz.func110, Tryz.ntmps110
  go_wp2
  go_loopw [5] (fun i wr => ∃ k : Nat, k ≤ l.length ∧ k ≤ m.length ∧ i = .int .i64 k ∧ lessB l m = lessB (l.drop k) (m.drop k) ∧ Drawn w wr) (fun i _ => l.length - (intOf i).toNat)
  case atStart => exact ⟨0, Nat.zero_le _, Nat.zero_le _, rfl, rfl, Drawn.refl w⟩
  case round =>
    obtain ⟨k, hk, hk2, rfl, he, hd⟩ := hrel
    have HE := Lib.hid he
    clear he
    by_cases h1 : k < l.length
    · by_cases h2 : k < m.length
      · have e1 := (hc.ext hd.ext) k h1
        have e2 := (hc2.ext hd.ext) k h2
        have HA := Lib.hid (lessB_at l m k h1 h2)
        by_cases hne : ix l k = ix m k
        · have hb : (ix l k != ix m k) = false := by simp [hne]
          have HN := Lib.hid hne
          clear hne
          go_wp2
          go_quiet (fail)
          go_wp2
          go_roundw
          case rel => exact ⟨k + 1, by omega, by omega, by go_num, by rw [HE.out, HA.out, if_pos HN.out], hd.drewN _⟩
          case measure => simp [intOf]; omega
        · have hb : (ix l k != ix m k) = true := by simp [hne]
          have HN := Lib.hid hne
          clear hne
          go_wp2
          go_quiet (fail)
          go_wp2
          go_quiet (fail)
          go_wp2
          go_ret
          exact ⟨ret_bool (by rw [HE.out, HA.out, if_neg HN.out]), (hd.drewN _).drewN _⟩
      · have HA := Lib.hid (lessB_end l m k hk hk2 (by omega))
        go_wp2
        go_ret
        exact ⟨ret_bool (by rw [HE.out, HA.out]), hd⟩
    · have HA := Lib.hid (lessB_end l m k hk hk2 (by omega))
      go_wp2
      go_ret
      exact ⟨ret_bool (by rw [HE.out, HA.out]), hd⟩

end Go.Proofs.YthlafeefjonkdaaGreatDoor


namespace Go.Proofs.YthlafeefjonkdaaGreatDoor
set_option linter.unusedVariables false
set_option linter.unusedSimpArgs false
open Go.RowKit

theorem isNaN_any (a : Int) (w : World) : Calls Tryz.prog 145 #[.int .i64 a] w fun e w' => e = .returned (.bool false) ∧ w = w' := by
  have hb : (a != a) = false := by simp
  go_enter Tryz.func145, Tryz.ntmps145
  go_wp2
  go_ret
  exact ⟨rfl, rfl⟩

theorem cmpCompare_any (a b : Int) (w : World) : Calls Tryz.prog 136 #[.int .i64 a, .int .i64 b] w fun e w' => e = .returned (.int .i64 (cmpI a b)) ∧ w = w' := by
  unfold cmpI
  by_cases h : a < b
  · rw [if_pos h]
    go_enter Tryz.func136, Tryz.ntmps136
    go_wp2_with (go_at_call 145; refine (isNaN_any _ _).mono ?_; rintro e w' ⟨rfl, rfl⟩)
    go_ret
    exact ⟨rfl, rfl⟩
  · rw [if_neg h]
    by_cases h2 : b < a
    · rw [if_pos h2]
      go_enter Tryz.func136, Tryz.ntmps136
      go_wp2_with (go_at_call 145; refine (isNaN_any _ _).mono ?_; rintro e w' ⟨rfl, rfl⟩)
      go_ret
      exact ⟨rfl, rfl⟩
    · rw [if_neg h2]
      go_enter Tryz.func136, Tryz.ntmps136
      go_wp2_with (go_at_call 145; refine (isNaN_any _ _).mono ?_; rintro e w' ⟨rfl, rfl⟩)
      go_ret
      exact ⟨rfl, rfl⟩

theorem slicesCompare_any (l m : List Int) (v u : Value) (w : World) (hv : Ints w v l) (hu : Ints w u m) :
    Calls Tryz.prog 115 #[v, u] w fun e w' => e = .returned (.int .i64 (cmpL l m)) ∧ w = w' := by
  obtain ⟨hl1, b1, o1, c1, rfl, hc1⟩ := hv
  obtain ⟨hl2, b2, o2, c2, rfl, hc2⟩ := hu
  have h0 := cmpLF_zero l m
  have H0 := Lib.hid h0
  clear h0
  go_enter Tryz.func115, Tryz.ntmps115
  go_wp2
  go_loop [11] (fun i => ∃ k : Nat, k ≤ l.length ∧ i = .int .i64 k ∧ cmpL l m = cmpLF l m k) (fun i => l.length - (intOf i).toNat)
  case atStart => exact ⟨0, Nat.zero_le _, rfl, H0.out⟩
  case round =>
    clear H0
    obtain ⟨k, hk, rfl, hr⟩ := hrel
    have HR := Lib.hid hr
    clear hr
    by_cases hlt : k < l.length
    · have e1 := hc1 k hlt
      by_cases hlm : k < m.length
      · have e2 := hc2 k hlm
        cases hz : (cmpI (ix l k) (ix m k) != 0) with
        | true =>
          go_wp2_with (go_at_call 136; refine (cmpCompare_any _ _ _).mono ?_; rintro e w' ⟨rfl, rfl⟩)
          go_ret
          exact ⟨ret_int (by rw [HR.out, cmpLF_ne hlt hlm (by simpa using hz)]), rfl⟩
        | false =>
          go_wp2_with (go_at_call 136; refine (cmpCompare_any _ _ _).mono ?_; rintro e w' ⟨rfl, rfl⟩)
          go_round
          case rel => exact ⟨k + 1, by omega, by go_num, by rw [HR.out, cmpLF_eq hlt hlm (by simpa using hz)]⟩
          case measure => simp [intOf]; omega
      · go_wp2
        go_ret
        exact ⟨ret_int (by rw [HR.out, cmpLF_more hlt (by omega)]), rfl⟩
    · by_cases hlm : l.length < m.length
      · go_wp2
        go_ret
        exact ⟨ret_int (by rw [HR.out, cmpLF_less (by omega) (by omega)]), rfl⟩
      · go_wp2
        go_ret
        exact ⟨ret_int (by rw [HR.out, cmpLF_end (by omega) (by omega)]), rfl⟩

theorem compareTables1_any (l m : List Int) (v u : Value) (w : World) (hv : Ints w v l) (hu : Ints w u m) :
    Calls Tryz.prog 114 #[v, u] w fun e w' => e = .returned (.int .i64 (cmpL l m)) ∧ w = w' := by
  go_enter Tryz.func114, Tryz.ntmps114
  go_wp2_with (go_at_call 115; refine (slicesCompare_any l m _ _ _ hv hu).mono ?_; rintro e w' ⟨rfl, rfl⟩)
  go_ret
  exact ⟨rfl, rfl⟩

theorem callCompareTables1 (args : Array Value) (w : World) : (callFunc 114 args).run Tryz.prog w = .ok (.enter 114 args) w :=
  callFunc_enter Tryz.func114 (by kernel_rfl) rfl args w

theorem compareFunc_any (s t : List (List Int)) (v u : Value) (w : World) (hv : Rows w v s) (hu : Rows w u t) :
    Calls Tryz.prog 113 #[v, u, .func (.func 114) #[] #[]] w fun e w' => e = .returned (.int .i64 (cmpT s t)) ∧ w = w' := by
  obtain ⟨hl1, b1, o1, c1, rfl, hc1⟩ := hv
  obtain ⟨hl2, b2, o2, c2, rfl, hc2⟩ := hu
  have h0 := cmpTF_zero s t
  have H0 := Lib.hid h0
  clear h0
  have hcall := callCompareTables1
  go_enter Tryz.func113, Tryz.ntmps113
  go_wp2
  go_loop [13] (fun i => ∃ k : Nat, k ≤ s.length ∧ i = .int .i64 k ∧ cmpT s t = cmpTF s t k) (fun i => s.length - (intOf i).toNat)
  case atStart => exact ⟨0, Nat.zero_le _, rfl, H0.out⟩
  case round =>
    clear H0
    obtain ⟨k, hk, rfl, hr⟩ := hrel
    have HR := Lib.hid hr
    clear hr
    by_cases hlt : k < s.length
    · obtain ⟨d1, p1, q1, g1, i1, m1⟩ := hc1.get hlt
      have j1 := i1.ints m1 q1
      clear i1
      by_cases hlm : k < t.length
      · obtain ⟨d2, p2, q2, g2, i2, m2⟩ := hc2.get hlm
        have j2 := i2.ints m2 q2
        clear i2
        cases hz : (cmpL (row s k) (row t k) != 0) with
        | true =>
          go_wp2_with (refine (compareTables1_any (row s k) (row t k) _ _ _ j1 j2).mono ?_; rintro e w' ⟨rfl, rfl⟩)
          go_ret
          exact ⟨ret_int (by rw [HR.out, cmpTF_ne hlt hlm (by simpa using hz)]), rfl⟩
        | false =>
          go_wp2_with (refine (compareTables1_any (row s k) (row t k) _ _ _ j1 j2).mono ?_; rintro e w' ⟨rfl, rfl⟩)
          go_round
          case rel => exact ⟨k + 1, by omega, by go_num, by rw [HR.out, cmpTF_eq hlt hlm (by simpa using hz)]⟩
          case measure => simp [intOf]; omega
      · go_wp2
        go_ret
        exact ⟨ret_int (by rw [HR.out, cmpTF_more hlt (by omega)]), rfl⟩
    · by_cases hlm : s.length < t.length
      · go_wp2
        go_ret
        exact ⟨ret_int (by rw [HR.out, cmpTF_less (by omega) (by omega)]), rfl⟩
      · go_wp2
        go_ret
        exact ⟨ret_int (by rw [HR.out, cmpTF_end (by omega) (by omega)]), rfl⟩

theorem compareTables_any (s t : List (List Int)) (v u : Value) (w : World) (hv : Rows w v s) (hu : Rows w u t) :
    Calls Tryz.prog 88 #[v, u] w fun e w' => e = .returned (.int .i64 (cmpT s t)) ∧ w = w' := by
  go_enter Tryz.func88, Tryz.ntmps88
  go_wp2_with (go_at_call 113; refine (compareFunc_any s t _ _ _ hv hu).mono ?_; rintro e w' ⟨rfl, rfl⟩)
  go_ret
  exact ⟨rfl, rfl⟩

end Go.Proofs.YthlafeefjonkdaaGreatDoor


namespace Go.Proofs.YthlafeefjonkdaaGreatDoor
set_option linter.unusedVariables false
set_option linter.unusedSimpArgs false
open Go.RowKit

/-! ### the socle -/
def SocTo (t u : List (List Int)) (x k : Nat) : Prop := ∀ y, y < k → ent u x y = ent t x y ∧ ent t x y = ent t y x
instance (t u x k) : Decidable (SocTo t u x k) := by unfold SocTo; infer_instance
end Go.Proofs.YthlafeefjonkdaaGreatDoor


namespace Go.Proofs.YthlafeefjonkdaaGreatDoor
set_option linter.unusedVariables false
set_option linter.unusedSimpArgs false
open Go.RowKit

theorem l01Column_any (t : List (List Int)) (v : Value) (x : Nat) (w : World) (hv : Rows w v t) (hT : TableOk t) (hx : x < t.length) :
    Calls Tryz.prog 91 #[v, .int .i64 x] w fun e w' => ∃ b c, e = .returned (.slice (some ⟨b, 0, none⟩) t.length c) ∧ IntsAt w' b 0 (row (turnT t) x) ∧ w.heap.size ≤ b ∧ b < w'.heap.size ∧ Ext w w' := by
  obtain ⟨hlen, b, o, c, rfl, hc⟩ := id hv
  have hrl := length_row_turnT t x hx
  have HRL := Lib.hid hrl
  clear hrl
  go_enter Tryz.func91, Tryz.ntmps91
  go_wp2
  have hx0 : Ext w (w.alloc (.cells #[] 2)) := (Ext.refl _).alloc _
  have hg0 := GrowI.lit (e := 2) (base := w.heap.size) (w := w) (Nat.le_refl _)
  go_loopw [5, 6] (fun v y wr => ∃ j : Nat, j ≤ t.length ∧ y = .int .i64 j ∧ GrowI 2 w.heap.size wr v ((row (turnT t) x).take j) ∧ v ≠ .slice none 0 0 ∧ Ext w wr) (fun _ y _ => t.length - (intOf y).toNat)
  case atStart => exact ⟨0, Nat.zero_le _, rfl, hg0, by simp, hx0⟩
  case round =>
    clear hx0 hg0
    obtain ⟨j, hj, rfl, hi, hvr, hx2⟩ := hrel
    have HVR := Lib.hid hvr
    clear hvr
    by_cases hjl : j < t.length
    case neg =>
      have hta : (row (turnT t) x).take j = row (turnT t) x := List.take_of_length_le (by rw [HRL.out]; omega)
      rw [hta] at hi
      obtain ⟨br, cr, rfl, hri, hrb, hrb2⟩ := hi.row HVR.out
      rw [HRL.out]
      go_wp2
      go_ret
      exact ⟨br, cr, rfl, hri, hrb, hrb2, hx2⟩
    case pos =>
      obtain ⟨b1, o1, c1, hr, hc1, hl1⟩ := (hc.ext hx2).get hjl
      have f1 := hc1.ent (hT.len hjl) hx
      rw [hT.len hjl] at hr
      clear hc1
      have hlj : ((row (turnT t) x).take j).length = j := by rw [List.length_take, HRL.out]; omega
      have HLJ := Lib.hid hlj
      clear hlj
      go_wp2_with (at_builtin; refine wpList_append_int rfl _ _ 29 2 rfl Tryz.underlying29 infoInt w.heap.size _ _ rfl (hi.alloc _) _ _ rfl (cell_new _ _ _) (by rw [HLJ.out]; omega) (by have := hx2.size; simp; omega) ?_)
      intro v' w3 hi3 hgr hv3
      have hx3 : Ext w w3 := (hx2.trans (ext_box _ _ _)).grown hgr (hi.alloc _) (Nat.le_refl _)
      clear hgr
      go_wp2
      go_roundw
      case rel => exact ⟨j + 1, by omega, by go_num, by
        rw [take_ix _ _ (by rw [HRL.out]; exact hjl), ent_def, ent_turnT t x j hx hjl]; exact hi3, hv3, hx3⟩
      case measure => simp [intOf]; omega

end Go.Proofs.YthlafeefjonkdaaGreatDoor


namespace Go.Proofs.YthlafeefjonkdaaGreatDoor
set_option linter.unusedVariables false
set_option linter.unusedSimpArgs false
open Go.RowKit

theorem ints3 (w : World) (x y z : Int) (T : Nat) : IntsAt (w.alloc (.cells #[.int .i64 x, .int .i64 y, .int .i64 z] T)) w.heap.size 0 [x, y, z] := fun i hi => by
  rw [ix_eq]
  match i, hi with
  | 0, _ => simp [go_sem]
  | 1, _ => simp [go_sem]
  | 2, _ => simp [go_sem]
theorem own3 (w : World) (x y z : Int) (T : Nat) : OwnI w.heap.size (w.heap.size + 1) (w.alloc (.cells #[.int .i64 x, .int .i64 y, .int .i64 z] T)) w.heap.size 0 [x, y, z] :=
  ⟨Nat.le_refl _, by omega, ints3 w x y z T, fun i _ => by simp [go_sem]⟩

set_option maxRecDepth 100000 in
set_option maxHeartbeats 1000000 in
theorem l11Fault_any (t u : List (List Int)) (v y : Value) (w : World) (hv : Rows w v t) (hy : Rows w y u) (hG : GroupOk t) (hU : GroupOk u) (hl : t.length = u.length) :
    Calls Tryz.prog 43 #[.agg #[v, y]] w fun e w' => ∃ v, e = .returned v ∧ (∃ a c, v = .slice a (faultL t u).length c) ∧ IntsR w' v (faultL t u) ∧ Ext w w' := by
  obtain ⟨hlen, b, o, c, rfl, hc⟩ := id hv
  obtain ⟨hlen2, b2, o2, c2, rfl, hc2⟩ := id hy
  have h12 := hG.1.2.1
  have HT := Lib.hid hG
  have HU := Lib.hid hU
  have HB := Lib.hid (fun x (hx : x < t.length) => backF_ok hG hx)
  clear hG hU
  rw [← hl]
  have HL := Lib.hid hl
  clear hl
  have hx0 := ext_boxB w (.slice (some ⟨b, o, none⟩) t.length c) (.slice (some ⟨b2, o2, none⟩) t.length c2) 26
  have k0 := cell_new2a w (.slice (some ⟨b, o, none⟩) t.length c) (.slice (some ⟨b2, o2, none⟩) t.length c2) 26
  have k1 := cell_new2b w (.slice (some ⟨b, o, none⟩) t.length c) (.slice (some ⟨b2, o2, none⟩) t.length c2) 26
  go_enter Tryz.func43, Tryz.ntmps43
  go_wp2
  generalize (w.alloc (.cells #[.slice (some ⟨b, o, none⟩) t.length c, .slice (some ⟨b2, o2, none⟩) t.length c2] 26)) = A at *
  go_loopw [4] (fun i wr => ∃ x : Nat, x ≤ t.length ∧ i = .int .i64 x ∧ NoX t u x ∧ Ext A wr) (fun i _ => t.length - (intOf i).toNat)
  case atStart => exact ⟨0, Nat.zero_le _, rfl, NoX.zero t u, Ext.refl _⟩
  case round =>
    obtain ⟨x, hx, rfl, hno, hxA⟩ := hrel
    have HX := Lib.hid hno
    clear hno
    have j0 := hxA.cell k0
    have j1 := hxA.cell k1
    by_cases hxl : x < t.length
    case neg =>
      go_wp2
      go_ret
      have hxx : x = t.length := by omega
      subst hxx
      rw [faultL_none HX.out]
      exact ⟨_, rfl, ⟨none, 0, rfl⟩, IntsR.nil _ _, hx0.trans hxA⟩
    case pos =>
      obtain ⟨w2, rfl⟩ : ∃ w2 : World, w2 = wr := ⟨_, rfl⟩
      have hb := HB.out x hxl
      go_wp2_with (go_at_call 70; refine (l10Back_any t _ x _ (hv.ext (hx0.trans hxA)) hxl).mono ?_; rintro e w' ⟨rfl, rfl⟩)
      go_loopw [6] (fun i wr => ∃ y : Nat, y ≤ t.length ∧ i = .int .i64 y ∧ NoY t u x y ∧ Ext w2 wr) (fun i _ => t.length - (intOf i).toNat)
      case atStart => exact ⟨0, Nat.zero_le _, rfl, NoY.zero t u x, Ext.refl _⟩
      case round =>
        obtain ⟨y, hyy, rfl, hno, hxB⟩ := hrel
        have HY := Lib.hid hno
        clear hno
        by_cases hyl : y < t.length
        case neg =>
          go_wp2
          go_roundw
          case rel =>
            have hyy : y = t.length := by omega
            subst hyy
            exact ⟨x + 1, by omega, by go_num, HX.out.succ HY.out, hxA.trans hxB⟩
          case measure => simp [intOf]; omega
        case pos =>
          obtain ⟨w3, rfl⟩ : ∃ w3 : World, w3 = wr := ⟨_, rfl⟩
          go_wp2
          go_loopw [7] (fun i wr => ∃ z : Nat, z ≤ t.length ∧ i = .int .i64 z ∧ NoZ t u x y z ∧ Ext w3 wr) (fun i _ => t.length - (intOf i).toNat)
          case atStart => exact ⟨0, Nat.zero_le _, rfl, NoZ.zero t u x y, Ext.refl _⟩
          case round =>
            obtain ⟨z, hzz, rfl, hno, hxC⟩ := hrel
            have HZ := Lib.hid hno
            clear hno
            by_cases hzl : z < t.length
            case neg =>
              go_wp2
              go_roundw
              case rel =>
                have hzz : z = t.length := by omega
                subst hzz
                exact ⟨y + 1, by omega, by go_num, HY.out.succ HZ.out, hxB.trans hxC⟩
              case measure => simp [intOf]; omega
            case pos =>
              have hXC := (hx0.trans hxA).trans (hxB.trans hxC)
              have i0 := (hxB.trans hxC).cell j0
              have i1 := (hxB.trans hxC).cell j1
              have p := HT.out.1.bd hyl hzl
              have q := HU.out.1.bd (x := x) (y := y) (by have := HL.out; omega) (by have := HL.out; omega)
              rw [← HL.out] at q
              obtain ⟨d1, s1, m1, r1, l1, -⟩ := (hc2.ext hXC).get (i := x) (by have := HL.out; omega)
              obtain ⟨d2, s2, m2, r2, l2, -⟩ := (hc.ext hXC).get (i := y) (by omega)
              obtain ⟨d3, s3, m3, r3, l3, -⟩ := (hc.ext hXC).get (i := (ent u x y).toNat) (by omega)
              have g := HT.out.1.bd (x := (ent u x y).toNat) (y := (backF t x).toNat) (by omega) (by omega)
              obtain ⟨d4, s4, m4, r4, l4, -⟩ := (hc.ext hXC).get (i := (ent t (ent u x y).toNat (backF t x).toNat).toNat) (by omega)
              have qz := HU.out.1.bd (x := x) (y := z) (by have := HL.out; omega) (by have := HL.out; omega)
              rw [← HL.out] at qz
              have lx := HU.out.1.len (x := x) (by have := HL.out; omega)
              rw [← HL.out] at lx
              have f1 := l1.ent lx (y := y) (by omega)
              have f2 := l1.ent lx (y := z) (by omega)
              have f3 := l2.ent (HT.out.1.len (x := y) (by omega)) (y := z) (by omega)
              have f4 := l1.ent lx (y := (ent t y z).toNat) (by omega)
              have f5 := l3.ent (HT.out.1.len (x := (ent u x y).toNat) (by omega)) (y := (backF t x).toNat) (by omega)
              have f6 := l4.ent (HT.out.1.len (x := (ent t (ent u x y).toNat (backF t x).toNat).toNat) (by omega)) (y := (ent u x z).toNat) (by omega)
              rw [lx] at r1
              rw [HT.out.1.len (x := y) (by omega)] at r2
              rw [HT.out.1.len (x := (ent u x y).toNat) (by omega)] at r3
              rw [HT.out.1.len (x := (ent t (ent u x y).toNat (backF t x).toNat).toNat) (by omega)] at r4
              rw [leftF_def] at f4
              rw [rightF_def] at f6
              clear l1 l2 l3 l4 lx
              cases hne : (leftF t u x y z != rightF t u x y z) with
              | true =>
                go_wp2
                go_quiet (fail)
                go_wp2
                go_quiet (fail)
                go_wp2
                go_ret
                rw [faultL_at hxl hyl hzl (by simpa using hne) HX.out HY.out HZ.out]
                exact ⟨_, rfl, ⟨_, _, rfl⟩, ⟨_, _, rfl, fun _ => ⟨_, _, rfl, ints3 _ _ _ _ _⟩⟩, (hXC.drewN _).alloc _⟩
              | false =>
                go_wp2
                go_quiet (fail)
                go_wp2
                go_quiet (fail)
                go_wp2
                go_roundw
                case rel => exact ⟨z + 1, by omega, by go_num, HZ.out.succ (by simpa using hne), hxC.drewN _⟩
                case measure => simp [intOf]; omega

def FaultV (t u : List (List Int)) (w : World) (e : Ending) (w' : World) : Prop :=
  ∃ v, e = .returned v ∧ OwnIV w.heap.size w'.heap.size w' v (faultL t u) ∧ ((faultL t u = [] ∧ v = .slice none 0 0) ∨ ((faultL t u).length = 3 ∧ ∃ b c, v = .slice (some ⟨b, 0, none⟩) 3 c)) ∧ Ext w w'

set_option maxRecDepth 100000 in
set_option maxHeartbeats 1000000 in
theorem braceFault_any (t u : List (List Int)) (v y : Value) (w : World) (hv : Rows w v t) (hy : Rows w y u) (hG : GroupOk t) (hU : GroupOk u) (hl : t.length = u.length) :
    Calls Tryz.prog 46 #[.agg #[v, y]] w (FaultV t u w) := by
  obtain ⟨hlen, b, o, c, rfl, hc⟩ := id hv
  obtain ⟨hlen2, b2, o2, c2, rfl, hc2⟩ := id hy
  have h12 := hG.1.2.1
  have HT := Lib.hid hG
  have HU := Lib.hid hU
  have HB := Lib.hid (fun x (hx : x < t.length) => backF_ok hG hx)
  clear hG hU
  rw [← hl]
  have HL := Lib.hid hl
  clear hl
  have hx0 := ext_boxB w (.slice (some ⟨b, o, none⟩) t.length c) (.slice (some ⟨b2, o2, none⟩) t.length c2) 26
  have k0 := cell_new2a w (.slice (some ⟨b, o, none⟩) t.length c) (.slice (some ⟨b2, o2, none⟩) t.length c2) 26
  have k1 := cell_new2b w (.slice (some ⟨b, o, none⟩) t.length c) (.slice (some ⟨b2, o2, none⟩) t.length c2) 26
  go_enter Tryz.func46, Tryz.ntmps46
  go_wp2_with fail
  generalize (w.alloc (.cells #[.slice (some ⟨b, o, none⟩) t.length c, .slice (some ⟨b2, o2, none⟩) t.length c2] 26)) = A0 at *
  refine (groupInverses_any t _ _ (hv.ext hx0)).mono ?_
  rintro e A ⟨bb, cb, rfl, hib, hxb⟩
  replace k0 := hxb.cell k0
  replace k1 := hxb.cell k1
  replace hx0 := hx0.trans hxb
  clear hxb
  go_wp2
  go_loopw [15] (fun i wr => ∃ x : Nat, x ≤ t.length ∧ i = .int .i64 x ∧ NoX t u x ∧ Ext A wr) (fun i _ => t.length - (intOf i).toNat)
  case atStart => exact ⟨0, Nat.zero_le _, rfl, NoX.zero t u, Ext.refl _⟩
  case round =>
    obtain ⟨x, hx, rfl, hno, hxA⟩ := hrel
    have HX := Lib.hid hno
    clear hno
    have j0 := hxA.cell k0
    have j1 := hxA.cell k1
    by_cases hxl : x < t.length
    case neg =>
      go_wp2
      go_ret
      have hxx : x = t.length := by omega
      subst hxx
      have hf := faultL_none HX.out
      refine ⟨_, rfl, ?_, .inl ⟨hf, rfl⟩, hx0.trans hxA⟩
      rw [hf]; exact OwnIV.nil _ _ _
    case pos =>
      obtain ⟨w2, rfl⟩ : ∃ w2 : World, w2 = wr := ⟨_, rfl⟩
      have hb := HB.out x hxl
      go_wp2
      go_loopw [19] (fun i wr => ∃ y : Nat, y ≤ t.length ∧ i = .int .i64 y ∧ NoY t u x y ∧ Ext w2 wr) (fun i _ => t.length - (intOf i).toNat)
      case atStart => exact ⟨0, Nat.zero_le _, rfl, NoY.zero t u x, Ext.refl _⟩
      case round =>
        obtain ⟨y, hyy, rfl, hno, hxB⟩ := hrel
        have HY := Lib.hid hno
        clear hno
        by_cases hyl : y < t.length
        case neg =>
          go_wp2
          go_roundw
          case rel =>
            have hyy : y = t.length := by omega
            subst hyy
            exact ⟨x + 1, by omega, by go_num, HX.out.succ HY.out, hxA.trans hxB⟩
          case measure => simp [intOf]; omega
        case pos =>
          obtain ⟨w3, rfl⟩ : ∃ w3 : World, w3 = wr := ⟨_, rfl⟩
          go_wp2
          go_loopw [23] (fun i wr => ∃ z : Nat, z ≤ t.length ∧ i = .int .i64 z ∧ NoZ t u x y z ∧ Ext w3 wr) (fun i _ => t.length - (intOf i).toNat)
          case atStart => exact ⟨0, Nat.zero_le _, rfl, NoZ.zero t u x y, Ext.refl _⟩
          case round =>
            obtain ⟨z, hzz, rfl, hno, hxC⟩ := hrel
            have HZ := Lib.hid hno
            clear hno
            by_cases hzl : z < t.length
            case neg =>
              go_wp2
              go_roundw
              case rel =>
                have hzz : z = t.length := by omega
                subst hzz
                exact ⟨y + 1, by omega, by go_num, HY.out.succ HZ.out, hxB.trans hxC⟩
              case measure => simp [intOf]; omega
            case pos =>
              have hXC := (hx0.trans hxA).trans (hxB.trans hxC)
              have i0 := (hxB.trans hxC).cell j0
              have i1 := (hxB.trans hxC).cell j1
              have ib := (hib.ext (hxA.trans (hxB.trans hxC))) x (by rw [length_backs]; exact hxl)
              rw [ix_backs _ _ hxl, Nat.zero_add] at ib
              have p := HT.out.1.bd hyl hzl
              have q := HU.out.1.bd (x := x) (y := y) (by have := HL.out; omega) (by have := HL.out; omega)
              rw [← HL.out] at q
              obtain ⟨d1, s1, m1, r1, l1, -⟩ := (hc2.ext hXC).get (i := x) (by have := HL.out; omega)
              obtain ⟨d2, s2, m2, r2, l2, -⟩ := (hc.ext hXC).get (i := y) (by omega)
              obtain ⟨d3, s3, m3, r3, l3, -⟩ := (hc.ext hXC).get (i := (ent u x y).toNat) (by omega)
              have g := HT.out.1.bd (x := (ent u x y).toNat) (y := (backF t x).toNat) (by omega) (by omega)
              obtain ⟨d4, s4, m4, r4, l4, -⟩ := (hc.ext hXC).get (i := (ent t (ent u x y).toNat (backF t x).toNat).toNat) (by omega)
              have qz := HU.out.1.bd (x := x) (y := z) (by have := HL.out; omega) (by have := HL.out; omega)
              rw [← HL.out] at qz
              have lx := HU.out.1.len (x := x) (by have := HL.out; omega)
              rw [← HL.out] at lx
              have f1 := l1.ent lx (y := y) (by omega)
              have f2 := l1.ent lx (y := z) (by omega)
              have f3 := l2.ent (HT.out.1.len (x := y) (by omega)) (y := z) (by omega)
              have f4 := l1.ent lx (y := (ent t y z).toNat) (by omega)
              have f5 := l3.ent (HT.out.1.len (x := (ent u x y).toNat) (by omega)) (y := (backF t x).toNat) (by omega)
              have f6 := l4.ent (HT.out.1.len (x := (ent t (ent u x y).toNat (backF t x).toNat).toNat) (by omega)) (y := (ent u x z).toNat) (by omega)
              rw [lx] at r1
              rw [HT.out.1.len (x := y) (by omega)] at r2
              rw [HT.out.1.len (x := (ent u x y).toNat) (by omega)] at r3
              rw [HT.out.1.len (x := (ent t (ent u x y).toNat (backF t x).toNat).toNat) (by omega)] at r4
              rw [leftF_def] at f4
              rw [rightF_def] at f6
              clear l1 l2 l3 l4 lx
              cases hne : (leftF t u x y z != rightF t u x y z) with
              | true =>
                go_wp2
                go_quiet (fail)
                go_wp2
                go_ret
                have hf := faultL_at hxl hyl hzl (by simpa using hne) HX.out HY.out HZ.out
                have hsz := hXC.size
                refine ⟨_, rfl, ?_, .inr ⟨by rw [hf]; rfl, _, _, rfl⟩, (hXC.drewN _).alloc _⟩
                rw [hf]
                exact ⟨by simp, _, _, rfl, fun _ => ⟨_, _, rfl, (own3 _ _ _ _ _).mono (by simpa using hsz) (by simp)⟩⟩
              | false =>
                go_wp2
                go_quiet (fail)
                go_wp2
                go_roundw
                case rel => exact ⟨z + 1, by omega, by go_num, HZ.out.succ (by simpa using hne), hxC.drewN _⟩
                case measure => simp [intOf]; omega
end Go.Proofs.YthlafeefjonkdaaGreatDoor


namespace Go.Proofs.YthlafeefjonkdaaGreatDoor
set_option linter.unusedVariables false
set_option linter.unusedSimpArgs false
open Go.RowKit

set_option maxRecDepth 1000000 in
theorem eqNil0 (w : World) : (binOp .eql 29 (.slice none 0 0) (.slice none 0 0)).run Tryz.prog w = .ok (.bool true) w := rfl
set_option maxRecDepth 1000000 in
theorem eqNil1 (b n c : Nat) (w : World) : (binOp .eql 29 (.slice (some ⟨b, 0, none⟩) n c) (.slice none 0 0)).run Tryz.prog w = .ok (.bool false) w := rfl

set_option maxRecDepth 100000 in
theorem areBraceTables_any (t u : List (List Int)) (v y : Value) (w : World) (hv : Rows w v t) (hy : Rows w y u) :
    Calls Tryz.prog 45 #[.agg #[v, y]] w fun e w' => e = .returned (.bool (twoB t u)) ∧ Ext w w' := by
  obtain ⟨hlen, b, o, c, rfl, hc⟩ := id hv
  obtain ⟨hlen2, b2, o2, c2, rfl, hc2⟩ := id hy
  have hx0 := ext_boxB w (.slice (some ⟨b, o, none⟩) t.length c) (.slice (some ⟨b2, o2, none⟩) u.length c2) 26
  have k0 := cell_new2a w (.slice (some ⟨b, o, none⟩) t.length c) (.slice (some ⟨b2, o2, none⟩) u.length c2) 26
  have k1 := cell_new2b w (.slice (some ⟨b, o, none⟩) t.length c) (.slice (some ⟨b2, o2, none⟩) u.length c2) 26
  cases hg : groupB t with
  | false =>
    rw [twoB_1 hg]
    go_enter Tryz.func45, Tryz.ntmps45
    go_wp2_with fail
    refine (isGroupTable_any t _ _ (hv.ext hx0)).mono ?_
    rintro e w1 ⟨rfl, hx1⟩
    rw [hg]
    go_wp2
    go_ret
    exact ⟨rfl, hx0.trans hx1⟩
  | true =>
    cases hg2 : groupB u with
    | false =>
      rw [twoB_2 hg2]
      go_enter Tryz.func45, Tryz.ntmps45
      go_wp2_with fail
      refine (isGroupTable_any t _ _ (hv.ext hx0)).mono ?_
      rintro e w1 ⟨rfl, hx1⟩
      rw [hg]
      have j1 := hx1.cell k1
      go_wp2_with fail
      refine (isGroupTable_any u _ _ (hy.ext (hx0.trans hx1))).mono ?_
      rintro e w2 ⟨rfl, hx2⟩
      rw [hg2]
      go_wp2
      go_ret
      exact ⟨rfl, (hx0.trans hx1).trans hx2⟩
    | true =>
      cases hl : ((t.length : Int) == (u.length : Int)) with
      | false =>
        rw [twoB_3 (fun h => by rw [h] at hl; simp at hl)]
        go_enter Tryz.func45, Tryz.ntmps45
        go_wp2_with fail
        refine (isGroupTable_any t _ _ (hv.ext hx0)).mono ?_
        rintro e w1 ⟨rfl, hx1⟩
        rw [hg]
        have j0 := hx1.cell k0
        have j1 := hx1.cell k1
        go_wp2_with fail
        refine (isGroupTable_any u _ _ (hy.ext (hx0.trans hx1))).mono ?_
        rintro e w2 ⟨rfl, hx2⟩
        rw [hg2]
        have i0 := hx2.cell j0
        have i1 := hx2.cell j1
        go_wp2
        go_ret
        exact ⟨rfl, (hx0.trans hx1).trans hx2⟩
      | true =>
        rw [twoB_yes hg hg2 (by have := eq_of_beq hl; omega)]
        go_enter Tryz.func45, Tryz.ntmps45
        go_wp2_with fail
        refine (isGroupTable_any t _ _ (hv.ext hx0)).mono ?_
        rintro e w1 ⟨rfl, hx1⟩
        rw [hg]
        have j0 := hx1.cell k0
        have j1 := hx1.cell k1
        go_wp2_with fail
        refine (isGroupTable_any u _ _ (hy.ext (hx0.trans hx1))).mono ?_
        rintro e w2 ⟨rfl, hx2⟩
        rw [hg2]
        have i0 := hx2.cell j0
        have i1 := hx2.cell j1
        go_wp2
        go_ret
        exact ⟨rfl, (hx0.trans hx1).trans hx2⟩

set_option maxRecDepth 100000 in
theorem IsBrace_impl (t u : List (List Int)) (v y : Value) (w : World) (hv : Rows w v t) (hy : Rows w y u) :
    Calls Tryz.prog 25 #[.agg #[v, y]] w fun e w' => e = .returned (.bool (braceB t u)) ∧ Ext w w' := by
  obtain ⟨hlen, b, o, c, rfl, hc⟩ := id hv
  obtain ⟨hlen2, b2, o2, c2, rfl, hc2⟩ := id hy
  have hx0 := ext_boxB w (.slice (some ⟨b, o, none⟩) t.length c) (.slice (some ⟨b2, o2, none⟩) u.length c2) 26
  have k0 := cell_new2a w (.slice (some ⟨b, o, none⟩) t.length c) (.slice (some ⟨b2, o2, none⟩) u.length c2) 26
  have k1 := cell_new2b w (.slice (some ⟨b, o, none⟩) t.length c) (.slice (some ⟨b2, o2, none⟩) u.length c2) 26
  cases hg : twoB t u with
  | false =>
    rw [braceB_1 hg]
    go_enter Tryz.func25, Tryz.ntmps25
    go_wp2_with fail
    refine (areBraceTables_any t u _ _ _ (hv.ext hx0) (hy.ext hx0)).mono ?_
    rintro e w1 ⟨rfl, hx1⟩
    rw [hg]
    go_wp2
    go_ret
    exact ⟨rfl, hx0.trans hx1⟩
  | true =>
    obtain ⟨hG, hU, hl⟩ := twoB_iff.1 hg
    have HL := Lib.hid hl
    clear hl
    have e0 := eqNil0
    have e1 := eqNil1
    by_cases hf : faultL t u = []
    · rw [braceB_yes hg hf]
      have HF := Lib.hid hf
      clear hf
      go_enter Tryz.func25, Tryz.ntmps25
      go_wp2_with fail
      refine (areBraceTables_any t u _ _ _ (hv.ext hx0) (hy.ext hx0)).mono ?_
      rintro e w1 ⟨rfl, hx1⟩
      rw [hg]
      have j0 := hx1.cell k0
      have j1 := hx1.cell k1
      go_wp2_with fail
      refine (braceFault_any t u _ _ _ (hv.ext (hx0.trans hx1)) (hy.ext (hx0.trans hx1)) hG hU HL.out).mono ?_
      rintro e w2 ⟨r, rfl, -, hr, hx2⟩
      rcases hr with ⟨-, rfl⟩ | ⟨h3, -⟩
      · go_wp2
        go_ret
        exact ⟨rfl, (hx0.trans hx1).trans hx2⟩
      · rw [HF.out] at h3; simp at h3
    · rw [braceB_2 hf]
      have HF := Lib.hid hf
      clear hf
      go_enter Tryz.func25, Tryz.ntmps25
      go_wp2_with fail
      refine (areBraceTables_any t u _ _ _ (hv.ext hx0) (hy.ext hx0)).mono ?_
      rintro e w1 ⟨rfl, hx1⟩
      rw [hg]
      have j0 := hx1.cell k0
      have j1 := hx1.cell k1
      go_wp2_with fail
      refine (braceFault_any t u _ _ _ (hv.ext (hx0.trans hx1)) (hy.ext (hx0.trans hx1)) hG hU HL.out).mono ?_
      rintro e w2 ⟨r, rfl, -, hr, hx2⟩
      rcases hr with ⟨h3, -⟩ | ⟨-, rb, rc, rfl⟩
      · exact absurd h3 HF.out
      · go_wp2
        go_ret
        exact ⟨rfl, (hx0.trans hx1).trans hx2⟩
end Go.Proofs.YthlafeefjonkdaaGreatDoor


namespace Go.Proofs.YthlafeefjonkdaaGreatDoor
set_option linter.unusedVariables false
set_option linter.unusedSimpArgs false
open Go.RowKit

theorem len_fault {t u : List (List Int)} (h : faultL t u ≠ []) : (((faultL t u).length : Int) == 0) = false := by
  rw [beq_eq_false_iff_ne]
  intro h2
  exact h (List.length_eq_zero_iff.1 (by omega))

set_option maxRecDepth 100000 in
theorem l11Is_any (t u : List (List Int)) (v y : Value) (w : World) (hv : Rows w v t) (hy : Rows w y u) :
    Calls Tryz.prog 21 #[.agg #[v, y]] w fun e w' => e = .returned (.bool (braceB t u)) ∧ Ext w w' := by
  obtain ⟨hlen, b, o, c, rfl, hc⟩ := id hv
  obtain ⟨hlen2, b2, o2, c2, rfl, hc2⟩ := id hy
  have hX := ext_boxB w (.slice (some ⟨b, o, none⟩) t.length c) (.slice (some ⟨b2, o2, none⟩) u.length c2) 26
  have k0 := cell_new2a w (.slice (some ⟨b, o, none⟩) t.length c) (.slice (some ⟨b2, o2, none⟩) u.length c2) 26
  have k1 := cell_new2b w (.slice (some ⟨b, o, none⟩) t.length c) (.slice (some ⟨b2, o2, none⟩) u.length c2) 26
  clear hc hc2
  cases hg : groupB t with
  | false =>
    have h2 : twoB t u = false := twoB_1 hg
    rw [braceB_1 h2]
    go_enter Tryz.func21, Tryz.ntmps21
    go_wp2_with fail
    refine (l10Is_any t _ _ (hv.ext hX)).mono ?_
    rintro e wn ⟨rfl, hx⟩
    replace hX := hX.trans hx
    replace k0 := hx.cell k0
    replace k1 := hx.cell k1
    clear hx
    rw [hg]
    go_wp2
    go_ret
    exact ⟨rfl, hX⟩
  | true =>
    cases hg2 : groupB u with
    | false =>
      have h2 : twoB t u = false := twoB_2 hg2
      rw [braceB_1 h2]
      go_enter Tryz.func21, Tryz.ntmps21
      go_wp2_with fail
      refine (l10Is_any t _ _ (hv.ext hX)).mono ?_
      rintro e wn ⟨rfl, hx⟩
      replace hX := hX.trans hx
      replace k0 := hx.cell k0
      replace k1 := hx.cell k1
      clear hx
      rw [hg]
      go_wp2_with fail
      refine (l10Is_any u _ _ (hy.ext hX)).mono ?_
      rintro e wn ⟨rfl, hx⟩
      replace hX := hX.trans hx
      replace k0 := hx.cell k0
      replace k1 := hx.cell k1
      clear hx
      rw [hg2]
      go_wp2
      go_ret
      exact ⟨rfl, hX⟩
    | true =>
      cases hl : ((t.length : Int) == (u.length : Int)) with
      | false =>
        have h2 : twoB t u = false := twoB_3 (fun h => by rw [h] at hl; simp at hl)
        have hln : ((t.length : Int) != (u.length : Int)) = true := by rw [bne, hl]; rfl
        rw [braceB_1 h2]
        go_enter Tryz.func21, Tryz.ntmps21
        go_wp2_with fail
        refine (l10Is_any t _ _ (hv.ext hX)).mono ?_
        rintro e wn ⟨rfl, hx⟩
        replace hX := hX.trans hx
        replace k0 := hx.cell k0
        replace k1 := hx.cell k1
        clear hx
        rw [hg]
        go_wp2_with fail
        refine (l10Is_any u _ _ (hy.ext hX)).mono ?_
        rintro e wn ⟨rfl, hx⟩
        replace hX := hX.trans hx
        replace k0 := hx.cell k0
        replace k1 := hx.cell k1
        clear hx
        rw [hg2]
        go_wp2
        go_ret
        exact ⟨rfl, hX⟩
      | true =>
        have h2 : twoB t u = true := twoB_yes hg hg2 (by have := eq_of_beq hl; omega)
        obtain ⟨hG, hU, hL⟩ := twoB_iff.1 h2
        have HL := Lib.hid hL
        clear hL
        have hln : ((t.length : Int) != (u.length : Int)) = false := by rw [bne, hl]; rfl
        by_cases hf : faultL t u = []
        · rw [braceB_yes h2 hf]
          have HF := Lib.hid hf
          have hz : (((faultL t u).length : Int) == 0) = true := by rw [hf]; rfl
          clear hf
          go_enter Tryz.func21, Tryz.ntmps21
          go_wp2_with fail
          refine (l10Is_any t _ _ (hv.ext hX)).mono ?_
          rintro e wn ⟨rfl, hx⟩
          replace hX := hX.trans hx
          replace k0 := hx.cell k0
          replace k1 := hx.cell k1
          clear hx
          rw [hg]
          go_wp2_with fail
          refine (l10Is_any u _ _ (hy.ext hX)).mono ?_
          rintro e wn ⟨rfl, hx⟩
          replace hX := hX.trans hx
          replace k0 := hx.cell k0
          replace k1 := hx.cell k1
          clear hx
          rw [hg2]
          go_wp2_with fail
          refine (l11Fault_any t u _ _ _ (hv.ext hX) (hy.ext hX) hG hU HL.out).mono ?_
          rintro e wn ⟨r, rfl, ⟨ra, rc, rfl⟩, hr, hx⟩
          replace hX := hX.trans hx
          replace k0 := hx.cell k0
          replace k1 := hx.cell k1
          clear hx
          go_wp2
          go_ret
          exact ⟨rfl, hX⟩
        · rw [braceB_2 hf]
          have HF := Lib.hid hf
          have hz := len_fault hf
          clear hf
          go_enter Tryz.func21, Tryz.ntmps21
          go_wp2_with fail
          refine (l10Is_any t _ _ (hv.ext hX)).mono ?_
          rintro e wn ⟨rfl, hx⟩
          replace hX := hX.trans hx
          replace k0 := hx.cell k0
          replace k1 := hx.cell k1
          clear hx
          rw [hg]
          go_wp2_with fail
          refine (l10Is_any u _ _ (hy.ext hX)).mono ?_
          rintro e wn ⟨rfl, hx⟩
          replace hX := hX.trans hx
          replace k0 := hx.cell k0
          replace k1 := hx.cell k1
          clear hx
          rw [hg2]
          go_wp2_with fail
          refine (l11Fault_any t u _ _ _ (hv.ext hX) (hy.ext hX) hG hU HL.out).mono ?_
          rintro e wn ⟨r, rfl, ⟨ra, rc, rfl⟩, hr, hx⟩
          replace hX := hX.trans hx
          replace k0 := hx.cell k0
          replace k1 := hx.cell k1
          clear hx
          go_wp2
          go_ret
          exact ⟨rfl, hX⟩

end Go.Proofs.YthlafeefjonkdaaGreatDoor


namespace Go.Proofs.YthlafeefjonkdaaGreatDoor
set_option linter.unusedVariables false
set_option linter.unusedSimpArgs false
open Go.RowKit
attribute [local go_sem ↓] Go.wp_at_zero Go.wp_at_succ

theorem l01Same_any (l m : List Int) (v u : Value) (w : World) (hv : IntsR w v l) (hu : IntsR w u m) (hs : l.length ≤ 1048576) :
    Calls Tryz.prog 111 #[v, u] w fun e w' => e = .returned (.bool (eqIB l m)) ∧ Drawn w w' := by
  obtain ⟨a1, c1, rfl, h1⟩ := hv
  obtain ⟨a2, c2, rfl, h2⟩ := hu
  have H1 := Lib.hid h1
  have H2 := Lib.hid h2
  clear h1 h2
  by_cases hl : l.length = m.length
  case neg =>
    have hb : ((l.length : Int) != (m.length : Int)) = true := by simp; omega
    go_enter Tryz.func111, Tryz.ntmps111
    go_wp2
    go_ret
    exact ⟨ret_bool (eqIB_no (fun e => hl (by rw [e]))).symm, Drawn.refl _⟩
  case pos =>
    rw [← hl]
    have Hl := Lib.hid hl
    clear hl
    go_enter Tryz.func111, Tryz.ntmps111
    go_wp2
    go_loopw [5] (fun i wr => ∃ k : Nat, k ≤ l.length ∧ i = .int .i64 k ∧ SameTo l m k ∧ Drawn w wr) (fun i _ => l.length - (intOf i).toNat)
    case atStart => exact ⟨0, Nat.zero_le _, rfl, fun i hi => by omega, Drawn.refl _⟩
    case round =>
      obtain ⟨k, hk, rfl, hto, hx⟩ := hrel
      by_cases hlt : k < l.length
      · obtain ⟨b1, o1, rfl, hc1⟩ := H1.out (ne_nil_of_lt hlt)
        obtain ⟨b2, o2, rfl, hc2⟩ := H2.out (ne_nil_of_lt (k := k) (by have := Hl.out; omega))
        have e1 := hc1.ext hx.ext k hlt
        have e2 := hc2.ext hx.ext k (by have := Hl.out; omega)
        cases he : (ix l k != ix m k) with
        | true =>
          go_wp2
          go_quiet (fail)
          go_wp2
          go_ret
          exact ⟨ret_bool (eqIB_no (fun e => by rw [e] at he; simp at he)).symm, hx.drewN _⟩
        | false =>
          go_wp2
          go_quiet (fail)
          go_wp2
          go_roundw
          case rel => exact ⟨k + 1, by omega, by go_num, fun i hi => by
            by_cases e : i = k
            · rw [e]; simpa using he
            · exact hto i (by omega), hx.drewN _⟩
          case measure => simp [intOf]; omega
      · go_wp2
        go_ret
        exact ⟨ret_bool (eqIB_yes (ix_ext Hl.out (fun i hi => hto i (by omega)))).symm, hx⟩

end Go.Proofs.YthlafeefjonkdaaGreatDoor


namespace Go.Proofs.YthlafeefjonkdaaGreatDoor
set_option linter.unusedVariables false
set_option linter.unusedSimpArgs false
open Go.RowKit
attribute [local go_sem ↓] Go.wp_at_zero Go.wp_at_succ
open Go.Deep

theorem take_ixL (l : List Int) (k : Nat) (h : k < l.length) : l.take (k + 1) = l.take k ++ [ix l k] := by
  rw [List.take_succ_eq_append_getElem h, ix_eq]; simp [List.getD, h]

set_option maxRecDepth 100000 in
set_option maxHeartbeats 1000000 in
theorem l01Then_any (n : Nat) (p q : List Int) (v u : Value) (w : World) (hv : Ints w v p) (hu : Ints w u q) (hp : IsoOk n [] [] p) (hq : q.length = n) (h12 : n ≤ 12) :
    Calls Tryz.prog 123 #[v, u] w (NewI (thenL p q) w) := by
  obtain ⟨-, b, o, c, rfl, hc⟩ := id hv
  obtain ⟨-, b2, o2, c2, rfl, hc2⟩ := id hu
  have HP := Lib.hid hp
  have HPL := Lib.hid hp.1
  have HQL := Lib.hid hq
  rw [hp.1, hq]
  clear hp hq hv hu
  have HLT := Lib.hid (show (thenL p q).length = n by rw [length_thenL, HPL.out])
  go_enter Tryz.func123, Tryz.ntmps123
  go_wp2_with fail
  have hx0 : Ext w (w.alloc (.cells #[] 2)) := (Ext.refl _).alloc _
  have hi0 := GrowI.lit (e := 2) (base := w.heap.size) (w := w) (Nat.le_refl _)
  go_loopw [5, 6] (fun v x wr => ∃ k : Nat, k ≤ n ∧ x = .int .i64 k ∧ GrowI 2 w.heap.size wr v ((thenL p q).take k) ∧ v ≠ .slice none 0 0 ∧ Ext w wr) (fun _ x _ => n - (intOf x).toNat)
  case atStart => exact ⟨0, Nat.zero_le _, rfl, hi0, by simp, hx0⟩
  case round =>
    clear hx0 hi0
    obtain ⟨k, hk, rfl, hg, hv, hx⟩ := hrel
    have HG := Lib.hid hg
    have HV := Lib.hid hv
    have HX := Lib.hid hx
    by_cases hlt : k < n
    · have hb := HP.out.bd hlt
      obtain ⟨z, hz⟩ : ∃ z : Nat, ix p k = (z : Int) := ⟨_, (Int.toNat_of_nonneg hb.1).symm⟩
      have hzn : z < n := by omega
      have e1 := (hc.ext hx) k (by rw [HPL.out]; exact hlt)
      rw [hz] at e1
      have e4 := (hc2.ext hx) z (by rw [HQL.out]; exact hzn)
      have HE := Lib.hid (show (thenL p q).take (k + 1) = (thenL p q).take k ++ [ix q z] by rw [take_ixL _ _ (by rw [HLT.out]; exact hlt), ix_thenL _ _ (by rw [HPL.out]; exact hlt), hz, Int.toNat_natCast])
      have HL := Lib.hid (show ((thenL p q).take k).length ≤ 1048576 by rw [List.length_take, HLT.out]; omega)
      have zx := hx.size
      clear hb hz hg hv hx
      go_wp2_with (at_builtin; refine wpList_append_int rfl _ _ 29 2 rfl Tryz.underlying29 infoInt w.heap.size _ _ rfl (HG.out.alloc _) _ _ rfl (cell_new _ _ _) HL.out (by simp; omega) ?_)
      intro v' w3 hi3 hgr hv3
      have HX3 := Lib.hid (Ext.grown (HX.out.trans (ext_box _ _ _)) hgr (HG.out.alloc _) (Nat.le_refl _))
      clear hgr
      go_wp2_with fail
      go_roundw
      case rel => exact ⟨k + 1, by omega, by go_num, by rw [HE.out]; exact hi3, hv3, HX3.out⟩
      case measure => simp [intOf]; omega
    · have hta : (thenL p q).take k = thenL p q := List.take_of_length_le (by rw [HLT.out]; omega)
      rw [hta] at hg
      obtain ⟨b3, c3, rfl, ho⟩ := hg.own hv
      clear hg hv hx HG
      go_wp2_with fail
      go_ret
      exact ⟨b3, c3, rfl, ho, HX.out⟩

set_option maxRecDepth 100000 in
set_option maxHeartbeats 1000000 in
theorem l01System_any (n : Int) (gens : List (List Int)) (v : Value) (w : World) (hv : Rows w v gens) :
    Calls Tryz.prog 119 #[.int .i64 n, v] w fun e w' => e = .returned (.bool (sysB n gens)) ∧ Ext w w' := by
  obtain ⟨hlen, b, o, c, rfl, hc⟩ := id hv
  cases hin : inR n 1 12 with
  | false =>
    have HN := Lib.hid (sysB_no1 (gens := gens) hin)
    go_enter Tryz.func119, Tryz.ntmps119
    go_wp2_with fail
    refine (l01In_any n 1 12 w).mono ?_
    rintro e w1 ⟨rfl, rfl⟩
    rw [hin]
    go_wp2_with fail
    go_ret
    exact ⟨by rw [HN.out]; rfl, Ext.refl _⟩
  | true =>
    have hb := inR_iff.1 hin
    by_cases hl : gens.length ≤ 16
    case neg =>
      have HN := Lib.hid (sysB_no2 (n := n) hl)
      have hl' : (16 : Int) < (gens.length : Int) := by omega
      go_enter Tryz.func119, Tryz.ntmps119
      go_wp2_with fail
      refine (l01In_any n 1 12 w).mono ?_
      rintro e w1 ⟨rfl, rfl⟩
      rw [hin]
      go_wp2_with fail
      go_ret
      exact ⟨by rw [HN.out]; rfl, Ext.refl _⟩
    case pos =>
      have hl' : ¬ (16 : Int) < (gens.length : Int) := by omega
      have HIN := Lib.hid hin
      go_enter Tryz.func119, Tryz.ntmps119
      go_wp2_with fail
      refine (l01In_any n 1 12 w).mono ?_
      rintro e w1 ⟨rfl, rfl⟩
      rw [hin]
      clear hin
      go_wp2_with fail
      go_loopw [5] (fun i wr => ∃ k : Nat, k ≤ gens.length ∧ i = .int .i64 k ∧ (∀ j, j < k → sysBad n (row gens j) = false) ∧ Ext w wr) (fun i _ => gens.length - (intOf i).toNat)
      case atStart => exact ⟨0, Nat.zero_le _, rfl, fun j hj => by omega, Ext.refl _⟩
      case round =>
        obtain ⟨k, hk, rfl, hno, hx⟩ := hrel
        have HNO := Lib.hid hno
        have HX := Lib.hid hx
        clear hno
        by_cases hkl : k < gens.length
        case neg =>
          have HY := Lib.hid (sysB_yes HIN.out hl (fun j hj => HNO.out j (by omega)))
          go_wp2_with fail
          go_ret
          exact ⟨by rw [HY.out]; rfl, HX.out⟩
        case pos =>
          obtain ⟨b1, o1, c1, r1, i1, l1⟩ := (hc.ext hx).get hkl
          have I1 := Lib.hid (i1.ints l1 c1)
          clear i1 hx
          cases hne : (((row gens k).length : Int) != n) with
          | true =>
            have hbad : sysBad n (row gens k) = true := by unfold sysBad; simp at hne; simp [hne]
            have HN := Lib.hid (sysB_no3 hkl hbad)
            clear hbad
            go_wp2_with fail
            go_ret
            exact ⟨by rw [HN.out]; rfl, HX.out⟩
          | false =>
            have hle : ((row gens k).length : Int) = n := by simpa using hne
            cases hpb : permB (row gens k) with
            | false =>
              have hbad : sysBad n (row gens k) = true := by unfold sysBad; simp [hpb]
              have HN := Lib.hid (sysB_no3 hkl hbad)
              clear hbad hle
              go_wp2_with fail
              refine (l01Perm_any (row gens k) _ _ I1.out (by simp at hne; omega) (by simp at hne; omega)).mono ?_
              rintro e w2 ⟨rfl, rfl⟩
              rw [hpb]
              go_wp2_with fail
              go_ret
              exact ⟨by rw [HN.out]; rfl, HX.out⟩
            | true =>
              have HG := Lib.hid (sysBad_no.2 ⟨hle, hpb⟩)
              clear hle
              go_wp2_with fail
              refine (l01Perm_any (row gens k) _ _ I1.out (by simp at hne; omega) (by simp at hne; omega)).mono ?_
              rintro e w2 ⟨rfl, rfl⟩
              rw [hpb]
              go_wp2_with fail
              go_roundw
              case rel => exact ⟨k + 1, by omega, by go_num, fun j hj => by
                by_cases e : j = k
                · subst e; exact HG.out
                · exact HNO.out j (by omega), HX.out⟩
              case measure => simp [intOf]; omega
end Go.Proofs.YthlafeefjonkdaaGreatDoor


namespace Go.Proofs.YthlafeefjonkdaaGreatDoor
set_option linter.unusedVariables false
set_option linter.unusedSimpArgs false
open Go.RowKit
attribute [local go_sem ↓] Go.wp_at_zero Go.wp_at_succ
open Go.Deep

set_option maxRecDepth 100000 in
theorem l04Find_any (S : List (List Int)) (p : List Int) (v u : Value) (w : World) (hv : Rows w v S) (hu : Ints w u p) :
    Calls Tryz.prog 137 #[v, u] w fun e w' => e = .returned (.int .i64 (findL S p)) ∧ Drawn w w' := by
  obtain ⟨hlen, b, o, c, rfl, hc⟩ := id hv
  obtain ⟨hlen2, b2, o2, c2, rfl, -⟩ := id hu
  have HU := Lib.hid hu
  have HF0 := Lib.hid (show findL S p = findFrom (fun r => eqIB r p) (S.drop 0) 0 by unfold findL findIx; rfl)
  clear hu hv
  go_enter Tryz.func137, Tryz.ntmps137
  go_wp2_with fail
  go_loopw [5] (fun i wr => ∃ k : Nat, k ≤ S.length ∧ i = .int .i64 k ∧ findL S p = findFrom (fun r => eqIB r p) (S.drop k) k ∧ Drawn w wr) (fun i _ => S.length - (intOf i).toNat)
  case atStart => exact ⟨0, Nat.zero_le _, rfl, HF0.out, Drawn.refl _⟩
  case round =>
    obtain ⟨k, hk, rfl, hr, hd⟩ := hrel
    have HR := Lib.hid hr
    have HD := Lib.hid hd
    clear hr hd
    by_cases hlt : k < S.length
    · obtain ⟨b1, o1, c1, r1, i1, l1⟩ := (hc.ext HD.out.ext).get hlt
      have I1 := Lib.hid (i1.ints l1 c1)
      clear i1
      cases hp : eqIB (row S k) p with
      | true =>
        have HH := Lib.hid (findFrom_hit (fun r => eqIB r p) S k hlt hp)
        go_wp2_with fail
        refine (l01Same_any (row S k) p _ _ _ I1.out.toR (HU.out.ext HD.out.ext).toR l1).mono ?_
        rintro e w1 ⟨rfl, hd1⟩
        rw [hp]
        have HD1 := Lib.hid (HD.out.trans hd1)
        clear hd1
        go_wp2_with fail
        go_ret
        exact ⟨ret_int (by rw [HR.out, HH.out]), HD1.out⟩
      | false =>
        have HH := Lib.hid (findFrom_miss (fun r => eqIB r p) S k hlt hp)
        go_wp2_with fail
        refine (l01Same_any (row S k) p _ _ _ I1.out.toR (HU.out.ext HD.out.ext).toR l1).mono ?_
        rintro e w1 ⟨rfl, hd1⟩
        rw [hp]
        have HD1 := Lib.hid (HD.out.trans hd1)
        clear hd1
        go_wp2_with fail
        go_roundw
        case rel => exact ⟨k + 1, by omega, by go_num, by rw [HR.out, HH.out], HD1.out⟩
        case measure => simp [intOf]; omega
    · have HH := Lib.hid (findFrom_end (fun r => eqIB r p) S k (by omega))
      go_wp2_with fail
      go_ret
      exact ⟨ret_int (by rw [HR.out, HH.out]), HD.out⟩

set_option maxRecDepth 100000 in
theorem l03Search_any (S : List (List Int)) (p : List Int) (v u : Value) (w : World) (hv : Rows w v S) (hu : Ints w u p) (hs : S.Pairwise (· < ·)) :
    Calls Tryz.prog 121 #[v, u] w fun e w' => (∃ k : Nat, e = .returned (.int .i64 k) ∧ k ≤ S.length ∧ (∀ i, i < k → row S i < p) ∧ ∀ i, k ≤ i → i < S.length → ¬ row S i < p) ∧ Drawn w w' := by
  obtain ⟨hlen, b, o, c, rfl, hc⟩ := id hv
  obtain ⟨hlen2, b2, o2, c2, rfl, -⟩ := id hu
  have HU := Lib.hid hu
  have HS := Lib.hid hs
  clear hu hv hs
  go_enter Tryz.func121, Tryz.ntmps121
  go_wp2_with fail
  go_loopw [5, 6] (fun x y wr => ∃ l h : Nat, l ≤ h ∧ h ≤ S.length ∧ x = .int .i64 l ∧ y = .int .i64 h ∧ (∀ i, i < l → row S i < p) ∧ (∀ i, h ≤ i → i < S.length → ¬ row S i < p) ∧ Drawn w wr) (fun x y _ => (intOf y).toNat - (intOf x).toNat)
  case atStart => exact ⟨0, S.length, Nat.zero_le _, Nat.le_refl _, rfl, rfl, fun i hi => by omega, fun i h1 h2 => by omega, Drawn.refl _⟩
  case round =>
    obtain ⟨l, h, hlh, hhs, rfl, rfl, h1, h2, hd⟩ := hrel
    have H1 := Lib.hid h1
    have H2 := Lib.hid h2
    have HD := Lib.hid hd
    clear h1 h2 hd
    by_cases hlt : l < h
    case neg =>
      have hll : l = h := by omega
      subst hll
      go_wp2_with fail
      go_ret
      exact ⟨⟨l, rfl, hhs, H1.out, H2.out⟩, HD.out⟩
    case pos =>
      have hm1 : l ≤ (l + h) / 2 := by omega
      have hm2 : (l + h) / 2 < h := by omega
      obtain ⟨m, hm⟩ : ∃ m, m = (l + h) / 2 := ⟨_, rfl⟩
      have hmi : ((l : Int) + (h : Int)).tdiv 2 = (m : Int) := by
        rw [hm, Int.tdiv_eq_ediv_of_nonneg (by omega)]; omega
      rw [← hm] at hm1 hm2
      clear hm
      obtain ⟨b1, o1, c1, r1, i1, l1⟩ := (hc.ext HD.out.ext).get (i := m) (by omega)
      have I1 := Lib.hid (i1.ints l1 c1)
      clear i1
      cases hp : lessB (row S m) p with
      | true =>
        have HH := Lib.hid (lessB_iff.1 hp)
        go_wp2_with fail
        refine (l01Less_any (row S m) p _ _ _ I1.out (HU.out.ext HD.out.ext)).mono ?_
        rintro e w1 ⟨rfl, hd1⟩
        rw [hp]
        have HD1 := Lib.hid (HD.out.trans hd1)
        clear hd1
        go_wp2_with fail
        go_roundw
        case rel => exact ⟨m + 1, h, by omega, hhs, by go_num, rfl, fun i hi => by
          by_cases e : i = m
          · subst e; exact HH.out
          · exact less_trans (sorted_row HS.out (by omega) (by omega)) HH.out, H2.out, HD1.out⟩
        case measure => simp [intOf]; omega
      | false =>
        have HH := Lib.hid (lessB_no.1 hp)
        go_wp2_with fail
        refine (l01Less_any (row S m) p _ _ _ I1.out (HU.out.ext HD.out.ext)).mono ?_
        rintro e w1 ⟨rfl, hd1⟩
        rw [hp]
        have HD1 := Lib.hid (HD.out.trans hd1)
        clear hd1
        go_wp2_with fail
        go_roundw
        case rel => exact ⟨l, m, by omega, by omega, rfl, rfl, H1.out, fun i hi hi2 => by
          by_cases e : i = m
          · subst e; exact HH.out
          · exact fun hlt => HH.out (less_trans (sorted_row HS.out (show m < i by omega) hi2) hlt), HD1.out⟩
        case measure => simp [intOf]; omega

end Go.Proofs.YthlafeefjonkdaaGreatDoor


namespace Go.Proofs.YthlafeefjonkdaaGreatDoor
set_option linter.unusedVariables false
set_option linter.unusedSimpArgs false
open Go.RowKit
open Go.Deep
attribute [local go_sem ↓] Go.wp_at_zero Go.wp_at_succ

end Go.Proofs.YthlafeefjonkdaaGreatDoor
