/-
  Isomorphisms of lists of tables, in lexicographic order: plain.
-/
import Derived.Test.YtjbloenjphpngaaJx0
import Derived.Test.YtjbloenjphpngaaJx1
import Derived.Test.YtjbloenjphpngaaJx2
import Derived.Test.YtjbloenjphpngaaJx3
import Derived.Test.YtjbloenjphpngaaJx4
import Derived.Test.YtjbloenjphpngaaJx6
import Derived.Test.YtjbloenjphpngaaJx7
namespace Go.Proofs.Ytjbloenjphpngaa
set_option linter.unusedVariables false
set_option linter.unusedSimpArgs false

/-- table k of a list of tables -/
@[irreducible] def tab (ts : List (List (List Int))) (k : Nat) : List (List Int) := ts.getD k []
theorem tab_eq (ts : List (List (List Int))) (k : Nat) : tab ts k = ts.getD k [] := by unfold tab; rfl
theorem tab_one (t : List (List Int)) : tab [t] 0 = t := by rw [tab_eq]; rfl
theorem tab_two0 (t u : List (List Int)) : tab [t, u] 0 = t := by rw [tab_eq]; rfl
theorem tab_two1 (t u : List (List Int)) : tab [t, u] 1 = u := by rw [tab_eq]; rfl
/-- tables of n elements -/
def TabsOk (n : Nat) (ts : List (List (List Int))) : Prop := ∀ k, k < ts.length → TableOk (tab ts k) ∧ (tab ts k).length = n
theorem TabsOk.bd {n : Nat} {ts : List (List (List Int))} (h : TabsOk n ts) {k x y : Nat} (hk : k < ts.length) (hx : x < n) (hy : y < n) : 0 ≤ ent (tab ts k) x y ∧ (ent (tab ts k) x y).toNat < n := by
  obtain ⟨h1, h2⟩ := h k hk
  have := h1.bd (x := x) (y := y) (by omega) (by omega)
  omega
theorem TabsOk.one {t : List (List Int)} (h : TableOk t) : TabsOk t.length [t] := fun k hk => by
  have : k = 0 := by simpa using hk
  subst this
  rw [tab_one]; exact ⟨h, rfl⟩
theorem TabsOk.two {t u : List (List Int)} (h : TableOk t) (h2 : TableOk u) (hl : u.length = t.length) : TabsOk t.length [t, u] := fun k hk => by
  have : k = 0 ∨ k = 1 := by have := hk; simp at this; omega
  rcases this with rfl | rfl
  · rw [tab_two0]; exact ⟨h, rfl⟩
  · rw [tab_two1]; exact ⟨h2, hl⟩

/-- p renames the tables az to the tables bz -/
def IsoOk (n : Nat) (az bz : List (List (List Int))) (p : List Int) : Prop :=
  p.length = n ∧ PermOk p ∧ ∀ k, k < az.length → ∀ x, x < n → ∀ y, y < n → ix p (ent (tab az k) x y).toNat = ent (tab bz k) (ix p x).toNat (ix p y).toNat
theorem IsoOk.bd {n : Nat} {az bz : List (List (List Int))} {p : List Int} (h : IsoOk n az bz p) {x : Nat} (hx : x < n) : 0 ≤ ix p x ∧ (ix p x).toNat < n := by
  obtain ⟨h1, ⟨h2, _⟩, _⟩ := h
  have := h2 x (by omega)
  omega
theorem IsoOk.inj {n : Nat} {az bz : List (List (List Int))} {p : List Int} (h : IsoOk n az bz p) {x y : Nat} (hx : x < n) (hy : y < n) (e : ix p x = ix p y) : x = y := by
  obtain ⟨h1, ⟨_, h2⟩, _⟩ := h
  rcases Nat.lt_trichotomy x y with g | g | g
  · exact absurd e (h2 y (by omega) x g)
  · exact g
  · exact absurd e.symm (h2 x (by omega) y g)
theorem IsoOk.surj {n : Nat} {az bz : List (List (List Int))} {p : List Int} (h : IsoOk n az bz p) {y : Nat} (hy : y < n) : ∃ x, x < n ∧ ix p x = (y : Int) := by
  obtain ⟨h1, h2, _⟩ := h
  have := (permOk_iff_has p).1 h2 y (by omega)
  rcases indexOf_spec p y with ⟨e, _⟩ | ⟨i, hi, _, e, _⟩
  · omega
  · exact ⟨i, by omega, e⟩

/-- all lists of m numbers below n, in lexicographic order -/
def allL (n : Nat) : Nat → List (List Int)
  | 0 => [[]]
  | m + 1 => (intRange n).flatMap fun v => (allL n m).map (v :: ·)
theorem mem_allL (n : Nat) : ∀ (m : Nat) (p : List Int), p ∈ allL n m ↔ p.length = m ∧ ∀ i, i < m → 0 ≤ ix p i ∧ ix p i < n
  | 0, p => by
    unfold allL
    rw [List.mem_singleton]
    constructor
    · rintro rfl; exact ⟨rfl, fun i hi => by omega⟩
    · rintro ⟨h, _⟩; exact List.length_eq_zero_iff.1 h
  | m + 1, p => by
    unfold allL
    rw [List.mem_flatMap]
    constructor
    · rintro ⟨v, hv, hp⟩
      rw [List.mem_map] at hp
      obtain ⟨q, hq, rfl⟩ := hp
      obtain ⟨h1, h2⟩ := (mem_allL n m q).1 hq
      refine ⟨by simp [h1], fun i hi => ?_⟩
      cases i with
      | zero => rw [ix_eq]; simpa using mem_intRange.1 hv
      | succ i =>
        have := h2 i (by omega)
        rw [ix_eq] at this ⊢
        simpa using this
    · rintro ⟨h1, h2⟩
      cases p with
      | nil => simp at h1
      | cons v q =>
        refine ⟨v, ?_, ?_⟩
        · have := h2 0 (by omega)
          rw [ix_eq] at this
          exact mem_intRange.2 (by simpa using this)
        · rw [List.mem_map]
          refine ⟨q, (mem_allL n m q).2 ⟨by simpa using h1, fun i hi => ?_⟩, rfl⟩
          have := h2 (i + 1) (by omega)
          rw [ix_eq] at this ⊢
          simpa using this
/-- p stands ahead of q -/
def LexLt (p q : List Int) : Prop := ∃ d, (∀ i, i < d → ix p i = ix q i) ∧ ix p d < ix q d
theorem sorted_allL (n : Nat) : ∀ m, (allL n m).Pairwise LexLt
  | 0 => by unfold allL; exact List.pairwise_singleton _ _
  | m + 1 => by
    unfold allL
    rw [List.pairwise_flatMap]
    refine ⟨fun v _ => ?_, ?_⟩
    · rw [List.pairwise_map]
      refine (sorted_allL n m).imp ?_
      rintro p q ⟨d, h1, h2⟩
      refine ⟨d + 1, fun i hi => ?_, ?_⟩
      · cases i with
        | zero => rw [ix_eq, ix_eq]; rfl
        | succ i =>
          have := h1 i (by omega)
          rw [ix_eq, ix_eq] at this ⊢
          simpa using this
      · rw [ix_eq, ix_eq] at h2 ⊢
        simpa using h2
    · unfold intRange
      rw [List.pairwise_map]
      refine List.pairwise_lt_range.imp ?_
      intro a b hab x hx y hy
      rw [List.mem_map] at hx hy
      obtain ⟨p, _, rfl⟩ := hx
      obtain ⟨q, _, rfl⟩ := hy
      refine ⟨0, fun i hi => by omega, ?_⟩
      rw [ix_eq, ix_eq]
      simpa using hab

open Classical in
/-- all isomorphisms in lexicographic order -/
@[irreducible] noncomputable def isoL (n : Nat) (az bz : List (List (List Int))) : List (List Int) := (allL n n).filter fun p => decide (IsoOk n az bz p)
theorem mem_isoL {n : Nat} {az bz : List (List (List Int))} {p : List Int} : p ∈ isoL n az bz ↔ IsoOk n az bz p := by
  unfold isoL
  rw [List.mem_filter, mem_allL]
  constructor
  · rintro ⟨_, h⟩; simpa using h
  · intro h
    refine ⟨⟨h.1, fun i hi => ?_⟩, by simpa using h⟩
    have := h.bd hi
    omega
theorem sorted_isoL (n : Nat) (az bz : List (List (List Int))) : (isoL n az bz).Pairwise LexLt := by
  unfold isoL
  exact (sorted_allL n n).filter _

/-- p goes on with f, where f is set -/
def ExtP (f p : List Int) : Prop := ∀ i, i < f.length → 0 ≤ ix f i → ix p i = ix f i
open Classical in
/-- the isomorphisms that go on with f -/
@[irreducible] noncomputable def extL (n : Nat) (az bz : List (List (List Int))) (f : List Int) : List (List Int) := (isoL n az bz).filter fun p => decide (ExtP f p)
theorem mem_extL {n : Nat} {az bz : List (List (List Int))} {f p : List Int} : p ∈ extL n az bz f ↔ IsoOk n az bz p ∧ ExtP f p := by
  unfold extL
  rw [List.mem_filter, mem_isoL]
  simp
theorem sorted_extL (n : Nat) (az bz : List (List (List Int))) (f : List Int) : (extL n az bz f).Pairwise LexLt := by
  unfold extL
  exact (sorted_isoL n az bz).filter _
theorem extL_congr {n : Nat} {az bz : List (List (List Int))} {f g : List Int} (h : ∀ p, IsoOk n az bz p → (ExtP f p ↔ ExtP g p)) : extL n az bz f = extL n az bz g := by
  unfold extL
  refine List.filter_congr fun p hp => ?_
  have := h p (mem_isoL.1 hp)
  simp [this]
theorem extL_nil {n : Nat} {az bz : List (List (List Int))} {f : List Int} (h : ∀ p, IsoOk n az bz p → ¬ ExtP f p) : extL n az bz f = [] := by
  rw [List.eq_nil_iff_forall_not_mem]
  intro p hp
  obtain ⟨h1, h2⟩ := mem_extL.1 hp
  exact h p h1 h2
theorem extL_all {n : Nat} {az bz : List (List (List Int))} {f : List Int} (h : ∀ p, IsoOk n az bz p → ExtP f p) : extL n az bz f = isoL n az bz := by
  unfold extL
  rw [List.filter_eq_self]
  intro p hp
  have := h p (mem_isoL.1 hp)
  simpa using this
theorem LexLt.irrefl (p : List Int) : ¬ LexLt p p := by
  rintro ⟨d, _, h⟩; omega
theorem nodup_extL (n : Nat) (az bz : List (List (List Int))) (f : List Int) : (extL n az bz f).Nodup := by
  rw [List.nodup_iff_pairwise_ne]
  refine (sorted_extL n az bz f).imp ?_
  intro a b h e
  subst e
  exact h.irrefl
/-- a whole map -/
theorem extL_one {n : Nat} {az bz : List (List (List Int))} {f : List Int} (h : IsoOk n az bz f) : extL n az bz f = [f] := by
  have hm : f ∈ extL n az bz f := mem_extL.2 ⟨h, fun _ _ _ => rfl⟩
  have hu : ∀ p, p ∈ extL n az bz f → p = f := fun p hp => by
    obtain ⟨h1, h2⟩ := mem_extL.1 hp
    refine ix_ext (by rw [h1.1, h.1]) fun i hi => h2 i (by rw [h.1, ← h1.1]; exact hi) (h.bd (by rw [← h1.1]; exact hi)).1
  have hn := nodup_extL n az bz f
  generalize extL n az bz f = L at hm hu hn
  rcases L with _ | ⟨x, _ | ⟨y, r⟩⟩
  · simp at hm
  · rw [hu x (by simp)]
  · have e1 := hu x (by simp)
    have e2 := hu y (by simp)
    rw [e1, e2] at hn
    simp at hn

/-- those that lead x below k -/
@[irreducible] def below (M : List (List Int)) (x k : Nat) : List (List Int) := M.filter fun p => decide (ix p x < (k : Int))
theorem below_zero {M : List (List Int)} {x : Nat} (h : ∀ p, p ∈ M → 0 ≤ ix p x) : below M x 0 = [] := by
  unfold below
  rw [List.filter_eq_nil_iff]
  intro p hp
  have := h p hp
  simp; omega
theorem below_all {M : List (List Int)} {x n : Nat} (h : ∀ p, p ∈ M → ix p x < (n : Int)) : below M x n = M := by
  unfold below
  rw [List.filter_eq_self]
  intro p hp
  have := h p hp
  simpa using this
theorem below_succ {M : List (List Int)} {x : Nat} (k : Nat) (h : M.Pairwise fun p q => ix p x ≤ ix q x) : below M x (k + 1) = below M x k ++ M.filter fun p => decide (ix p x = (k : Int)) := by
  unfold below
  induction M with
  | nil => rfl
  | cons a M ih =>
    rw [List.pairwise_cons] at h
    have ih := ih h.2
    rcases Int.lt_trichotomy (ix a x) (k : Int) with g | g | g
    · rw [List.filter_cons_of_pos (by simp; omega), List.filter_cons_of_pos (by simpa using g), List.filter_cons_of_neg (by simp; omega), ih]; rfl
    · rw [List.filter_cons_of_pos (by simp; omega), List.filter_cons_of_neg (by simp; omega), List.filter_cons_of_pos (by simpa using g), ih]
      have : M.filter (fun p => decide (ix p x < (k : Int))) = [] := by
        rw [List.filter_eq_nil_iff]
        intro p hp
        have := h.1 p hp
        simp; omega
      rw [this]; rfl
    · have e1 : M.filter (fun p => decide (ix p x < ((k + 1 : Nat) : Int))) = [] := by
        rw [List.filter_eq_nil_iff]
        intro p hp
        have := h.1 p hp
        simp; omega
      rw [e1] at ih
      rw [List.filter_cons_of_neg (by simp; omega), List.filter_cons_of_neg (by simp; omega), List.filter_cons_of_neg (by simp; omega), e1, ← ih]
/-- all that go on with f agree ahead of x, so they stand in the order of their values at x -/
theorem extL_le {n : Nat} {az bz : List (List (List Int))} {f : List Int} {x : Nat} (hx : x ≤ f.length) (hf : ∀ i, i < x → 0 ≤ ix f i) : (extL n az bz f).Pairwise fun p q => ix p x ≤ ix q x := by
  have h := sorted_extL n az bz f
  rw [List.pairwise_iff_forall_sublist] at h ⊢
  intro p q hs
  obtain ⟨d, h1, h2⟩ := h hs
  have hp := (mem_extL.1 (hs.subset (show p ∈ [p, q] by simp))).2
  have hq := (mem_extL.1 (hs.subset (show q ∈ [p, q] by simp))).2
  rcases Nat.lt_trichotomy d x with g | g | g
  · have a1 := hp d (by omega) (hf d g)
    have a2 := hq d (by omega) (hf d g)
    omega
  · subst g; omega
  · have := h1 x g
    omega
theorem extL_at {n : Nat} {az bz : List (List (List Int))} {f g : List Int} {x : Nat} {v : Int} (h : ∀ p, IsoOk n az bz p → ((ExtP f p ∧ ix p x = v) ↔ ExtP g p)) : ((extL n az bz f).filter fun p => decide (ix p x = v)) = extL n az bz g := by
  unfold extL
  rw [List.filter_filter]
  refine List.filter_congr fun p hp => ?_
  have := h p (mem_isoL.1 hp)
  by_cases hg : ExtP g p
  · have := this.2 hg; simp [hg, this.1, this.2]
  · by_cases h1 : ix p x = v
    · have : ¬ ExtP f p := fun hf => hg (this.1 ⟨hf, h1⟩)
      simp [hg, h1, this]
    · simp [hg, h1]
theorem ix_app {f g : List Int} {i : Nat} (h : i < f.length) : ix (f ++ g) i = ix f i := by
  rw [ix_eq, ix_eq]; simp [List.getD, List.getElem?_append_left h]
theorem ix_snoc (f : List Int) (v : Int) : ix (f ++ [v]) f.length = v := by rw [ix_eq]; simp
theorem extP_snoc {f p : List Int} {v : Int} (hv : 0 ≤ v) : (ExtP f p ∧ ix p f.length = v) ↔ ExtP (f ++ [v]) p := by
  constructor
  · rintro ⟨h1, h2⟩ i hi h0
    rcases Nat.lt_or_ge i f.length with g | g
    · rw [ix_app g] at h0 ⊢
      exact h1 i g h0
    · have : i = f.length := by simp at hi; omega
      subst this
      rw [h2, ix_snoc]
  · intro h
    refine ⟨fun i hi h0 => ?_, ?_⟩
    · have e : ix (f ++ [v]) i = ix f i := ix_app hi
      have := h i (by simp; omega) (by rw [e]; exact h0)
      rw [this, e]
    · have e : ix (f ++ [v]) f.length = v := ix_snoc _ _
      have := h f.length (by simp) (by rw [e]; exact hv)
      rw [this, e]
end Go.Proofs.Ytjbloenjphpngaa

/-
  Marks of elements, their order, and what isomorphisms keep: plain.
-/
namespace Go.Proofs.Ytjbloenjphpngaa
set_option linter.unusedVariables false
set_option linter.unusedSimpArgs false

/-! ### the order of lists -/
/-- l stands ahead of m -/
@[irreducible] def lessB (l m : List Int) : Bool := decide (l < m)
theorem lessB_iff {l m : List Int} : lessB l m = true ↔ l < m := by unfold lessB; simp
theorem lessB_no {l m : List Int} : lessB l m = false ↔ ¬ l < m := by unfold lessB; simp
theorem lessB_at (l m : List Int) (i : Nat) (hl : i < l.length) (hm : i < m.length) : lessB (l.drop i) (m.drop i) = if ix l i = ix m i then lessB (l.drop (i + 1)) (m.drop (i + 1)) else decide (ix l i < ix m i) := by
  rw [drop_cons l i hl, drop_cons m i hm]
  unfold lessB
  by_cases h : ix l i = ix m i
  · rw [if_pos h]
    simp [List.cons_lt_cons_iff, h]
  · rw [if_neg h]
    simp [List.cons_lt_cons_iff, h]
theorem lessB_end (l m : List Int) (i : Nat) (hl : i ≤ l.length) (hm : i ≤ m.length) (h : ¬ (i < l.length ∧ i < m.length)) : lessB (l.drop i) (m.drop i) = decide (l.length < m.length) := by
  unfold lessB
  by_cases h1 : i < l.length
  · have : m.drop i = [] := List.drop_of_length_le (by omega)
    rw [this]
    have h2 : ¬ l.length < m.length := by omega
    simp [h2]
  · have : l.drop i = [] := List.drop_of_length_le (by omega)
    rw [this]
    by_cases h2 : i < m.length
    · rw [drop_cons m i h2]
      have h3 : l.length < m.length := by omega
      simp [h3]
    · have : m.drop i = [] := List.drop_of_length_le (by omega)
      rw [this]
      have h3 : ¬ l.length < m.length := by omega
      simp [h3]
theorem less_irrefl (l : List Int) : ¬ l < l := List.lt_irrefl l
theorem less_trans {a b c : List Int} (h : a < b) (k : b < c) : a < c := List.lt_trans h k
theorem less_tri : ∀ (a b : List Int), a < b ∨ a = b ∨ b < a
  | [], [] => .inr (.inl rfl)
  | [], _ :: _ => .inl (by simp)
  | _ :: _, [] => .inr (.inr (by simp))
  | x :: r, y :: s => by
    rcases Int.lt_trichotomy x y with g | g | g
    · exact .inl (List.cons_lt_cons_iff.2 (.inl g))
    · subst g
      rcases less_tri r s with h | h | h
      · exact .inl (List.cons_lt_cons_iff.2 (.inr ⟨rfl, h⟩))
      · exact .inr (.inl (by rw [h]))
      · exact .inr (.inr (List.cons_lt_cons_iff.2 (.inr ⟨rfl, h⟩)))
    · exact .inr (.inr (List.cons_lt_cons_iff.2 (.inl g)))

/-! ### sorted lists -/
theorem sorted_unique : ∀ {l m : List Int}, l.Pairwise (· ≤ ·) → m.Pairwise (· ≤ ·) → l.Perm m → l = m
  | [], m, _, _, h => (List.Perm.nil_eq h)
  | x :: r, [], _, _, h => by have := h.length_eq; simp at this
  | x :: r, y :: s, h1, h2, h => by
    rw [List.pairwise_cons] at h1 h2
    have hx : x ∈ y :: s := (h.mem_iff).1 (by simp)
    have hy : y ∈ x :: r := (h.mem_iff).2 (by simp)
    have e : x = y := by
      have a : y ≤ x := by
        rcases List.mem_cons.1 hx with e | e
        · omega
        · exact h2.1 x e
      have b : x ≤ y := by
        rcases List.mem_cons.1 hy with e | e
        · omega
        · exact h1.1 y e
      omega
    subst e
    rw [sorted_unique h1.2 h2.2 ((List.perm_cons x).1 h)]
/-- the numbers of l in ascending order -/
@[irreducible] def sortI (l : List Int) : List Int := l.mergeSort (fun a b => decide (a ≤ b))
theorem sortI_perm (l : List Int) : (sortI l).Perm l := by unfold sortI; exact List.mergeSort_perm l _
theorem sortI_sorted (l : List Int) : (sortI l).Pairwise (· ≤ ·) := by
  unfold sortI
  have := List.pairwise_mergeSort (le := fun (a b : Int) => decide (a ≤ b)) (fun a b c h1 h2 => by simp at *; omega) (fun a b => by simp; omega) l
  exact this.imp (fun h => by simpa using h)
theorem sortI_eq {l r : List Int} (hp : r.Perm l) (hs : r.Pairwise (· ≤ ·)) : r = sortI l :=
  sorted_unique hs (sortI_sorted l) (hp.trans (sortI_perm l).symm)
theorem sortI_congr {l m : List Int} (h : l.Perm m) : sortI l = sortI m := sortI_eq ((sortI_perm l).trans h) (sortI_sorted l)
theorem length_sortI (l : List Int) : (sortI l).length = l.length := (sortI_perm l).length_eq

/-! ### marks -/
@[irreducible] def ownN (u v x y : Int) : Int := (if u = y then 1 else 0) + (if v = y then 2 else 0) + (if u = x then 4 else 0) + (if v = x then 8 else 0)
theorem ownN_bd (u v x y : Int) : 0 ≤ ownN u v x y ∧ ownN u v x y ≤ 15 := by
  unfold ownN
  split <;> split <;> split <;> split <;> omega
/-- what an element tells of another one -/
@[irreducible] def ent1 (ts : List (List (List Int))) (c : List Int) (k x y : Nat) : Int :=
  ((ix c y * 64 + ix c (ent (tab ts k) x y).toNat) * 64 + ix c (ent (tab ts k) y x).toNat) * 16 + ownN (ent (tab ts k) x y) (ent (tab ts k) y x) x y
/-- how often x stands among the first m of row y -/
@[irreducible] def cntN (ts : List (List (List Int))) (k x y m : Nat) : Nat := (List.range m).countP fun z => decide (ent (tab ts k) y z = (x : Int))
theorem cntN_zero (ts : List (List (List Int))) (k x y : Nat) : cntN ts k x y 0 = 0 := by unfold cntN; simp
theorem cntN_succ (ts : List (List (List Int))) (k x y m : Nat) : cntN ts k x y (m + 1) = cntN ts k x y m + (if ent (tab ts k) y m = (x : Int) then 1 else 0) := by
  unfold cntN
  rw [List.range_succ, List.countP_append]
  congr 1
  by_cases h : ent (tab ts k) y m = (x : Int) <;> simp [h]
theorem cntN_le (ts : List (List (List Int))) (k x y m : Nat) : cntN ts k x y m ≤ m := by
  unfold cntN
  have := List.countP_le_length (p := fun z => decide (ent (tab ts k) y z = (x : Int))) (l := List.range m)
  simpa using this
@[irreducible] def ent2 (ts : List (List (List Int))) (c : List Int) (n k x y : Nat) : Int := 1099511627776 + ix c y * 64 + (cntN ts k x y n : Nat)
/-- what one table tells -/
@[irreducible] def entL (ts : List (List (List Int))) (c : List Int) (n k x : Nat) : List Int := mkL n (ent1 ts c k x) ++ mkL n (ent2 ts c n k x)
theorem length_entL (ts : List (List (List Int))) (c : List Int) (n k x : Nat) : (entL ts c n k x).length = 2 * n := by
  unfold entL; rw [List.length_append, length_mkL, length_mkL]; omega
/-- the mark of an element, by the first K tables -/
def markL (ts : List (List (List Int))) (c : List Int) (n x : Nat) : Nat → List Int
  | 0 => [ix c x]
  | K + 1 => markL ts c n x K ++ sortI (entL ts c n K x)
theorem length_markL (ts : List (List (List Int))) (c : List Int) (n x : Nat) : ∀ K, (markL ts c n x K).length = 1 + K * (2 * n)
  | 0 => by simp [markL]
  | K + 1 => by
    unfold markL
    rw [List.length_append, length_markL ts c n x K, length_sortI, length_entL]
    have : (K + 1) * (2 * n) = K * (2 * n) + 2 * n := Nat.succ_mul _ _
    omega
theorem markL_head (ts : List (List (List Int))) (c : List Int) (n x : Nat) : ∀ K, ix (markL ts c n x K) 0 = ix c x
  | 0 => by unfold markL; rw [ix_eq]; rfl
  | K + 1 => by
    unfold markL
    rw [ix_app (by rw [length_markL]; omega)]
    exact markL_head ts c n x K

/-! ### what isomorphisms keep -/
/-- p leads colours c to colours d -/
def Resp (n : Nat) (c d p : List Int) : Prop := ∀ x, x < n → ix c x = ix d (ix p x).toNat
theorem perm_range {n : Nat} {p : List Int} (hl : p.length = n) (hp : PermOk p) : ((List.range n).map fun i => (ix p i).toNat).Perm (List.range n) := by
  have hnd : ((List.range n).map fun i => (ix p i).toNat).Nodup := by
    rw [List.nodup_iff_pairwise_ne, List.pairwise_map]
    refine List.Pairwise.imp_of_mem (R := (· < ·)) ?_ List.pairwise_lt_range
    intro a b ha hb hab e
    rw [List.mem_range] at ha hb
    have h1 := hp.1 a (by omega)
    have h2 := hp.1 b (by omega)
    exact hp.2 b (by omega) a hab (by omega)
  rw [List.perm_ext_iff_of_nodup hnd List.nodup_range]
  intro y
  rw [List.mem_map, List.mem_range]
  constructor
  · rintro ⟨i, hi, rfl⟩
    rw [List.mem_range] at hi
    have := hp.1 i (by omega)
    omega
  · intro hy
    have := (permOk_iff_has p).1 hp y (by omega)
    rcases indexOf_spec p y with ⟨e, _⟩ | ⟨i, hi, _, e, _⟩
    · omega
    · exact ⟨i, by rw [List.mem_range]; omega, by omega⟩
theorem mkL_perm {n : Nat} {p : List Int} (hl : p.length = n) (hp : PermOk p) {f g : Nat → Int} (h : ∀ y, y < n → f y = g (ix p y).toNat) : (mkL n f).Perm (mkL n g) := by
  have e : mkL n f = ((List.range n).map fun i => (ix p i).toNat).map g := by
    unfold mkL
    rw [List.map_map]
    refine List.map_congr_left fun y hy => ?_
    rw [List.mem_range] at hy
    exact h y hy
  rw [e]
  unfold mkL
  exact (perm_range hl hp).map g
theorem cnt_iso {n : Nat} {az bz : List (List (List Int))} {p : List Int} (hA : TabsOk n az) (h : IsoOk n az bz p) {k : Nat} (hk : k < az.length) {x y : Nat} (hx : x < n) (hy : y < n) :
    cntN az k x y n = cntN bz k (ix p x).toNat (ix p y).toNat n := by
  have hr := perm_range h.1 h.2.1
  have e : cntN bz k (ix p x).toNat (ix p y).toNat n = ((List.range n).map fun i => (ix p i).toNat).countP fun z => decide (ent (tab bz k) (ix p y).toNat z = (((ix p x).toNat : Nat) : Int)) := by
    unfold cntN; exact (hr.countP_eq _).symm
  rw [e, List.countP_map]
  unfold cntN
  refine List.countP_congr fun z hz => ?_
  rw [List.mem_range] at hz
  have h1 := h.2.2 k hk y hy z hz
  have hb := hA.bd hk hy hz
  have hpx := h.bd hx
  simp only [Function.comp, decide_eq_true_eq]
  rw [← h1, Int.toNat_of_nonneg hpx.1]
  constructor
  · intro e; rw [e, Int.toNat_natCast]
  · intro e
    have := h.inj hb.2 hx e
    omega
theorem ent1_iso {n : Nat} {az bz : List (List (List Int))} {c d p : List Int} (hA : TabsOk n az) (h : IsoOk n az bz p) (hr : Resp n c d p) {k : Nat} (hk : k < az.length) {x y : Nat} (hx : x < n) (hy : y < n) :
    ent1 az c k x y = ent1 bz d k (ix p x).toNat (ix p y).toNat := by
  have h1 := h.2.2 k hk x hx y hy
  have h2 := h.2.2 k hk y hy x hx
  have b1 := hA.bd hk hx hy
  have b2 := hA.bd hk hy hx
  have px := h.bd hx
  have py := h.bd hy
  have pu := h.bd b1.2
  have pv := h.bd b2.2
  unfold ent1
  rw [← h1, ← h2, hr y hy, hr _ b1.2, hr _ b2.2]
  congr 1
  unfold ownN
  have key : ∀ {a b : Nat} {u : Int}, 0 ≤ u → u.toNat < n → b < n → (u = (b : Int) ↔ ix p u.toNat = (((ix p b).toNat : Nat) : Int)) := by
    intro a b u hu hun hb
    have pb := h.bd hb
    rw [Int.toNat_of_nonneg pb.1]
    constructor
    · intro e; rw [e, Int.toNat_natCast]
    · intro e
      have := h.inj hun hb e
      omega
  simp only [key (a := 0) b1.1 b1.2 hy, key (a := 0) b2.1 b2.2 hy, key (a := 0) b1.1 b1.2 hx, key (a := 0) b2.1 b2.2 hx]
theorem entL_iso {n : Nat} {az bz : List (List (List Int))} {c d p : List Int} (hA : TabsOk n az) (h : IsoOk n az bz p) (hr : Resp n c d p) {k : Nat} (hk : k < az.length) {x : Nat} (hx : x < n) :
    (entL az c n k x).Perm (entL bz d n k (ix p x).toNat) := by
  unfold entL
  refine List.Perm.append (mkL_perm h.1 h.2.1 fun y hy => ent1_iso hA h hr hk hx hy) (mkL_perm h.1 h.2.1 fun y hy => ?_)
  unfold ent2
  rw [hr y hy, cnt_iso hA h hk hx hy]
theorem markL_iso {n : Nat} {az bz : List (List (List Int))} {c d p : List Int} (hA : TabsOk n az) (h : IsoOk n az bz p) (hr : Resp n c d p) {x : Nat} (hx : x < n) :
    ∀ K, K ≤ az.length → markL az c n x K = markL bz d n (ix p x).toNat K
  | 0, _ => by unfold markL; rw [hr x hx]
  | K + 1, hK => by
    unfold markL
    rw [markL_iso hA h hr hx K (by omega), sortI_congr (entL_iso hA h hr (by omega) hx)]

/-! ### the kinds of marks -/
theorem sub_len {α : Type} [DecidableEq α] : ∀ {a b : List α}, a.Nodup → (∀ x, x ∈ a → x ∈ b) → a.length ≤ b.length
  | [], b, _, _ => Nat.zero_le _
  | x :: r, b, hn, hs => by
    rw [List.nodup_cons] at hn
    have hx : x ∈ b := hs x (by simp)
    have := sub_len (a := r) (b := b.erase x) hn.2 (fun y hy => by
      have hne : y ≠ x := fun e => hn.1 (e ▸ hy)
      exact (List.mem_erase_of_ne hne).2 (hs y (by simp [hy])))
    rw [List.length_erase_of_mem hx] at this
    have := List.length_pos_of_mem hx
    simp; omega
/-- the different lists among marks, in order -/
def Kinds (M K : List (List Int)) : Prop := K.Pairwise (· < ·) ∧ (∀ m, m ∈ K → m ∈ M) ∧ (∀ m, m ∈ M → m ∈ K)
theorem Kinds.nil : Kinds [] [] := ⟨List.Pairwise.nil, fun _ h => h, fun _ h => h⟩
theorem Kinds.nodup {M K : List (List Int)} (h : Kinds M K) : K.Nodup := by
  rw [List.nodup_iff_pairwise_ne]
  refine h.1.imp ?_
  intro a b hab e
  subst e
  exact less_irrefl _ hab
theorem Kinds.le {M K : List (List Int)} (h : Kinds M K) : K.length ≤ M.length := sub_len h.nodup h.2.1
/-- what has been passed stands ahead; the mark is there -/
theorem Kinds.skip {M K : List (List Int)} (h : Kinds M K) {i : Nat} {m : List Int} (hi : i < K.length) (he : row K i = m) : Kinds (M ++ [m]) K := by
  refine ⟨h.1, fun x hx => List.mem_append_left _ (h.2.1 x hx), fun x hx => ?_⟩
  rcases List.mem_append.1 hx with g | g
  · exact h.2.2 x g
  · have : x = m := by simpa using g
    subst this
    rw [← he, row_eq]
    simp [List.getD, hi]
theorem Kinds.insert {M K : List (List Int)} (h : Kinds M K) {i : Nat} {m : List Int} (hi : i ≤ K.length) (h1 : ∀ j, j < i → row K j < m) (h2 : i < K.length → ¬ row K i < m ∧ row K i ≠ m) :
    Kinds (M ++ [m]) (K.take i ++ ([m] ++ K.drop i)) := by
  have hsplit : K = K.take i ++ K.drop i := (List.take_append_drop i K).symm
  have hp := h.1
  rw [hsplit, List.pairwise_append] at hp
  obtain ⟨p1, p2, p3⟩ := hp
  have ht : ∀ x, x ∈ K.take i → x < m := by
    intro x hx
    obtain ⟨j, hj, rfl⟩ := List.mem_iff_getElem.1 hx
    have hj' : j < i ∧ j < K.length := by rw [List.length_take] at hj; omega
    have := h1 j hj'.1
    rw [row_eq] at this
    simpa [List.getD, hj'.2] using this
  have hd : ∀ x, x ∈ K.drop i → m < x := by
    intro x hx
    have hlt : i < K.length := by
      apply Classical.byContradiction
      intro g
      rw [List.drop_of_length_le (by omega)] at hx
      simp at hx
    obtain ⟨a, b⟩ := h2 hlt
    have hm : m < row K i := by
      rcases less_tri (row K i) m with g | g | g
      · exact absurd g a
      · exact absurd g b
      · exact g
    rw [row_drop K i hlt] at hx p2
    rw [List.pairwise_cons] at p2
    rcases List.mem_cons.1 hx with g | g
    · rw [g]; exact hm
    · exact less_trans hm (p2.1 x g)
  refine ⟨?_, ?_, ?_⟩
  · rw [List.pairwise_append]
    refine ⟨p1, ?_, ?_⟩
    · rw [List.singleton_append, List.pairwise_cons]
      exact ⟨hd, p2⟩
    · intro x hx y hy
      rw [List.singleton_append] at hy
      rcases List.mem_cons.1 hy with g | g
      · rw [g]; exact ht x hx
      · exact p3 x hx y g
  · intro x hx
    rcases List.mem_append.1 hx with g | g
    · exact List.mem_append_left _ (h.2.1 x (List.mem_of_mem_take g))
    · rw [List.singleton_append] at g
      rcases List.mem_cons.1 g with g | g
      · exact List.mem_append_right _ (by simp [g])
      · exact List.mem_append_left _ (h.2.1 x (List.mem_of_mem_drop g))
  · intro x hx
    rcases List.mem_append.1 hx with g | g
    · have := h.2.2 x g
      rw [hsplit] at this
      rcases List.mem_append.1 this with g | g
      · exact List.mem_append_left _ g
      · exact List.mem_append_right _ (List.mem_append_right _ g)
    · have : x = m := by simpa using g
      exact List.mem_append_right _ (List.mem_append_left _ (by simp [this]))
/-- the first place of m in K -/
@[irreducible] def placeL (K : List (List Int)) (m : List Int) : Nat := K.findIdx (fun x => decide (x = m))
theorem placeL_lt {K : List (List Int)} {m : List Int} (h : m ∈ K) : placeL K m < K.length := by
  unfold placeL
  exact List.findIdx_lt_length_of_exists ⟨m, h, by simp⟩
theorem placeL_at {K : List (List Int)} {m : List Int} (h : m ∈ K) : row K (placeL K m) = m := by
  have hl := placeL_lt h
  rw [row_eq]
  unfold placeL at hl ⊢
  have := List.findIdx_getElem (w := hl)
  simp [List.getD, hl] at this ⊢
  exact this
theorem placeL_ahead {K : List (List Int)} {m : List Int} {j : Nat} (h : j < placeL K m) : row K j ≠ m := by
  intro e
  unfold placeL at h
  have h1 := List.not_of_lt_findIdx h
  rw [row_eq] at e
  have hj : j < K.length := Nat.lt_of_lt_of_le h (List.findIdx_le_length)
  simp [List.getD, hj] at e h1
  exact h1 e
/-- number colours were all in use; each mark begins with its element's former colour: at least as many kinds -/
theorem Kinds.more {M K : List (List Int)} (h : Kinds M K) {number : Nat} (hc : ∀ c : Nat, c < number → ∃ i, i < M.length ∧ ix (row M i) 0 = (c : Int)) : number ≤ K.length := by
  have := sub_len (a := intRange number) (b := K.map fun m => ix m 0) (nodup_intRange _) (fun x hx => by
    have hx' := mem_intRange.1 hx
    obtain ⟨i, hi, e⟩ := hc x.toNat (by omega)
    rw [List.mem_map]
    refine ⟨row M i, h.2.2 _ ?_, by omega⟩
    rw [row_eq]; simp [List.getD, hi])
  rw [length_intRange] at this
  simpa using this
/-- each kind is in use -/
theorem Kinds.used {M K : List (List Int)} (h : Kinds M K) {c : Nat} (hc : c < K.length) : ∃ i, i < M.length ∧ placeL K (row M i) = c := by
  have hm : row K c ∈ K := by rw [row_eq]; simp [List.getD, hc]
  obtain ⟨i, hi, e⟩ := List.mem_iff_getElem.1 (h.2.1 _ hm)
  refine ⟨i, hi, ?_⟩
  have er : row M i = row K c := by rw [row_eq]; simp [List.getD, hi, e]
  rw [er]
  have hp := placeL_at hm
  have hl := placeL_lt hm
  rcases Nat.lt_trichotomy (placeL K (row K c)) c with g | g | g
  · have hn := h.nodup
    rw [List.nodup_iff_pairwise_ne, List.pairwise_iff_getElem] at hn
    have := hn _ _ hl hc g
    have e1 : K[placeL K (row K c)] = row K (placeL K (row K c)) := by rw [row_eq K (placeL K (row K c))]; simp [List.getD, hl]
    have e2 : K[c] = row K c := by rw [row_eq]; simp [List.getD, hc]
    rw [e1, e2] at this
    exact absurd hp this
  · exact g
  · exact absurd rfl (placeL_ahead g)
end Go.Proofs.Ytjbloenjphpngaa

/-
  The next permutation in lexicographic order: plain.
-/
namespace Go.Proofs.Ytjbloenjphpngaa
set_option linter.unusedVariables false
set_option linter.unusedSimpArgs false

/-- all permutations of n elements in lexicographic order -/
theorem isoOk_plain {n : Nat} {p : List Int} : IsoOk n [] [] p ↔ p.length = n ∧ PermOk p := by
  constructor
  · intro h; exact ⟨h.1, h.2.1⟩
  · rintro ⟨h1, h2⟩; exact ⟨h1, h2, fun k hk => by simp at hk⟩
/-- p falls from i on -/
def Falls (p : List Int) (i : Nat) : Prop := ∀ j, i ≤ j → j + 1 < p.length → ix p (j + 1) < ix p j
/-- p rises from i on -/
def Rises (p : List Int) (i : Nat) : Prop := ∀ j, i ≤ j → j + 1 < p.length → ix p j < ix p (j + 1)
theorem Falls.le {p : List Int} {i : Nat} (h : Falls p i) {a : Nat} (ha : i ≤ a) : ∀ (k : Nat), a + k < p.length → ix p (a + k) ≤ ix p a
  | 0, _ => Int.le_refl _
  | k + 1, hk => by
    have := Falls.le h ha k (by omega)
    have := h (a + k) (by omega) (by omega)
    rw [show a + (k + 1) = a + k + 1 by omega]; omega
theorem Rises.le {p : List Int} {i : Nat} (h : Rises p i) {a : Nat} (ha : i ≤ a) : ∀ (k : Nat), a + k < p.length → ix p a ≤ ix p (a + k)
  | 0, _ => Int.le_refl _
  | k + 1, hk => by
    have := Rises.le h ha k (by omega)
    have := h (a + k) (by omega) (by omega)
    rw [show a + (k + 1) = a + k + 1 by omega]; omega
/-- two permutations that agree ahead of d: what r has from d on, p has from d on -/
theorem perm_rest {n : Nat} {p r : List Int} (hp : IsoOk n [] [] p) (hr : IsoOk n [] [] r) {d : Nat} (he : ∀ i, i < d → ix p i = ix r i) {e : Nat} (hd : d ≤ e) (hen : e < n) : ∃ j, d ≤ j ∧ j < n ∧ ix p j = ix r e := by
  obtain ⟨y, hy⟩ : ∃ y : Nat, ix r e = (y : Int) := ⟨_, (Int.toNat_of_nonneg (hr.bd hen).1).symm⟩
  obtain ⟨j, hj, e2⟩ := hp.surj (y := y) (by have := hr.bd hen; omega)
  refine ⟨j, ?_, hj, by omega⟩
  apply Classical.byContradiction
  intro hlt
  have h1 := he j (by omega)
  have := hr.inj (x := j) (y := e) (by omega) hen (by omega)
  omega
theorem lex_first {n : Nat} {p r : List Int} (hp : p.length = n) (hr : r.length = n) (h : p ≠ r) : ∃ d, d < n ∧ (∀ i, i < d → ix p i = ix r i) ∧ ix p d ≠ ix r d := by
  apply Classical.byContradiction
  intro hno
  refine h (ix_ext (by omega) fun i hi => ?_)
  have : ∀ k, k ≤ n → ∀ i, i < k → ix p i = ix r i := by
    intro k
    induction k with
    | zero => intro _ i hi; omega
    | succ k ih =>
      intro hk i hi
      by_cases e : i < k
      · exact ih (by omega) i e
      · have : i = k := by omega
        subst this
        apply Classical.byContradiction
        intro hne
        exact hno ⟨i, by omega, ih (by omega), hne⟩
  exact this n (Nat.le_refl _) i (by omega)
/-- a permutation that rises from i on is the least of those that begin like it -/
theorem rises_least {n : Nat} {q r : List Int} (hq : IsoOk n [] [] q) (hr : IsoOk n [] [] r) {i : Nat} (hR : Rises q i) (he : ∀ j, j < i → ix q j = ix r j) (hne : q ≠ r) : LexLt q r := by
  obtain ⟨d, hd, h1, h2⟩ := lex_first hq.1 hr.1 hne
  have hid : i ≤ d := by
    apply Classical.byContradiction
    intro h
    exact h2 (he d (by omega))
  obtain ⟨j, hj, hjn, e⟩ := perm_rest hq hr h1 (Nat.le_refl d) hd
  have := hR.le hid (j - d) (by have := hq.1; omega)
  rw [show d + (j - d) = j by omega] at this
  exact ⟨d, h1, by omega⟩
/-- one that falls from i on is the greatest -/
theorem falls_greatest {n : Nat} {p r : List Int} (hp : IsoOk n [] [] p) (hr : IsoOk n [] [] r) {i : Nat} (hF : Falls p i) {d : Nat} (hd : d < n) (hid : i ≤ d) (h1 : ∀ j, j < d → ix p j = ix r j) : ix r d ≤ ix p d := by
  obtain ⟨j, hj, hjn, e⟩ := perm_rest hp hr h1 (Nat.le_refl d) hd
  have := hF.le hid (j - d) (by have := hp.1; omega)
  rw [show d + (j - d) = j by omega] at this
  omega
theorem lex_lt_len {n : Nat} {p r : List Int} (hp : p.length = n) (hr : r.length = n) (h : LexLt p r) : ∃ d, d < n ∧ (∀ i, i < d → ix p i = ix r i) ∧ ix p d < ix r d := by
  obtain ⟨d, h1, h2⟩ := h
  refine ⟨d, ?_, h1, h2⟩
  apply Classical.byContradiction
  intro hn
  have e1 : ix p d = 0 := by rw [ix_eq]; simp [List.getD, show p.length ≤ d by omega]
  have e2 : ix r d = 0 := by rw [ix_eq]; simp [List.getD, show r.length ≤ d by omega]
  omega
/-- q follows p: it agrees with p ahead of i, has at i the least of p's that are greater and stand behind, and rises behind i -/
structure NextP (n : Nat) (p q : List Int) (i : Nat) : Prop where
  hin : i < n
  falls : Falls p (i + 1)
  same : ∀ j, j < i → ix q j = ix p j
  more : ix p i < ix q i
  least : ∀ j, i < j → j < n → ix p i < ix p j → ix q i ≤ ix p j
  rises : Rises q (i + 1)
theorem next_least {n i : Nat} {p q r : List Int} (hp : IsoOk n [] [] p) (hq : IsoOk n [] [] q) (hr : IsoOk n [] [] r) (h : NextP n p q i) (hlt : LexLt p r) : q = r ∨ LexLt q r := by
  obtain ⟨d, hd, h1, h2⟩ := lex_lt_len hp.1 hr.1 hlt
  have hdi : d ≤ i := by
    apply Classical.byContradiction
    intro hn
    have := falls_greatest hp hr h.falls hd (by omega) h1
    omega
  by_cases e : d = i
  · subst e
    obtain ⟨j, hj, hjn, e⟩ := perm_rest hp hr h1 (Nat.le_refl d) hd
    have hjd : d < j := by
      apply Classical.byContradiction
      intro hn
      have : j = d := by omega
      subst this
      omega
    have := h.least j hjd hjn (by omega)
    by_cases e2 : ix q d = ix r d
    · by_cases e3 : q = r
      · exact .inl e3
      · refine .inr (rises_least hq hr h.rises (fun k hk => ?_) e3)
        by_cases e4 : k = d
        · subst e4; exact e2
        · rw [h.same k (by omega)]; exact h1 k (by omega)
    · exact .inr ⟨d, fun k hk => by rw [h.same k hk]; exact h1 k hk, by omega⟩
  · exact .inr ⟨d, fun k hk => by rw [h.same k (by omega)]; exact h1 k hk, by rw [h.same d (by omega)]; exact h2⟩
theorem LexLt.trans {p q r : List Int} (h : LexLt p q) (k : LexLt q r) : LexLt p r := by
  obtain ⟨d, h1, h2⟩ := h
  obtain ⟨e, k1, k2⟩ := k
  rcases Nat.lt_trichotomy d e with g | g | g
  · exact ⟨d, fun i hi => (h1 i hi).trans (k1 i (by omega)), by rw [← k1 d g]; exact h2⟩
  · subst g; exact ⟨d, fun i hi => (h1 i hi).trans (k1 i hi), by omega⟩
  · exact ⟨e, fun i hi => (h1 i (by omega)).trans (k1 i hi), by rw [h1 e g]; exact k2⟩
/-- in a sorted list: the member that stands right behind p -/
theorem sorted_next {L : List (List Int)} {pre rest : List (List Int)} {p q : List Int} (hs : L.Pairwise LexLt) (hL : L = pre ++ p :: rest) (hq : q ∈ L) (hpq : LexLt p q) (hmin : ∀ r, r ∈ L → LexLt p r → q = r ∨ LexLt q r) : ∃ rest', rest = q :: rest' := by
  subst hL
  have h2 := (List.pairwise_append.1 hs)
  have h3 := List.pairwise_cons.1 h2.2.1
  have hqr : q ∈ rest := by
    rcases List.mem_append.1 hq with h | h
    · exact absurd (hpq.trans (h2.2.2 q h p (by simp))) (LexLt.irrefl p)
    · rcases List.mem_cons.1 h with h | h
      · subst h; exact absurd hpq (LexLt.irrefl q)
      · exact h
  cases rest with
  | nil => simp at hqr
  | cons a rest =>
    rcases hmin a (by simp) (h3.1 a (by simp)) with e | e
    · subst e; exact ⟨rest, rfl⟩
    · rcases List.mem_cons.1 hqr with e2 | e2
      · subst e2; exact ⟨rest, rfl⟩
      · exact absurd (e.trans ((List.pairwise_cons.1 h3.2).1 q e2)) (LexLt.irrefl q)
theorem sorted_last {L : List (List Int)} {pre rest : List (List Int)} {p : List Int} (hs : L.Pairwise LexLt) (hL : L = pre ++ p :: rest) (hmax : ∀ r, r ∈ L → ¬ LexLt p r) : rest = [] := by
  subst hL
  cases rest with
  | nil => rfl
  | cons a rest =>
    have h2 := (List.pairwise_append.1 hs)
    exact absurd ((List.pairwise_cons.1 h2.2.1).1 a (by simp)) (hmax a (by simp))
theorem sorted_first {L : List (List Int)} {p : List Int} (hs : L.Pairwise LexLt) (hp : p ∈ L) (hmin : ∀ r, r ∈ L → p = r ∨ LexLt p r) : ∃ rest, L = p :: rest := by
  cases L with
  | nil => simp at hp
  | cons a rest =>
    have h3 := List.pairwise_cons.1 hs
    rcases hmin a (by simp) with e | e
    · subst e; exact ⟨rest, rfl⟩
    · rcases List.mem_cons.1 hp with e2 | e2
      · subst e2; exact ⟨rest, rfl⟩
      · exact absurd (e.trans (h3.1 p e2)) (LexLt.irrefl p)
/-- what swapping i and k and turning round all behind i makes of c -/
def swapC (c : Nat → Int) (i k x : Nat) : Int := if x = i then c k else if x = k then c i else c x
def turnC (c : Nat → Int) (i n x : Nat) : Int := if x ≤ i then c x else c (n + i - x)
def nextC (c : Nat → Int) (i k n : Nat) : Nat → Int := turnC (swapC c i k) i n
/-- the list of the first n values of c -/
def listC (c : Nat → Int) (n : Nat) : List Int := (List.range n).map c
theorem length_listC (c : Nat → Int) (n : Nat) : (listC c n).length = n := by simp [listC]
theorem ix_listC (c : Nat → Int) (n i : Nat) (h : i < n) : ix (listC c n) i = c i := by rw [ix_eq]; simp [listC, List.getD, h]
theorem listC_ix {p : List Int} {n : Nat} (h : p.length = n) : listC (ix p) n = p := ix_ext (by rw [length_listC, h]) fun i hi => by rw [length_listC] at hi; rw [ix_listC _ _ _ hi]
theorem swapC_swap (c : Nat → Int) (i k x : Nat) : swapC c i k x = c (if x = i then k else if x = k then i else x) := by
  unfold swapC
  by_cases h1 : x = i
  · rw [if_pos h1, if_pos h1]
  · rw [if_neg h1, if_neg h1]
    by_cases h2 : x = k
    · rw [if_pos h2, if_pos h2]
    · rw [if_neg h2, if_neg h2]
/-- places renamed: still a permutation -/
theorem perm_places {n : Nat} {p : List Int} (hp : IsoOk n [] [] p) (g : Nat → Nat) (hg : ∀ x, x < n → g x < n) (hi : ∀ x y, x < n → y < n → g x = g y → x = y) : IsoOk n [] [] (listC (fun x => ix p (g x)) n) := by
  refine isoOk_plain.2 ⟨length_listC _ _, ⟨fun i h => ?_, fun i h j hj e => ?_⟩⟩
  · rw [length_listC] at h ⊢
    rw [ix_listC _ _ _ h]
    have := hp.bd (hg i h)
    omega
  · rw [length_listC] at h
    rw [ix_listC _ _ _ h, ix_listC _ _ _ (by omega)] at e
    have := hp.inj (hg j (by omega)) (hg i h) e
    have := hi j i (by omega) h this
    omega
theorem nextC_perm {n i k : Nat} {p : List Int} (hp : IsoOk n [] [] p) (hi : i < n) (hk : k < n) (hik : i < k) : IsoOk n [] [] (listC (nextC (ix p) i k n) n) := by
  have h := perm_places hp (fun x => (fun y => if y = i then k else if y = k then i else y) (if x ≤ i then x else n + i - x)) (fun x hx => by
    simp only []
    repeat' split
    all_goals omega) (fun x y hx hy => by
    simp only []
    repeat' split
    all_goals omega)
  have e : (fun x => ix p ((fun y => if y = i then k else if y = k then i else y) (if x ≤ i then x else n + i - x))) = nextC (ix p) i k n := by
    funext x
    unfold nextC turnC
    simp only []
    by_cases hx : x ≤ i
    · rw [if_pos hx, if_pos hx, swapC_swap]
    · rw [if_neg hx, if_neg hx, swapC_swap]
  rw [e] at h
  exact h
/-- the program's choice of i and k: the next permutation -/
theorem nextC_next {n i k : Nat} {p : List Int} (hp : IsoOk n [] [] p) (hi : i + 1 < n) (hk : k < n) (hik : i < k) (hF : Falls p (i + 1)) (hup : ix p i < ix p k) (hlow : ∀ j, k < j → j < n → ix p j < ix p i) : NextP n p (listC (nextC (ix p) i k n) n) i where
  hin := by omega
  falls := hF
  same j hj := by
    rw [ix_listC _ _ _ (by omega)]
    unfold nextC turnC swapC
    rw [if_pos (by omega), if_neg (by omega), if_neg (by omega)]
  more := by
    rw [ix_listC _ _ _ (by omega)]
    unfold nextC turnC swapC
    rw [if_pos (Nat.le_refl _), if_pos rfl]
    exact hup
  least j hj hjn hlt := by
    rw [ix_listC _ _ _ (by omega)]
    unfold nextC turnC swapC
    rw [if_pos (Nat.le_refl _), if_pos rfl]
    have hjk : j ≤ k := by
      apply Classical.byContradiction
      intro hn
      have := hlow j (by omega) hjn
      omega
    have := hF.le (a := j) (by omega) (k - j) (by have := hp.1; omega)
    rw [show j + (k - j) = k by omega] at this
    exact this
  rises j hj hjl := by
    rw [length_listC] at hjl
    rw [ix_listC _ _ _ (by omega), ix_listC _ _ _ hjl]
    have hpl := hp.1
    -- places y = n + i - j and y - 1 of the swapped list
    obtain ⟨y, hy⟩ : ∃ y, y = n + i - (j + 1) := ⟨_, rfl⟩
    have hy2 : n + i - j = y + 1 := by omega
    unfold nextC turnC
    rw [if_neg (by omega), if_neg (by omega), hy2, ← hy]
    have hyi : i < y := by omega
    have hyn : y + 1 < n := by omega
    have h1 := hF y (by omega) (by omega)
    unfold swapC
    rw [if_neg (by omega), if_neg (show ¬ y = i by omega)]
    by_cases e1 : y + 1 = k
    · rw [if_pos e1, if_neg (by omega)]
      rw [e1] at h1
      omega
    · rw [if_neg e1]
      by_cases e2 : y = k
      · rw [if_pos e2]
        exact hlow (y + 1) (by omega) hyn
      · rw [if_neg e2]; exact h1
theorem NextP.lt {n i : Nat} {p q : List Int} (h : NextP n p q i) : LexLt p q := ⟨i, fun j hj => (h.same j hj).symm, h.more⟩
/-- the identity is the first -/
theorem first_perm {n : Nat} {p : List Int} (hp : IsoOk n [] [] p) (hr : ∀ x, x < n → ix p x = (x : Int)) : ∀ r, r ∈ isoL n [] [] → p = r ∨ LexLt p r := fun r h => by
  by_cases e : p = r
  · exact .inl e
  · exact .inr (rises_least hp (mem_isoL.1 h) (i := 0) (fun j _ hj => by rw [hr j (by have := hp.1; omega), hr (j + 1) (by have := hp.1; omega)]; omega) (fun j hj => by omega) e)
/-- what the program's next permutation does to the list of all -/
theorem perms_next {n i : Nat} {p q : List Int} {pre rest : List (List Int)} (hp : IsoOk n [] [] p) (hq : IsoOk n [] [] q) (h : NextP n p q i) (hL : isoL n [] [] = pre ++ p :: rest) : ∃ rest', rest = q :: rest' :=
  sorted_next (sorted_isoL n [] []) hL (mem_isoL.2 hq) h.lt fun r hr hlt => next_least hp hq (mem_isoL.1 hr) h hlt
theorem perms_last {n : Nat} {p : List Int} {pre rest : List (List Int)} (hp : IsoOk n [] [] p) (hF : Falls p 0) (hL : isoL n [] [] = pre ++ p :: rest) : rest = [] :=
  sorted_last (sorted_isoL n [] []) hL fun r hr hlt => by
    have hri := mem_isoL.1 hr
    obtain ⟨d, hd, h1, h2⟩ := lex_lt_len hp.1 hri.1 hlt
    have := falls_greatest hp hri hF hd (Nat.zero_le _) h1
    omega
end Go.Proofs.Ytjbloenjphpngaa

/-
  The table the other way round; comparing; sets as numbers: plain.
-/
namespace Go.Proofs.Ytjbloenjphpngaa
set_option linter.unusedVariables false
set_option linter.unusedSimpArgs false
open Go.RowKit

/-- the other way round -/
@[irreducible] def turnF (t : List (List Int)) (x y : Nat) : Int := ent t y x
theorem turnF_def (t : List (List Int)) (x y : Nat) : turnF t x y = ent t y x := by unfold turnF; rfl
@[irreducible] def turnT (t : List (List Int)) : List (List Int) := mkT t.length (turnF t)
theorem turnT_def (t : List (List Int)) : turnT t = mkT t.length (turnF t) := by unfold turnT; rfl
theorem length_turnT (t : List (List Int)) : (turnT t).length = t.length := by rw [turnT_def]; exact length_mkT _ _
theorem length_row_mkT (n : Nat) (f : Nat → Nat → Int) (x : Nat) (h : x < n) : (row (mkT n f) x).length = n := by rw [row_mkT _ _ _ h]; exact length_partRow _ _ _ _
theorem length_row_turnT (t : List (List Int)) (x : Nat) (h : x < t.length) : (row (turnT t) x).length = t.length := by rw [turnT_def]; exact length_row_mkT _ _ _ h
theorem ent_turnT (t : List (List Int)) (x y : Nat) (hx : x < t.length) (hy : y < t.length) : ent (turnT t) x y = ent t y x := by rw [turnT_def, ent_mkT _ _ _ _ hx hy, turnF_def]
theorem small_turnT {t : List (List Int)} (h : t.length ≤ 1048576) : Small (turnT t) := by rw [turnT_def]; exact small_mkT h _

/-! ### comparing -/
def cmpI (a b : Int) : Int := if a < b then -1 else if b < a then 1 else 0
theorem cmpI_zero {a b : Int} : cmpI a b = 0 ↔ a = b := by
  unfold cmpI
  split
  · constructor
    · intro h; simp at h
    · intro h; omega
  · split
    · constructor
      · intro h; simp at h
      · intro h; omega
    · constructor
      · intro _; omega
      · intro _; rfl
/-- lexicographic: the first place that differs, then the length -/
def cmpBy {α : Type} (c : α → α → Int) : List α → List α → Int
  | [], [] => 0
  | [], _ :: _ => -1
  | _ :: _, [] => 1
  | x :: r, y :: s => if c x y = 0 then cmpBy c r s else c x y
theorem cmpBy_zero {α : Type} {c : α → α → Int} (hc : ∀ x y, c x y = 0 ↔ x = y) : ∀ l m : List α, cmpBy c l m = 0 ↔ l = m
  | [], [] => by simp [cmpBy]
  | [], _ :: _ => by simp [cmpBy]
  | _ :: _, [] => by simp [cmpBy]
  | x :: r, y :: s => by
    unfold cmpBy
    by_cases h : c x y = 0
    · rw [if_pos h, cmpBy_zero hc r s]
      have := (hc x y).1 h
      subst this; simp
    · rw [if_neg h]
      constructor
      · intro h2; exact absurd h2 h
      · intro h2
        have : x = y := by simpa using congrArg List.head? h2
        exact absurd ((hc x y).2 this) h
@[irreducible] def cmpL (l m : List Int) : Int := cmpBy cmpI l m
@[irreducible] def cmpT (s t : List (List Int)) : Int := cmpBy cmpL s t
theorem cmpL_zero {l m : List Int} : cmpL l m = 0 ↔ l = m := by unfold cmpL; exact cmpBy_zero (fun _ _ => cmpI_zero) l m
theorem cmpT_zero {s t : List (List Int)} : cmpT s t = 0 ↔ s = t := by unfold cmpT; exact cmpBy_zero (fun _ _ => cmpL_zero) s t
/-- behind the first k places -/
@[irreducible] def cmpLF (l m : List Int) (k : Nat) : Int := cmpL (l.drop k) (m.drop k)
@[irreducible] def cmpTF (s t : List (List Int)) (k : Nat) : Int := cmpT (s.drop k) (t.drop k)
theorem cmpLF_zero (l m : List Int) : cmpL l m = cmpLF l m 0 := by unfold cmpLF; simp
theorem cmpTF_zero (l m : List (List Int)) : cmpT l m = cmpTF l m 0 := by unfold cmpTF; simp
theorem cmpLF_more {l m : List Int} {k : Nat} (h : k < l.length) (h2 : m.length ≤ k) : cmpLF l m k = 1 := by
  unfold cmpLF cmpL; rw [drop_cons l k h, List.drop_of_length_le h2]; rfl
theorem cmpLF_less {l m : List Int} {k : Nat} (h : l.length ≤ k) (h2 : k < m.length) : cmpLF l m k = -1 := by
  unfold cmpLF cmpL; rw [drop_cons m k h2, List.drop_of_length_le h]; rfl
theorem cmpLF_end {l m : List Int} {k : Nat} (h : l.length ≤ k) (h2 : m.length ≤ k) : cmpLF l m k = 0 := by
  unfold cmpLF cmpL; rw [List.drop_of_length_le h2, List.drop_of_length_le h]; rfl
theorem cmpLF_ne {l m : List Int} {k : Nat} (h : k < l.length) (h2 : k < m.length) (e : cmpI (ix l k) (ix m k) ≠ 0) : cmpLF l m k = cmpI (ix l k) (ix m k) := by
  unfold cmpLF cmpL; rw [drop_cons l k h, drop_cons m k h2]; simp only [cmpBy]; rw [if_neg e]
theorem cmpLF_eq {l m : List Int} {k : Nat} (h : k < l.length) (h2 : k < m.length) (e : cmpI (ix l k) (ix m k) = 0) : cmpLF l m k = cmpLF l m (k + 1) := by
  unfold cmpLF cmpL; rw [drop_cons l k h, drop_cons m k h2]; simp only [cmpBy]; rw [if_pos e]
theorem cmpTF_more {l m : List (List Int)} {k : Nat} (h : k < l.length) (h2 : m.length ≤ k) : cmpTF l m k = 1 := by
  unfold cmpTF cmpT; rw [row_drop l k h, List.drop_of_length_le h2]; rfl
theorem cmpTF_less {l m : List (List Int)} {k : Nat} (h : l.length ≤ k) (h2 : k < m.length) : cmpTF l m k = -1 := by
  unfold cmpTF cmpT; rw [row_drop m k h2, List.drop_of_length_le h]; rfl
theorem cmpTF_end {l m : List (List Int)} {k : Nat} (h : l.length ≤ k) (h2 : m.length ≤ k) : cmpTF l m k = 0 := by
  unfold cmpTF cmpT; rw [List.drop_of_length_le h2, List.drop_of_length_le h]; rfl
theorem cmpTF_ne {l m : List (List Int)} {k : Nat} (h : k < l.length) (h2 : k < m.length) (e : cmpL (row l k) (row m k) ≠ 0) : cmpTF l m k = cmpL (row l k) (row m k) := by
  unfold cmpTF cmpT; rw [row_drop l k h, row_drop m k h2]; simp only [cmpBy]; rw [if_neg e]
theorem cmpTF_eq {l m : List (List Int)} {k : Nat} (h : k < l.length) (h2 : k < m.length) (e : cmpL (row l k) (row m k) = 0) : cmpTF l m k = cmpTF l m (k + 1) := by
  unfold cmpTF cmpT; rw [row_drop l k h, row_drop m k h2]; simp only [cmpBy]; rw [if_pos e]
theorem cmpT_eqTB (s t : List (List Int)) : (cmpT s t == 0) = eqTB s t := by
  rw [Bool.eq_iff_iff, eqTB_iff, beq_iff_eq, cmpT_zero]

/-! ### abelian, center -/
@[irreducible] def abelB (t : List (List Int)) : Bool := eqTB t (turnT t)
theorem abelB_def (t : List (List Int)) : eqTB t (turnT t) = abelB t := by unfold abelB; rfl
/-- x y = y x for the first k elements y -/
def ComTo (t : List (List Int)) (x k : Nat) : Prop := ∀ y, y < k → ent t x y = ent t y x
instance (t x k) : Decidable (ComTo t x k) := by unfold ComTo; infer_instance
def ComAll (t : List (List Int)) (k : Nat) : Prop := ∀ x, x < k → ComTo t x x
theorem ComTo.zero (t x) : ComTo t x 0 := all_zero
theorem ComTo.succ {t x k} (h : ComTo t x k) (hk : ent t x k = ent t k x) : ComTo t x (k + 1) := all_succ h hk
theorem ComTo.mono {t x k k'} (h : ComTo t x k) (hk : k' ≤ k) : ComTo t x k' := all_mono h hk
theorem ComAll.zero (t) : ComAll t 0 := all_zero
theorem ComAll.succ {t k} (h : ComAll t k) (hk : ComTo t k k) : ComAll t (k + 1) := all_succ h hk
theorem row_eq_turn {t : List (List Int)} (h : TableOk t) {x : Nat} (hx : x < t.length) : row t x = row (turnT t) x ↔ ComTo t x t.length := by
  constructor
  · intro e y hy
    rw [← ent_turnT t x y hx hy, ← ent_def, e, ent_def]
  · intro hc
    refine ix_ext (by rw [h.len hx, length_row_turnT _ _ hx]) fun i hi => ?_
    rw [h.len hx] at hi
    rw [ent_def, ent_def, ent_turnT t x i hx hi]
    exact hc i hi
theorem abelB_iff {t : List (List Int)} (h : TableOk t) : abelB t = true ↔ ComAll t t.length := by
  rw [← abelB_def, eqTB_iff]
  constructor
  · intro e x hx y hy
    have : row t x = row (turnT t) x := by rw [← e]
    exact (row_eq_turn h hx).1 this y (by omega)
  · intro hc
    refine row_ext (by rw [length_turnT]) fun x hx => (row_eq_turn h hx).2 fun y hy => ?_
    rcases Nat.lt_trichotomy x y with h1 | h1 | h1
    · exact (hc y hy x h1).symm
    · rw [h1]
    · exact hc x hx y h1
@[irreducible] def comB (t : List (List Int)) (x k : Nat) : Bool := decide (ComTo t x k)
theorem comB_iff {t x k} : comB t x k = true ↔ ComTo t x k := by unfold comB; simp
theorem comB_zero (t x) : comB t x 0 = true := comB_iff.2 (ComTo.zero t x)
theorem comB_succ (t : List (List Int)) (x k : Nat) : comB t x (k + 1) = (comB t x k && (ent t x k == ent t k x)) := by
  rw [Bool.eq_iff_iff, Bool.and_eq_true, comB_iff, comB_iff, beq_iff_eq]
  exact ⟨fun h => ⟨h.mono (by omega), h k (by omega)⟩, fun h => h.1.succ h.2⟩
theorem comB_row {t : List (List Int)} (h : TableOk t) {x : Nat} (hx : x < t.length) : eqIB (row t x) (row (turnT t) x) = comB t x t.length := by
  rw [Bool.eq_iff_iff, eqIB_iff, comB_iff]; exact row_eq_turn h hx

/-- the number whose bits are the x below k with p x, as the program makes it -/
def setTo (p : Nat → Bool) : Nat → Int
  | 0 => 0
  | k + 1 => if p k = true then bits .or .i64 (setTo p k) (wrap64 (2 ^ k)) else setTo p k
@[irreducible] def setOf (p : Nat → Bool) (k : Nat) : Int := setTo p k
theorem setOf_zero (p) : setOf p 0 = 0 := by unfold setOf; rfl
theorem setOf_yes {p : Nat → Bool} {k : Nat} (h : p k = true) : setOf p (k + 1) = bits .or .i64 (setOf p k) (wrap64 (2 ^ k)) := by unfold setOf; simp only [setTo]; rw [if_pos h]
theorem setOf_no {p : Nat → Bool} {k : Nat} (h : p k = false) : setOf p (k + 1) = setOf p k := by unfold setOf; simp only [setTo]; rw [if_neg (by rw [h]; simp)]
@[irreducible] def centerI (t : List (List Int)) : Int := setOf (fun x => comB t x t.length) t.length
theorem centerI_def (t : List (List Int)) : centerI t = setOf (fun x => comB t x t.length) t.length := by unfold centerI; rfl
/-- no group: 1 -/
@[irreducible] def codeG (t : List (List Int)) : Int := if groupB t = true then 0 else 1
theorem codeG_yes {t} (h : groupB t = true) : codeG t = 0 := by unfold codeG; rw [if_pos h]
theorem codeG_no {t} (h : groupB t = false) : codeG t = 1 := by unfold codeG; rw [if_neg (by rw [h]; simp)]
/-- a value where t is a group -/
@[irreducible] def ifG {α : Type} (t : List (List Int)) (a d : α) : α := if groupB t = true then a else d
theorem ifG_yes {α : Type} {t} {a d : α} (h : groupB t = true) : ifG t a d = a := by unfold ifG; rw [if_pos h]
theorem ifG_no {α : Type} {t} {a d : α} (h : groupB t = false) : ifG t a d = d := by unfold ifG; rw [if_neg (by rw [h]; simp)]
end Go.Proofs.Ytjbloenjphpngaa

/-
  Conjugation in a group; reading tables: plain.
-/
namespace Go.Proofs.Ytjbloenjphpngaa
set_option linter.unusedVariables false
set_option linter.unusedSimpArgs false

/-- x y (inverse of x) -/
@[irreducible] def conjF (t : List (List Int)) (x y : Nat) : Int := ent t (ent t x y).toNat (backF t x).toNat
theorem conjF_def (t : List (List Int)) (x y : Nat) : ent t (ent t x y).toNat (backF t x).toNat = conjF t x y := by unfold conjF; rfl

/-- a row of a table, as it lies, and its entries -/
theorem RowsAt.read {w : World} {b o n : Nat} {t : List (List Int)} (h : RowsAt w b o t) (hT : TableOk t) (hn : t.length = n) {x : Nat} (hx : x < n) :
    ∃ d s m, w.cell? ⟨b, o + x, none⟩ = some (.slice (some ⟨d, s, none⟩) n m) ∧ ∀ y, y < n → w.cell? ⟨d, s + y, none⟩ = some (.int .i64 (ent t x y)) ∧ 0 ≤ ent t x y ∧ ent t x y < (n : Int) := by
  subst hn
  obtain ⟨d, s, m, r, l, -⟩ := h.get hx
  rw [hT.len hx] at r
  exact ⟨d, s, m, r, fun y hy => ⟨l.ent (hT.len hx) hy, (hT.bd hx hy).1, by have := (hT.bd hx hy).2; omega⟩⟩
end Go.Proofs.Ytjbloenjphpngaa

/-
  Normal subgroups: plain.
-/
namespace Go.Proofs.Ytjbloenjphpngaa
set_option linter.unusedVariables false
set_option linter.unusedSimpArgs false
open Go.RowKit

theorem conjF_bd {t : List (List Int)} (hG : GroupOk t) {x y : Nat} (hx : x < t.length) (hy : y < t.length) : 0 ≤ conjF t x y ∧ conjF t x y < (t.length : Int) := by
  rw [← conjF_def]
  have h1 := backF_ok hG hx
  have h2 := hG.1.bd hx hy
  have := hG.1.bd (x := (ent t x y).toNat) (y := (backF t x).toNat) (by omega) (by omega)
  omega
def NormRow (t : List (List Int)) (m x k : Nat) : Prop := ∀ y, y < k → bitB m y = true → bitB m (conjF t x y).toNat = true
def NormTo (t : List (List Int)) (m n k : Nat) : Prop := ∀ x, x < k → NormRow t m x n
instance (t m x k) : Decidable (NormRow t m x k) := by unfold NormRow; infer_instance
instance (t m n k) : Decidable (NormTo t m n k) := by unfold NormTo; infer_instance
@[irreducible] def normB (t : List (List Int)) (m : Nat) : Bool := decide (NormTo t m t.length t.length)
theorem normB_iff {t m} : normB t m = true ↔ NormTo t m t.length t.length := by unfold normB; simp
theorem normB_yes {t m} (h : NormTo t m t.length t.length) : normB t m = true := normB_iff.2 h
theorem normB_no {t m} {x y : Nat} (hx : x < t.length) (hy : y < t.length) (hb : bitB m y = true) (hc : bitB m (conjF t x y).toNat = false) : normB t m = false := by
  rw [← Bool.not_eq_true, normB_iff]
  intro h; rw [h x hx y hy hb] at hc; cases hc
theorem NormRow.zero (t m x) : NormRow t m x 0 := all_zero
theorem NormRow.succ {t m x k} (h : NormRow t m x k) (hk : bitB m k = true → bitB m (conjF t x k).toNat = true) : NormRow t m x (k + 1) := all_succ h hk
theorem NormRow.mono {t m x k k'} (h : NormRow t m x k) (hk : k' ≤ k) : NormRow t m x k' := all_mono h hk
theorem NormTo.zero (t m n) : NormTo t m n 0 := all_zero
theorem NormTo.succ {t m n k} (h : NormTo t m n k) (hk : NormRow t m k n) : NormTo t m n (k + 1) := all_succ h hk
/-- over the list of the elements -/
def NormL (t : List (List Int)) (m x k : Nat) : Prop := ∀ i, i < k → bitB m (conjF t x (ix (elemsL m) i).toNat).toNat = true
theorem NormL.zero (t m x) : NormL t m x 0 := all_zero
theorem NormL.succ {t m x k} (h : NormL t m x k) (hk : bitB m (conjF t x (ix (elemsL m) k).toNat).toNat = true) : NormL t m x (k + 1) := all_succ h hk
theorem NormL.row {t : List (List Int)} {m x : Nat} (hm : m < 2 ^ t.length) (hn : t.length ≤ 12) (h : NormL t m x (elemsL m).length) : NormRow t m x t.length := fun y _ hb => by
  obtain ⟨i, hi, e⟩ := elemsL_has hm (by omega) hb
  have := h i hi
  rw [e] at this
  simpa using this
/-- the code of a group and a subgroup -/
@[irreducible] def subC (t : List (List Int)) (a : Int) : Int :=
  if groupB t = true then (if inR a 0 (((2 ^ t.length : Nat) : Int) - 1) = true then (if subB t a.toNat = true then 0 else 5) else 2) else 1
theorem subC_1 {t a} (h : groupB t = false) : subC t a = 1 := by unfold subC; rw [if_neg (by rw [h]; simp)]
theorem subC_2 {t a} (h : groupB t = true) (h2 : inR a 0 (((2 ^ t.length : Nat) : Int) - 1) = false) : subC t a = 2 := by unfold subC; rw [if_pos h, if_neg (by rw [h2]; simp)]
theorem subC_5 {t} {m : Nat} (h : groupB t = true) (h2 : inR m 0 (((2 ^ t.length : Nat) : Int) - 1) = true) (h3 : subB t m = false) : subC t m = 5 := by unfold subC; rw [if_pos h, if_pos h2, if_neg (by rw [Int.toNat_natCast, h3]; simp)]
theorem subC_0 {t} {m : Nat} (h : groupB t = true) (h2 : inR m 0 (((2 ^ t.length : Nat) : Int) - 1) = true) (h3 : subB t m = true) : subC t m = 0 := by unfold subC; rw [if_pos h, if_pos h2, if_pos (by rw [Int.toNat_natCast]; exact h3)]
theorem subC_zero {t a} (h : subC t a = 0) : groupB t = true ∧ ∃ m : Nat, a = (m : Int) ∧ m < 2 ^ t.length ∧ subB t m = true := by
  unfold subC at h
  split at h
  · rename_i h1
    split at h
    · rename_i h2
      split at h
      · rename_i h3
        have := inR_iff.1 h2
        obtain ⟨m, rfl⟩ := Int.eq_ofNat_of_zero_le this.1
        rw [Int.toNat_natCast] at h3
        exact ⟨h1, m, rfl, by omega, h3⟩
      · omega
    · omega
  · omega
/-- what IsNormalIn returns -/
@[irreducible] def normV (t : List (List Int)) (a : Int) : Bool := if subC t a = 0 then normB t a.toNat else false
theorem normV_bad {t a} (h : subC t a ≠ 0) : normV t a = false := by unfold normV; rw [if_neg h]
theorem normV_good {t} {m : Nat} (h : subC t m = 0) : normV t m = normB t m := by unfold normV; rw [if_pos h, Int.toNat_natCast]
theorem ediv2_bit {m : Nat} (h : m < 2 ^ 62) (hb : bitB m 0 = true) : ((m : Int) % 2 == 0) = false := by
  rw [bitB_zero_odd h] at hb
  have := eq_of_beq hb
  rw [beq_eq_false_iff_ne]; omega
theorem ediv2_nobit {m : Nat} (h : m < 2 ^ 62) (hb : bitB m 0 = false) : ((m : Int) % 2 == 0) = true := by
  rw [bitB_zero_odd h, beq_eq_false_iff_ne] at hb
  rw [beq_iff_eq]; omega
end Go.Proofs.Ytjbloenjphpngaa

/-
  Numbering labels by their first occurrence: plain.
-/
namespace Go.Proofs.Ytjbloenjphpngaa
set_option linter.unusedVariables false
set_option linter.unusedSimpArgs false

/-- the labels among the first i, each once, in the order of their first occurrence -/
def seenTo (l : List Int) : Nat → List Int
  | 0 => []
  | i + 1 => if hasB (seenTo l i) (ix l i) = true then seenTo l i else seenTo l i ++ [ix l i]
theorem seenTo_old {l : List Int} {i : Nat} (h : hasB (seenTo l i) (ix l i) = true) : seenTo l (i + 1) = seenTo l i := by simp only [seenTo]; rw [if_pos h]
theorem seenTo_new {l : List Int} {i : Nat} (h : hasB (seenTo l i) (ix l i) = false) : seenTo l (i + 1) = seenTo l i ++ [ix l i] := by simp only [seenTo]; rw [if_neg (by rw [h]; simp)]
theorem seenTo_len (l : List Int) : ∀ i, (seenTo l i).length ≤ i
  | 0 => by simp [seenTo]
  | i + 1 => by
    have := seenTo_len l i
    cases h : hasB (seenTo l i) (ix l i) with
    | true => rw [seenTo_old h]; omega
    | false => rw [seenTo_new h]; simp; omega
theorem hasB_mem {l : List Int} {n : Int} : hasB l n = true ↔ n ∈ l := by
  rw [hasB_iff]
  rcases indexOf_spec l n with ⟨h1, h2⟩ | ⟨i, h1, h2, h3, _⟩
  · rw [h1]
    constructor
    · intro h; omega
    · intro h; obtain ⟨i, hi, e⟩ := mem_ix h; exact absurd e (h2 i hi)
  · rw [h2]
    constructor
    · intro _; rw [← h3]; exact ix_mem l i h1
    · intro _; omega
theorem ix_append_left {a b : List Int} {i : Nat} (h : i < a.length) : ix (a ++ b) i = ix a i := by
  rw [ix_eq, ix_eq]; simp [List.getD, List.getElem?_append_left h]
theorem ix_append_one (a : List Int) (x : Int) : ix (a ++ [x]) a.length = x := by rw [ix_eq]; simp [List.getD]
theorem indexOf_append_old {a b : List Int} {x : Int} (h : hasB a x = true) : indexOf (a ++ b) x = indexOf a x := by
  rcases indexOf_spec a x with ⟨h1, _⟩ | ⟨i, h1, h2, h3, h4⟩
  · rw [hasB_iff, h1] at h; omega
  · rcases indexOf_spec (a ++ b) x with ⟨_, k2⟩ | ⟨j, k1, k2, k3, k4⟩
    · exact absurd (by rw [ix_append_left h1, h3]) (k2 i (by simp; omega))
    · rw [h2, k2]
      have hij : i = j := by
        rcases Nat.lt_trichotomy i j with g | g | g
        · exact absurd (by rw [ix_append_left h1, h3]) (k4 i g)
        · exact g
        · exact absurd (by rw [← ix_append_left (b := b) (by omega), k3]) (h4 j g)
      rw [hij]
theorem indexOf_append_new {a : List Int} {x : Int} (h : hasB a x = false) : indexOf (a ++ [x]) x = (a.length : Int) := by
  have hn : ¬ x ∈ a := fun hm => by rw [hasB_mem.2 hm] at h; cases h
  rcases indexOf_spec (a ++ [x]) x with ⟨_, k2⟩ | ⟨j, k1, k2, k3, k4⟩
  · exact absurd (ix_append_one a x) (k2 a.length (by simp))
  · rw [k2]
    have hj : ¬ j < a.length := fun hj => by
      rw [ix_append_left hj] at k3
      exact hn (by rw [← k3]; exact ix_mem a j hj)
    have : j = a.length := by simp at k1; omega
    rw [this]
/-- the number of label i -/
@[irreducible] def numF (l : List Int) (i : Nat) : Int := indexOf (seenTo l (i + 1)) (ix l i)
@[irreducible] def numL (l : List Int) : List Int := mkL l.length (numF l)
theorem length_numL (l : List Int) : (numL l).length = l.length := by unfold numL; exact length_mkL _ _
theorem ix_numL (l : List Int) (i : Nat) (h : i < l.length) : ix (numL l) i = numF l i := by unfold numL; exact ix_mkL _ _ _ h
theorem numF_old {l : List Int} {i : Nat} (h : hasB (seenTo l i) (ix l i) = true) : numF l i = indexOf (seenTo l i) (ix l i) := by unfold numF; rw [seenTo_old h]
theorem numF_new {l : List Int} {i : Nat} (h : hasB (seenTo l i) (ix l i) = false) : numF l i = ((seenTo l i).length : Int) := by unfold numF; rw [seenTo_new h, indexOf_append_new h]
theorem numF_eq (l : List Int) (i : Nat) : indexOf (seenTo l (i + 1)) (ix l i) = numF l i := by unfold numF; rfl
/-- what is seen stays seen, at its place -/
theorem seenTo_mono {l : List Int} {x : Int} {i : Nat} (h : hasB (seenTo l i) x = true) : ∀ d, hasB (seenTo l (i + d)) x = true ∧ indexOf (seenTo l (i + d)) x = indexOf (seenTo l i) x
  | 0 => ⟨h, rfl⟩
  | d + 1 => by
    have ⟨h1, h2⟩ := seenTo_mono h d
    rw [← Nat.add_assoc]
    cases hb : hasB (seenTo l (i + d)) (ix l (i + d)) with
    | true => rw [seenTo_old hb]; exact ⟨h1, h2⟩
    | false =>
      rw [seenTo_new hb]
      exact ⟨hasB_mem.2 (List.mem_append.2 (.inl (hasB_mem.1 h1))), by rw [indexOf_append_old h1, h2]⟩
theorem seenTo_has (l : List Int) (i : Nat) : hasB (seenTo l (i + 1)) (ix l i) = true := by
  cases hb : hasB (seenTo l i) (ix l i) with
  | true => rw [seenTo_old hb]; exact hb
  | false => rw [seenTo_new hb]; exact hasB_mem.2 (by simp)
theorem numF_end (l : List Int) {i n : Nat} (h : i < n) : indexOf (seenTo l n) (ix l i) = numF l i := by
  have := (seenTo_mono (seenTo_has l i) (n - (i + 1))).2
  rw [show i + 1 + (n - (i + 1)) = n from by omega, numF_eq] at this
  exact this
/-- numbers are at least 0 and below their own place and one -/
theorem numF_bd (l : List Int) (i : Nat) : 0 ≤ numF l i ∧ numF l i ≤ (i : Int) := by
  have h := seenTo_has l i
  rw [hasB_iff, numF_eq] at h
  refine ⟨h, ?_⟩
  have := seenTo_len l (i + 1)
  rcases indexOf_spec (seenTo l (i + 1)) (ix l i) with ⟨h1, _⟩ | ⟨j, h1, h2, _⟩
  · rw [numF_eq] at h1; omega
  · rw [numF_eq] at h2; omega
end Go.Proofs.Ytjbloenjphpngaa

/-
  Classes of conjugate elements: plain.
-/
namespace Go.Proofs.Ytjbloenjphpngaa
set_option linter.unusedVariables false
set_option linter.unusedSimpArgs false

/-- the product, in numbers -/
def gm (t : List (List Int)) (x y : Nat) : Nat := (ent t x y).toNat
def gi (t : List (List Int)) (x : Nat) : Nat := (backF t x).toNat
def cj (t : List (List Int)) (x y : Nat) : Nat := (conjF t x y).toNat
theorem cj_eq (t : List (List Int)) (x y : Nat) : cj t x y = gm t (gm t x y) (gi t x) := by unfold cj gm gi; rw [conjF_def]
section
variable {t : List (List Int)} (h : GroupOk t)
include h
theorem gm_lt {x y : Nat} (hx : x < t.length) (hy : y < t.length) : gm t x y < t.length := ent_nn h.1 hx hy
theorem gi_lt {x : Nat} (hx : x < t.length) : gi t x < t.length := by have := backF_ok h hx; unfold gi; omega
theorem cj_lt {x y : Nat} (hx : x < t.length) (hy : y < t.length) : cj t x y < t.length := by have := conjF_bd h hx hy; unfold cj; omega
theorem gm_assoc {x y z : Nat} (hx : x < t.length) (hy : y < t.length) (hz : z < t.length) : gm t (gm t x y) z = gm t x (gm t y z) := by
  unfold gm; rw [grp_assoc h hx hy hz]
theorem gm_zero {x : Nat} (hx : x < t.length) : gm t 0 x = x := by unfold gm; rw [grp_unit_l h hx]; simp
theorem gm_unit {x : Nat} (hx : x < t.length) : gm t x 0 = x := by unfold gm; rw [grp_unit_r h hx]; simp
theorem gm_gi {x : Nat} (hx : x < t.length) : gm t x (gi t x) = 0 := by
  have := (backF_ok h hx).2.2
  unfold gm gi; rw [this]; rfl
theorem gm_inj {x y z : Nat} (hx : x < t.length) (hy : y < t.length) (hz : z < t.length) (e : gm t x y = gm t x z) : y = z := by
  have h1 := h.1.bd hx hy
  have h2 := h.1.bd hx hz
  unfold gm at e
  exact grp_inj h hx hy hz (by omega)
theorem pos_len : 0 < t.length := h.1.1
theorem gi_gm {x : Nat} (hx : x < t.length) : gm t (gi t x) x = 0 := by
  have hi := gi_lt h hx
  have h0 := pos_len h
  have : gm t x (gm t (gi t x) x) = gm t x 0 := by rw [← gm_assoc h hx hi hx, gm_gi h hx, gm_zero h hx, gm_unit h hx]
  exact gm_inj h hx (gm_lt h hi hx) h0 this
theorem gi_zero : gi t 0 = 0 := by
  have h0 := pos_len h
  have := gm_gi h h0
  rwa [gm_zero h (gi_lt h h0)] at this
theorem gi_gi {x : Nat} (hx : x < t.length) : gi t (gi t x) = x := by
  have hi := gi_lt h hx
  exact gm_inj h hi (gi_lt h hi) hx (by rw [gm_gi h hi, gi_gm h hx])
theorem gi_mul {x y : Nat} (hx : x < t.length) (hy : y < t.length) : gi t (gm t x y) = gm t (gi t y) (gi t x) := by
  have hxy := gm_lt h hx hy
  have ix := gi_lt h hx
  have iy := gi_lt h hy
  refine gm_inj h hxy (gi_lt h hxy) (gm_lt h iy ix) ?_
  rw [gm_gi h hxy, gm_assoc h hx hy (gm_lt h iy ix), ← gm_assoc h hy iy ix, gm_gi h hy, gm_zero h ix, gm_gi h hx]
theorem cj_zero {y : Nat} (hy : y < t.length) : cj t 0 y = y := by rw [cj_eq t, gi_zero h, gm_zero h hy, gm_unit h hy]
theorem cj_cj {x y z : Nat} (hx : x < t.length) (hy : y < t.length) (hz : z < t.length) : cj t x (cj t y z) = cj t (gm t x y) z := by
  have ix := gi_lt h hx
  have iy := gi_lt h hy
  have hyz := gm_lt h hy hz
  rw [cj_eq t, cj_eq t, cj_eq t, gi_mul h hx hy, ← gm_assoc h hx hyz iy, ← gm_assoc h (gm_lt h (gm_lt h hx hy) hz) iy ix, ← gm_assoc h hx hy hz]
theorem cj_back {x y : Nat} (hx : x < t.length) (hy : y < t.length) : cj t (gi t x) (cj t x y) = y := by
  rw [cj_cj h (gi_lt h hx) hx hy, gi_gm h hx, cj_zero h hy]
end
/-- the least of y and of its conjugates by the first k elements -/
def lstTo (t : List (List Int)) (y : Nat) : Nat → Int
  | 0 => (y : Int)
  | k + 1 => min (lstTo t y k) (conjF t k y)
@[irreducible] def lstF (t : List (List Int)) (k y : Nat) : Int := lstTo t y k
theorem lstF_zero (t y) : lstF t 0 y = (y : Int) := by unfold lstF; rfl
theorem lstF_succ (t k y) : lstF t (k + 1) y = min (lstF t k y) (conjF t k y) := by unfold lstF; rfl
/-- the least conjugate -/
@[irreducible] def minC (t : List (List Int)) (y : Nat) : Int := lstF t t.length y
theorem minC_def (t y) : minC t y = lstF t t.length y := by unfold minC; rfl
theorem lstF_le (t : List (List Int)) (y : Nat) : ∀ k, (lstF t k y ≤ (y : Int)) ∧ ∀ x, x < k → lstF t k y ≤ conjF t x y
  | 0 => ⟨by rw [lstF_zero]; omega, fun x hx => by omega⟩
  | k + 1 => by
    have ⟨h1, h2⟩ := lstF_le t y k
    rw [lstF_succ]
    refine ⟨by omega, fun x hx => ?_⟩
    by_cases e : x = k
    · subst e; omega
    · have := h2 x (by omega); omega
theorem lstF_is (t : List (List Int)) (y : Nat) : ∀ k, lstF t k y = (y : Int) ∨ ∃ x, x < k ∧ lstF t k y = conjF t x y
  | 0 => .inl (lstF_zero t y)
  | k + 1 => by
    rw [lstF_succ]
    rcases Int.le_total (lstF t k y) (conjF t k y) with g | g
    · rw [Int.min_eq_left g]
      rcases lstF_is t y k with e | ⟨x, hx, e⟩
      · exact .inl e
      · exact .inr ⟨x, by omega, e⟩
    · rw [Int.min_eq_right g]; exact .inr ⟨k, by omega, rfl⟩
theorem minC_is {t : List (List Int)} (h : GroupOk t) {y : Nat} (hy : y < t.length) : ∃ x, x < t.length ∧ minC t y = ((cj t x y : Nat) : Int) := by
  rw [minC_def]
  rcases lstF_is t y t.length with e | ⟨x, hx, e⟩
  · exact ⟨0, pos_len h, by rw [e, cj_zero h hy]⟩
  · have := conjF_bd h hx hy
    exact ⟨x, hx, by rw [e]; unfold cj; omega⟩
theorem minC_le {t : List (List Int)} (h : GroupOk t) {x y : Nat} (hx : x < t.length) (hy : y < t.length) : minC t y ≤ ((cj t x y : Nat) : Int) := by
  have h1 := (lstF_le t y t.length).2 x hx
  have := conjF_bd h hx hy
  rw [minC_def]; unfold cj; omega
theorem minC_cj {t : List (List Int)} (h : GroupOk t) {x y : Nat} (hx : x < t.length) (hy : y < t.length) : minC t (cj t x y) = minC t y := by
  have hc := cj_lt h hx hy
  obtain ⟨a, ha, ea⟩ := minC_is h hy
  obtain ⟨b, hb, eb⟩ := minC_is h hc
  have h1 := minC_le h (gm_lt h hb hx) hy
  rw [← cj_cj h hb hx hy] at h1
  have h2 := minC_le h (gm_lt h ha (gi_lt h hx)) hc
  rw [← cj_cj h ha (gi_lt h hx) hc, cj_back h hx hy] at h2
  omega
theorem minC_conj {t : List (List Int)} (h : GroupOk t) {x y : Nat} (hx : x < t.length) (hy : y < t.length) (e : minC t x = minC t y) : ∃ k, k < t.length ∧ cj t k x = y := by
  obtain ⟨a, ha, ea⟩ := minC_is h hx
  obtain ⟨b, hb, eb⟩ := minC_is h hy
  refine ⟨gm t (gi t b) a, gm_lt h (gi_lt h hb) ha, ?_⟩
  rw [← cj_cj h (gi_lt h hb) ha hx]
  have : cj t a x = cj t b y := by omega
  rw [this, cj_back h hb hy]
/-- the labels: the least conjugates -/
@[irreducible] def lstL (t : List (List Int)) (k : Nat) : List Int := mkL t.length (lstF t k)
theorem length_lstL (t k) : (lstL t k).length = t.length := by unfold lstL; exact length_mkL _ _
theorem ix_lstL (t : List (List Int)) (k y : Nat) (h : y < t.length) : ix (lstL t k) y = lstF t k y := by unfold lstL; exact ix_mkL _ _ _ h
@[irreducible] def minL (t : List (List Int)) : List Int := lstL t t.length
theorem minL_def (t) : minL t = lstL t t.length := by unfold minL; rfl
theorem length_minL (t) : (minL t).length = t.length := by rw [minL_def]; exact length_lstL _ _
theorem ix_minL (t : List (List Int)) (y : Nat) (h : y < t.length) : ix (minL t) y = minC t y := by rw [minL_def, ix_lstL _ _ _ h, minC_def]
/-- the classes' numbers -/
@[irreducible] def clsL (t : List (List Int)) : List Int := numL (minL t)
theorem clsL_def (t) : clsL t = numL (minL t) := by unfold clsL; rfl
theorem length_clsL (t) : (clsL t).length = t.length := by rw [clsL_def, length_numL, length_minL]

/-! ### the reference's way -/
/-- O holds different elements that are conjugate to x, x first -/
structure OrbOk (t : List (List Int)) (x : Nat) (O : List Int) : Prop where
  pos : 0 < O.length
  first : ix O 0 = (x : Int)
  mem : ∀ i, i < O.length → ∃ y : Nat, ix O i = (y : Int) ∧ y < t.length ∧ minC t y = minC t x
  nodup : O.Nodup
theorem OrbOk.one {t : List (List Int)} {x : Nat} (hx : x < t.length) : OrbOk t x [(x : Int)] where
  pos := by simp
  first := by rw [ix_eq]; rfl
  mem := fun i hi => by
    have : i = 0 := by simp at hi; omega
    subst this
    exact ⟨x, by rw [ix_eq]; rfl, hx, rfl⟩
  nodup := by simp
theorem OrbOk.len {t : List (List Int)} {x : Nat} {O : List Int} (h : OrbOk t x O) : O.length ≤ t.length := by
  have := nodup_le O (intRange t.length) h.nodup (fun z hz => by
    obtain ⟨i, hi, rfl⟩ := mem_ix hz
    obtain ⟨y, e, hy, _⟩ := h.mem i hi
    rw [e, mem_intRange]; omega)
  rwa [length_intRange] at this
theorem OrbOk.add {t : List (List Int)} (hG : GroupOk t) {x y k : Nat} {O : List Int} (h : OrbOk t x O) (hy : y < t.length) (hc : minC t y = minC t x) (hk : k < t.length) (hn : hasB O ((cj t k y : Nat) : Int) = false) : OrbOk t x (O ++ [((cj t k y : Nat) : Int)]) where
  pos := by simp
  first := by rw [ix_append_left h.pos]; exact h.first
  mem := fun i hi => by
    by_cases e : i < O.length
    · rw [ix_append_left e]; exact h.mem i e
    · have : i = O.length := by simp at hi; omega
      subst this
      exact ⟨cj t k y, ix_append_one _ _, cj_lt hG hk hy, by rw [minC_cj hG hk hy, hc]⟩
  nodup := by
    rw [List.nodup_append]
    refine ⟨h.nodup, by simp, fun a ha b hb => ?_⟩
    simp at hb
    subst hb
    intro e; subst e
    rw [hasB_mem.2 ha] at hn; cases hn
/-- the first k conjugates of y are in O -/
def OrbRow (t : List (List Int)) (O : List Int) (y k : Nat) : Prop := ∀ j, j < k → hasB O ((cj t j y : Nat) : Int) = true
/-- .. all of the first i of O -/
def OrbTo (t : List (List Int)) (O : List Int) (i : Nat) : Prop := ∀ a, a < i → a < O.length → OrbRow t O (ix O a).toNat t.length
theorem OrbRow.zero (t O y) : OrbRow t O y 0 := all_zero
theorem hasB_more {O : List Int} {z u : Int} (h : hasB O z = true) : hasB (O ++ [u]) z = true := hasB_mem.2 (List.mem_append.2 (.inl (hasB_mem.1 h)))
theorem OrbRow.old {t O y k} (h : OrbRow t O y k) (hk : hasB O ((cj t k y : Nat) : Int) = true) : OrbRow t O y (k + 1) := all_succ h hk
theorem OrbRow.new {t O y k} (h : OrbRow t O y k) : OrbRow t (O ++ [((cj t k y : Nat) : Int)]) y (k + 1) :=
  all_succ (fun j hj => hasB_more (h j hj)) (hasB_mem.2 (by simp))
theorem OrbTo.zero (t O) : OrbTo t O 0 := fun a ha => by omega
theorem OrbTo.more {t O i} {z : Int} (h : OrbTo t O i) (hi : i ≤ O.length) : OrbTo t (O ++ [z]) i := fun a ha hl j hj => by
  have hl' : a < O.length := by omega
  have := h a ha hl' j hj
  rw [ix_append_left hl']
  exact hasB_more this
theorem OrbTo.succ {t O i} (h : OrbTo t O i) (hr : OrbRow t O (ix O i).toNat t.length) : OrbTo t O (i + 1) := fun a ha hl => by
  by_cases e : a = i
  · subst e; exact hr
  · exact h a (by omega) hl
theorem OrbTo.all {t : List (List Int)} (hG : GroupOk t) {x : Nat} {O : List Int} (h : OrbOk t x O) (hx : x < t.length) (ht : OrbTo t O O.length) {y : Nat} (hy : y < t.length) (e : minC t y = minC t x) : hasB O (y : Int) = true := by
  obtain ⟨k, hk, ek⟩ := minC_conj hG hx hy e.symm
  have := ht 0 h.pos h.pos k hk
  rw [h.first, Int.toNat_natCast, ek] at this
  exact this
/-- the orbit of x -/
def IsOrb (t : List (List Int)) (x : Nat) (O : List Int) : Prop := OrbOk t x O ∧ ∀ y, y < t.length → (hasB O (y : Int) = true ↔ minC t y = minC t x)
theorem isOrb_of {t : List (List Int)} (hG : GroupOk t) {x : Nat} {O : List Int} (h : OrbOk t x O) (hx : x < t.length) (ht : OrbTo t O O.length) : IsOrb t x O :=
  ⟨h, fun y hy => ⟨fun hb => by
    obtain ⟨i, hi, e⟩ := mem_ix (hasB_mem.1 hb)
    obtain ⟨z, ez, _, ec⟩ := h.mem i hi
    have : y = z := by omega
    rw [this]; exact ec, fun e => OrbTo.all hG h hx ht hy e⟩⟩
/-- what the reference holds when it has looked at x elements, and of the orbit of x at m -/
@[irreducible] def orbF (t : List (List Int)) (x : Nat) (y : Nat) : Int := if hasB (seenTo (minL t) x) (minC t y) = true then indexOf (seenTo (minL t) x) (minC t y) else -1
@[irreducible] def orbM (t : List (List Int)) (x : Nat) (O : List Int) (m : Nat) (y : Nat) : Int := if hasB (O.take m) (y : Int) = true then ((seenTo (minL t) x).length : Int) else orbF t x y
theorem orbF_zero (t y) : orbF t 0 y = -1 := by unfold orbF; rw [if_neg (by rw [hasB_no.2]; simp; unfold seenTo indexOf indexFrom; decide)]
theorem orbF_nonneg {t : List (List Int)} {x y : Nat} : 0 ≤ orbF t x y ↔ hasB (seenTo (minL t) x) (minC t y) = true := by
  unfold orbF
  split
  · rename_i h; exact ⟨fun _ => h, fun _ => hasB_iff.1 h⟩
  · rename_i h; exact ⟨fun h2 => by omega, fun h2 => absurd h2 h⟩
theorem orbF_old {t : List (List Int)} {x y : Nat} (hx : x < t.length) (h : hasB (seenTo (minL t) x) (minC t x) = true) : orbF t (x + 1) y = orbF t x y := by
  unfold orbF; rw [seenTo_old (by rw [ix_minL _ _ hx]; exact h)]
theorem orbM_zero (t x O y) : orbM t x O 0 y = orbF t x y := by unfold orbM; rw [if_neg (by rw [List.take_zero, hasB_no.2]; simp; unfold indexOf indexFrom; decide)]
theorem orbM_succ {t : List (List Int)} {x m y : Nat} {O : List Int} (hm : m < O.length) : orbM t x O (m + 1) y = if (y : Int) = ix O m then ((seenTo (minL t) x).length : Int) else orbM t x O m y := by
  have ht : O.take (m + 1) = O.take m ++ [ix O m] := by rw [List.take_succ_eq_append_getElem hm, ix_eq]; simp [List.getD, hm]
  unfold orbM
  rw [ht]
  by_cases e : (y : Int) = ix O m
  · rw [if_pos e, if_pos (hasB_mem.2 (by rw [e]; simp))]
  · rw [if_neg e]
    by_cases hb : hasB (O.take m) (y : Int) = true
    · rw [if_pos hb, if_pos (hasB_more hb)]
    · rw [if_neg hb, if_neg (fun h2 => by
        have := hasB_mem.1 h2
        simp only [List.mem_append, List.mem_singleton] at this
        rcases this with h3 | h3
        · exact hb (hasB_mem.2 h3)
        · exact e h3)]
theorem orbM_done {t : List (List Int)} {x y : Nat} {O : List Int} (hx : x < t.length) (hy : y < t.length) (hO : IsOrb t x O) (hn : hasB (seenTo (minL t) x) (minC t x) = false) : orbM t x O O.length y = orbF t (x + 1) y := by
  have hs := seenTo_new (l := minL t) (i := x) (by rw [ix_minL _ _ hx]; exact hn)
  rw [ix_minL _ _ hx] at hs
  unfold orbM
  rw [List.take_length]
  by_cases hb : hasB O (y : Int) = true
  · rw [if_pos hb]
    have e := (hO.2 y hy).1 hb
    unfold orbF
    rw [hs, e, if_pos (hasB_mem.2 (by simp)), indexOf_append_new hn]
  · rw [if_neg hb]
    have e : minC t y ≠ minC t x := fun e => hb ((hO.2 y hy).2 e)
    unfold orbF
    rw [hs]
    by_cases h2 : hasB (seenTo (minL t) x) (minC t y) = true
    · rw [if_pos h2, if_pos (hasB_more h2), indexOf_append_old h2]
    · rw [if_neg h2, if_neg (fun h3 => by
        have := hasB_mem.1 h3
        simp only [List.mem_append, List.mem_singleton] at this
        rcases this with h4 | h4
        · exact h2 (hasB_mem.2 h4)
        · exact e h4)]
theorem orbF_done {t : List (List Int)} {y : Nat} (hy : y < t.length) : orbF t t.length y = ix (clsL t) y := by
  rw [clsL_def, ix_numL _ _ (by rw [length_minL]; exact hy)]
  have h1 := numF_end (minL t) (i := y) (n := t.length) hy
  rw [ix_minL _ _ hy] at h1
  have h2 := (seenTo_mono (seenTo_has (minL t) y) (t.length - (y + 1))).1
  rw [show y + 1 + (t.length - (y + 1)) = t.length from by omega, ix_minL _ _ hy] at h2
  unfold orbF
  rw [if_pos h2, h1]
end Go.Proofs.Ytjbloenjphpngaa

/-
  What the exported functions return: shapes of results.
-/
namespace Go.Proofs.Ytjbloenjphpngaa
set_option linter.unusedVariables false
set_option linter.unusedSimpArgs false
open Go.RowKit

theorem IntsAt.setNil {w : World} {b o : Nat} {l : List Int} (h : IntsAt w b o l) {a : Addr} (ha : w.cell? a = some (.slice none 0 0)) (u : Value) : IntsAt (w.setCell a u) b o l := fun i hi => by
  have := h i hi
  rw [World.cell?_setCell_other _ _ _ _ (fun e => by rw [e, this] at ha; simp at ha)]; exact this
theorem Ints.setNil {w : World} {v : Value} {l : List Int} (h : Ints w v l) {a : Addr} (ha : w.cell? a = some (.slice none 0 0)) (u : Value) : Ints (w.setCell a u) v l := by
  obtain ⟨hl, b, o, c, rfl, hc⟩ := h
  exact ⟨hl, b, o, c, rfl, hc.setNil ha u⟩
/-- a store into a cell that holds nil turns no table -/
theorem Rows.setNil {w : World} {v : Value} {t : List (List Int)} (h : Rows w v t) {a : Addr} (ha : w.cell? a = some (.slice none 0 0)) (u : Value) : Rows (w.setCell a u) v t := by
  obtain ⟨hl, b, o, c, rfl, hc⟩ := h
  refine ⟨hl, b, o, c, rfl, fun i hi => ?_⟩
  obtain ⟨r, h1, h2⟩ := hc i hi
  refine ⟨r, ?_, h2.setNil ha u⟩
  rw [World.cell?_setCell_other _ _ _ _ (fun e => by
    obtain ⟨_, b', o', c', rfl, _⟩ := h2
    rw [e, h1] at ha; simp at ha)]
  exact h1

/-- a struct of one table and a code are returned (reference) -/
def RetG (t : List (List Int)) (c : Int) (w : World) (e : Ending) (w' : World) : Prop := ∃ v, e = .returned (.tuple #[.agg #[v], .int .i64 c]) ∧ RowsR w' v t ∧ Ext w w'
/-- a struct of one table, in new memory, and a code are returned (program) -/
def NewGC (t : List (List Int)) (c : Int) (w : World) (e : Ending) (w' : World) : Prop := ∃ v, e = .returned (.tuple #[.agg #[v], .int .i64 c]) ∧ OwnV w.heap.size w'.heap.size w' v t ∧ Ext w w'
/-- a number and a code are returned -/
def RetII (x c : Int) (w : World) (e : Ending) (w' : World) : Prop := e = .returned (.tuple #[.int .i64 x, .int .i64 c]) ∧ Ext w w'
/-- a truth value and a code are returned -/
def RetBI (x : Bool) (c : Int) (w : World) (e : Ending) (w' : World) : Prop := e = .returned (.tuple #[.bool x, .int .i64 c]) ∧ Ext w w'
theorem ret_two {a b c d : Int} (h : a = b) (k : c = d) : Ending.returned (.tuple #[.int .i64 a, .int .i64 c]) = .returned (.tuple #[.int .i64 b, .int .i64 d]) := by rw [h, k]
end Go.Proofs.Ytjbloenjphpngaa

/-
  Cells, marks and lists behind single steps of the world, for backward chaining. No program in sight.
-/
namespace Go.Proofs.Ytjbloenjphpngaa
set_option linter.unusedVariables false
set_option linter.unusedSimpArgs false
open Go.RowKit

theorem bcell {W w1 : World} (hb : Ext W w1) : (∀ b o, b < W.heap.size → w1.cell? ⟨b, o, none⟩ = W.cell? ⟨b, o, none⟩) ∧ (∀ b o, b < W.heap.size → w1.frozen? ⟨b, o, none⟩ = W.frozen? ⟨b, o, none⟩) :=
  ⟨fun b o h => Below.cell hb (p := ⟨b, o, none⟩) h, fun b o h => Below.frozen hb (p := ⟨b, o, none⟩) h⟩
theorem kc_alloc {w : World} {a : Addr} {v : Value} {o : Obj} (h : w.cell? a = some v) : (w.alloc o).cell? a = some v := ((Ext.refl w).alloc o).cell h
theorem kc_drew {w : World} {a : Addr} {v : Value} (h : w.cell? a = some v) : w.drew.cell? a = some v := h
theorem kc_drewN {w : World} {a : Addr} {v : Value} {n : Nat} (h : w.cell? a = some v) : (w.drewN n).cell? a = some v := ((Ext.refl w).drewN n).cell h
theorem kc_set {w : World} {a p : Addr} {v u : Value} (hb : a.block ≠ p.block) (h : w.cell? a = some v) : (w.setCell p u).cell? a = some v := by
  rw [World.cell?_setCell_other _ _ _ _ (fun e => hb (by rw [e]))]; exact h
theorem kc_set2 {w : World} {a p : Addr} {v u : Value} (hb : a.off ≠ p.off) (h : w.cell? a = some v) : (w.setCell p u).cell? a = some v := by
  rw [World.cell?_setCell_other _ _ _ _ (fun e => hb (by rw [e]))]; exact h
theorem kc_same {w : World} {a : Addr} {v u : Value} (h : w.cell? a = some v) : (w.setCell a u).cell? a = some u := World.cell?_setCell_same _ _ _ h
theorem kc_new {w : World} {v : Value} {T : Nat} : (w.alloc (.cells #[v] T)).cell? ⟨w.heap.size, 0, none⟩ = some v := by simp
theorem kc_new1 {w : World} {o : Obj} {v : Value} {T : Nat} : ((w.alloc o).alloc (.cells #[v] T)).cell? ⟨w.heap.size + 1, 0, none⟩ = some v := by simp [go_sem]
theorem ki_alloc {w : World} {b o : Nat} {l : List Int} {x : Obj} (h : IntsAt w b o l) : IntsAt (w.alloc x) b o l := h.ext ((Ext.refl w).alloc x)
theorem ki_drew {w : World} {b o : Nat} {l : List Int} (h : IntsAt w b o l) : IntsAt w.drew b o l := h.ext (Ext.refl w).drew
theorem ki_set {w : World} {b o : Nat} {l : List Int} {p : Addr} {u : Value} (hb : b ≠ p.block) (h : IntsAt w b o l) : IntsAt (w.setCell p u) b o l := fun i hi => kc_set (a := ⟨b, o + i, none⟩) hb (h i hi)
theorem ki_setNil {w : World} {b o : Nat} {l : List Int} {p : Addr} {u : Value} (hp : w.cell? p = some (.slice none 0 0)) (h : IntsAt w b o l) : IntsAt (w.setCell p u) b o l := h.setNil hp u
theorem kr_alloc {w : World} {b o : Nat} {t : List (List Int)} {x : Obj} (h : RowsAt w b o t) : RowsAt (w.alloc x) b o t := h.ext ((Ext.refl w).alloc x)
theorem kc_newE {w : World} {v : Value} {T n : Nat} (h : n = w.heap.size) : (w.alloc (.cells #[v] T)).cell? ⟨n, 0, none⟩ = some v := by subst h; exact kc_new
theorem kc_newEa {w : World} {v u : Value} {T n : Nat} (h : n = w.heap.size) : (w.alloc (.cells #[v, u] T)).cell? ⟨n, 0, none⟩ = some v := by subst h; simp [go_sem]
theorem kc_newEb {w : World} {v u : Value} {T n : Nat} (h : n = w.heap.size) : (w.alloc (.cells #[v, u] T)).cell? ⟨n, 1, none⟩ = some u := by subst h; simp [go_sem]
theorem kx_set {a w : World} {p : Addr} {u : Value} (hp : a.heap.size ≤ p.block) (h : Ext a w) : Ext a (w.setCell p u) := h.setNew hp u
theorem kx_alloc {a w : World} {o : Obj} (h : Ext a w) : Ext a (w.alloc o) := h.alloc o
theorem kx_drewN {a w : World} {n : Nat} (h : Ext a w) : Ext a (w.drewN n) := h.drewN n
theorem kf_alloc {w : World} {a : Addr} {o : Obj} (hb : a.block < w.heap.size) (h : w.frozen? a = false) : (w.alloc o).frozen? a = false := ((Ext.refl w).alloc o).free h hb
theorem kf_set {w : World} {a p : Addr} {u : Value} (h : w.frozen? a = false) : (w.setCell p u).frozen? a = false := by rw [World.frozen?_setCell]; exact h
end Go.Proofs.Ytjbloenjphpngaa
