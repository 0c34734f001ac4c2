/-
  Contracts of LambdaOf: reference and program.
-/
import Derived.Test.YtjfjpngajboidaaGreatKx8
namespace Go.Proofs.YtjfjpngajboidaaGreat
set_option linter.unusedVariables false
set_option linter.unusedSimpArgs false
open Go.RowKit
attribute [local go_sem ↓] Go.wp_at_zero Go.wp_at_succ

end Go.Proofs.YtjfjpngajboidaaGreat


namespace Go.Proofs.YtjfjpngajboidaaGreat
set_option linter.unusedVariables false
set_option linter.unusedSimpArgs false
open Go.RowKit
attribute [local go_sem ↓] Go.wp_at_zero Go.wp_at_succ

/-! ### the program -/
def NoBad (n k q : Nat) : Prop := ∀ p, p < q → badP n k p = false
theorem isPr_small {p : Nat} (h : p < 2) : isPr p = false := by
  unfold isPr
  have : Nat.ble 2 p = false := by
    cases e : Nat.ble 2 p with
    | false => rfl
    | true => exact absurd (Nat.le_of_ble_eq_true e) (by omega)
  rw [this]; rfl

theorem badP_1 {n k p : Nat} (h : isPr p = false) : badP n k p = false := by unfold badP; rw [h]; rfl

theorem NoBad.two (n k : Nat) : NoBad n k 2 := fun p hp => badP_1 (isPr_small hp)

theorem NoBad.succ {n k q : Nat} (h : NoBad n k q) (hq : badP n k q = false) : NoBad n k (q + 1) := all_succ h hq

end Go.Proofs.YtjfjpngajboidaaGreat


namespace Go.Proofs.YtjfjpngajboidaaGreat
set_option linter.unusedVariables false
set_option linter.unusedSimpArgs false

theorem table_mk {n : Nat} {f : Nat → Nat → Int} (h1 : 1 ≤ n) (h2 : n ≤ 12) (h : ∀ x, x < n → ∀ y, y < n → 0 ≤ f x y ∧ f x y < n) : TableOk (mkT n f) := by
  refine ⟨by rw [length_mkT]; exact h1, by rw [length_mkT]; exact h2, fun x hx => ?_⟩
  rw [length_mkT] at hx ⊢
  refine ⟨length_row_mkT n f x hx, fun y hy => ?_⟩
  rw [ent_mkT _ _ _ _ hx hy]
  have := h x hx y hy
  omega

theorem turn_ok {t : List (List Int)} (h : TableOk t) : TableOk (turnT t) := by
  rw [turnT_def]
  refine table_mk h.1 h.2.1 fun x hx y hy => ?_
  have := h.bd hy hx
  rw [turnF_def]
  omega

end Go.Proofs.YtjfjpngajboidaaGreat


namespace Go.Proofs.YtjfjpngajboidaaGreat
set_option linter.unusedVariables false
set_option linter.unusedSimpArgs false

def WordOk (n : Nat) (l : List Int) : Prop := ∀ i, i < l.length → 0 ≤ ix l i ∧ ix l i < n
def moveL (f g : Nat → Nat → Nat) (l : List Int) (k : Nat) : List Int := (l.set k ((f (ix l k).toNat (ix l (k + 1)).toNat : Nat) : Int)).set (k + 1) ((g (ix l k).toNat (ix l (k + 1)).toNat : Nat) : Int)
theorem length_moveL (f g : Nat → Nat → Nat) (l : List Int) (k : Nat) : (moveL f g l k).length = l.length := by unfold moveL; simp
theorem ix_moveL (f g : Nat → Nat → Nat) (l : List Int) {k : Nat} (hk : k + 1 < l.length) (i : Nat) : ix (moveL f g l k) i = if i = k then ((f (ix l k).toNat (ix l (k + 1)).toNat : Nat) : Int) else if i = k + 1 then ((g (ix l k).toNat (ix l (k + 1)).toNat : Nat) : Int) else ix l i := by
  unfold moveL
  by_cases h1 : i = k + 1
  · subst h1
    rw [ix_set_eq _ _ _ (by simpa using hk), if_neg (by omega), if_pos rfl]
  · rw [ix_set_ne _ _ _ _ h1]
    by_cases h2 : i = k
    · subst h2
      rw [ix_set_eq _ _ _ (by omega), if_pos rfl]
    · rw [ix_set_ne _ _ _ _ h2, if_neg h2, if_neg h1]

structure Mv (n : Nat) (f g fi gi : Nat → Nat → Nat) : Prop where
  fb : ∀ x, x < n → ∀ y, y < n → f x y < n
  gb : ∀ x, x < n → ∀ y, y < n → g x y < n
  fib : ∀ x, x < n → ∀ y, y < n → fi x y < n
  gib : ∀ x, x < n → ∀ y, y < n → gi x y < n
  li : ∀ x, x < n → ∀ y, y < n → fi (f x y) (g x y) = x ∧ gi (f x y) (g x y) = y
  ri : ∀ x, x < n → ∀ y, y < n → f (fi x y) (gi x y) = x ∧ g (fi x y) (gi x y) = y
theorem Mv.inv {n : Nat} {f g fi gi : Nat → Nat → Nat} (h : Mv n f g fi gi) : Mv n fi gi f g := ⟨h.fib, h.gib, h.fb, h.gb, h.ri, h.li⟩

theorem WordOk.nat {n : Nat} {l : List Int} (h : WordOk n l) {i : Nat} (hi : i < l.length) : ix l i = ((ix l i).toNat : Int) ∧ (ix l i).toNat < n := by
  have := h i hi
  omega
theorem WordOk.move {n : Nat} {f g fi gi : Nat → Nat → Nat} (hm : Mv n f g fi gi) {l : List Int} (h : WordOk n l) {k : Nat} (hk : k + 1 < l.length) : WordOk n (moveL f g l k) := by
  intro i hi
  rw [length_moveL] at hi
  rw [ix_moveL _ _ _ hk]
  have a1 := (h.nat (i := k) (by omega)).2
  have a2 := (h.nat (i := k + 1) hk).2
  split
  · have := hm.fb _ a1 _ a2; omega
  · split
    · have := hm.gb _ a1 _ a2; omega
    · exact h i hi
theorem move_back {n : Nat} {f g fi gi : Nat → Nat → Nat} (hm : Mv n f g fi gi) {l : List Int} (h : WordOk n l) {k : Nat} (hk : k + 1 < l.length) : moveL fi gi (moveL f g l k) k = l := by
  refine ix_ext (by rw [length_moveL, length_moveL]) fun i hi => ?_
  rw [length_moveL, length_moveL] at hi
  have hk2 : k + 1 < (moveL f g l k).length := by rw [length_moveL]; exact hk
  rw [ix_moveL _ _ _ hk2, ix_moveL _ _ _ hk, ix_moveL _ _ _ hk, ix_moveL _ _ _ hk, if_pos rfl, if_neg (by omega : ¬ k + 1 = k), if_pos rfl, Int.toNat_natCast, Int.toNat_natCast]
  have a1 := h.nat (i := k) (by omega)
  have a2 := h.nat (i := k + 1) hk
  obtain ⟨e1, e2⟩ := hm.li _ a1.2 _ a2.2
  rw [e1, e2]
  by_cases h1 : i = k
  · rw [if_pos h1, h1]; exact a1.1.symm
  · rw [if_neg h1]
    by_cases h2 : i = k + 1
    · rw [if_pos h2, h2]; exact a2.1.symm
    · rw [if_neg h2, if_neg h1, if_neg h2]

section
variable (f g fi gi : Nat → Nat → Nat)
def Nb (u v : List Int) : Prop := ∃ k, k + 1 < u.length ∧ (v = moveL f g u k ∨ v = moveL fi gi u k)
inductive Eqv (u : List Int) : List Int → Prop
  | refl : Eqv u u
  | step (v w : List Int) : Eqv u v → Nb f g fi gi v w → Eqv u w
end

section
variable {n : Nat} {f g fi gi : Nat → Nat → Nat}
theorem Nb.len {u v : List Int} (h : Nb f g fi gi u v) : v.length = u.length := by
  obtain ⟨k, hk, rfl | rfl⟩ := h <;> exact length_moveL _ _ _ _
theorem Nb.ok (hm : Mv n f g fi gi) {u v : List Int} (h : Nb f g fi gi u v) (hu : WordOk n u) : WordOk n v := by
  obtain ⟨k, hk, rfl | rfl⟩ := h
  · exact hu.move hm hk
  · exact hu.move hm.inv hk
theorem Nb.symm (hm : Mv n f g fi gi) {u v : List Int} (h : Nb f g fi gi u v) (hu : WordOk n u) : Nb f g fi gi v u := by
  obtain ⟨k, hk, rfl | rfl⟩ := h
  · exact ⟨k, by rw [length_moveL]; exact hk, .inr (move_back hm hu hk).symm⟩
  · exact ⟨k, by rw [length_moveL]; exact hk, .inl (move_back hm.inv hu hk).symm⟩
theorem Eqv.len {u v : List Int} (h : Eqv f g fi gi u v) : v.length = u.length := by
  induction h with
  | refl => rfl
  | step v w _ h2 ih => rw [h2.len, ih]
theorem Eqv.ok (hm : Mv n f g fi gi) {u v : List Int} (h : Eqv f g fi gi u v) (hu : WordOk n u) : WordOk n v := by
  induction h with
  | refl => exact hu
  | step v w _ h2 ih => exact h2.ok hm ih
theorem Eqv.trans {u v w : List Int} (h : Eqv f g fi gi u v) (k : Eqv f g fi gi v w) : Eqv f g fi gi u w := by
  induction k with
  | refl => exact h
  | step a b _ h2 ih => exact .step a b ih h2
theorem Eqv.symm (hm : Mv n f g fi gi) {u v : List Int} (h : Eqv f g fi gi u v) (hu : WordOk n u) : Eqv f g fi gi v u := by
  induction h with
  | refl => exact .refl
  | step a b h1 h2 ih =>
    have h3 : Eqv f g fi gi b a := .step b a .refl (h2.symm hm (h1.ok hm hu))
    exact h3.trans ih

theorem moveL_append_left {l : List Int} {k : Nat} (hk : k + 1 < l.length) (m : List Int) : moveL f g (l ++ m) k = moveL f g l k ++ m := by
  unfold moveL
  rw [ix_app (by omega), ix_app hk, List.set_append_left _ _ (by omega), List.set_append_left _ _ (by simpa using hk)]
theorem ix_app_right (l m : List Int) (i : Nat) : ix (l ++ m) (l.length + i) = ix m i := by
  rw [ix_eq, ix_eq, List.getD_eq_getElem?_getD, List.getD_eq_getElem?_getD, List.getElem?_append_right (by omega)]; simp
theorem moveL_append_right (l : List Int) {m : List Int} {k : Nat} : moveL f g (l ++ m) (l.length + k) = l ++ moveL f g m k := by
  unfold moveL
  rw [ix_app_right, Nat.add_assoc, ix_app_right, List.set_append_right _ _ (by omega), List.set_append_right _ _ (by omega)]
  congr 2
  · congr 1; omega
  · omega
theorem Nb.behind {u v : List Int} (h : Nb f g fi gi u v) (m : List Int) : Nb f g fi gi (u ++ m) (v ++ m) := by
  obtain ⟨k, hk, rfl | rfl⟩ := h
  · exact ⟨k, by simp; omega, .inl (moveL_append_left hk m).symm⟩
  · exact ⟨k, by simp; omega, .inr (moveL_append_left hk m).symm⟩
theorem Nb.ahead {u v : List Int} (h : Nb f g fi gi u v) (l : List Int) : Nb f g fi gi (l ++ u) (l ++ v) := by
  obtain ⟨k, hk, rfl | rfl⟩ := h
  · exact ⟨l.length + k, by simp; omega, .inl (moveL_append_right l).symm⟩
  · exact ⟨l.length + k, by simp; omega, .inr (moveL_append_right l).symm⟩
theorem Eqv.behind {u v : List Int} (h : Eqv f g fi gi u v) (m : List Int) : Eqv f g fi gi (u ++ m) (v ++ m) := by
  induction h with
  | refl => exact .refl
  | step a b _ h2 ih => exact .step _ _ ih (h2.behind m)
theorem Eqv.ahead {u v : List Int} (h : Eqv f g fi gi u v) (l : List Int) : Eqv f g fi gi (l ++ u) (l ++ v) := by
  induction h with
  | refl => exact .refl
  | step a b _ h2 ih => exact .step _ _ ih (h2.ahead l)
end

/-! ### classes -/
@[irreducible] noncomputable def wclL (n : Nat) (f g fi gi : Nat → Nat → Nat) (u : List Int) : List (List Int) := by
  classical exact (allL n u.length).filter fun v => decide (Eqv f g fi gi u v)
section
variable {n : Nat} {f g fi gi : Nat → Nat → Nat}
theorem mem_wclL (hm : Mv n f g fi gi) {u v : List Int} (hu : WordOk n u) : v ∈ wclL n f g fi gi u ↔ Eqv f g fi gi u v := by
  unfold wclL
  rw [List.mem_filter, mem_allL]
  constructor
  · intro h; simpa using h.2
  · intro h
    refine ⟨⟨h.len, fun i hi => h.ok hm hu i (by rw [h.len]; exact hi)⟩, by simpa using h⟩
theorem sorted_wclL (n : Nat) (f g fi gi : Nat → Nat → Nat) (u : List Int) : (wclL n f g fi gi u).Pairwise LexLt := by
  unfold wclL
  exact (sorted_allL n _).filter _
theorem LexLt.trans' {p q r : List Int} (h : LexLt p q) (k : LexLt q r) : LexLt p r := by
  obtain ⟨d, h1, h2⟩ := h
  obtain ⟨e, k1, k2⟩ := k
  rcases Nat.lt_trichotomy d e with hd | hd | hd
  · exact ⟨d, fun i hi => (h1 i hi).trans (k1 i (by omega)), by rw [← k1 d hd]; exact h2⟩
  · subst hd
    exact ⟨d, fun i hi => (h1 i hi).trans (k1 i hi), by omega⟩
  · exact ⟨e, fun i hi => (h1 i (by omega)).trans (k1 i hi), by rw [h1 e hd]; exact k2⟩
theorem lex_same : ∀ {l m : List (List Int)}, l.Pairwise LexLt → m.Pairwise LexLt → (∀ x, x ∈ l ↔ x ∈ m) → l = m := by
  intro l
  induction l with
  | nil =>
    intro m _ _ h
    cases m with
    | nil => rfl
    | cons b s => exact absurd ((h b).2 List.mem_cons_self) (by simp)
  | cons a r ih =>
    intro m hl hm h
    cases m with
    | nil => exact absurd ((h a).1 List.mem_cons_self) (by simp)
    | cons b s =>
      have ha := (List.pairwise_cons.1 hl).1
      have hb := (List.pairwise_cons.1 hm).1
      have e : a = b := by
        rcases List.mem_cons.1 ((h a).1 List.mem_cons_self) with e | e
        · exact e
        · rcases List.mem_cons.1 ((h b).2 List.mem_cons_self) with e2 | e2
          · exact e2.symm
          · exact absurd ((hb a e).trans' (ha b e2)) (LexLt.irrefl b)
      subst e
      rw [ih (List.pairwise_cons.1 hl).2 (List.pairwise_cons.1 hm).2 fun x => ?_]
      constructor
      · intro hx
        rcases List.mem_cons.1 ((h x).1 (List.mem_cons_of_mem _ hx)) with e2 | e2
        · subst e2; exact absurd (ha x hx) (LexLt.irrefl x)
        · exact e2
      · intro hx
        rcases List.mem_cons.1 ((h x).2 (List.mem_cons_of_mem _ hx)) with e2 | e2
        · subst e2; exact absurd (hb x hx) (LexLt.irrefl x)
        · exact e2
theorem wclL_self (hm : Mv n f g fi gi) {u : List Int} (hu : WordOk n u) : u ∈ wclL n f g fi gi u := (mem_wclL hm hu).2 .refl
theorem wclL_same (hm : Mv n f g fi gi) {u v : List Int} (hu : WordOk n u) (h : Eqv f g fi gi u v) : wclL n f g fi gi v = wclL n f g fi gi u :=
  lex_same (sorted_wclL _ _ _ _ _ _) (sorted_wclL _ _ _ _ _ _) fun x => by
    rw [mem_wclL hm hu, mem_wclL hm (h.ok hm hu)]
    exact ⟨fun k => h.trans k, fun k => (h.symm hm hu).trans k⟩
theorem wclL_closed (hm : Mv n f g fi gi) {u : List Int} (hu : WordOk n u) {F : List (List Int)} (h0 : u ∈ F) (h1 : ∀ v, v ∈ F → Eqv f g fi gi u v) (h2 : ∀ v, v ∈ F → ∀ k, k + 1 < u.length → moveL f g v k ∈ F ∧ moveL fi gi v k ∈ F) : ∀ x, x ∈ F ↔ x ∈ wclL n f g fi gi u := by
  intro x
  rw [mem_wclL hm hu]
  refine ⟨h1 x, fun h => ?_⟩
  induction h with
  | refl => exact h0
  | step a b ha hb ih =>
    obtain ⟨k, hk, rfl | rfl⟩ := hb
    · exact (h2 a ih k (by rw [← ha.len]; exact hk)).1
    · exact (h2 a ih k (by rw [← ha.len]; exact hk)).2
theorem nodup_of_lex {l : List (List Int)} (h : l.Pairwise LexLt) : l.Nodup := h.imp fun {a b} q e => by subst e; exact LexLt.irrefl a q
theorem nodup_wclL (n : Nat) (f g fi gi : Nat → Nat → Nat) (u : List Int) : (wclL n f g fi gi u).Nodup := nodup_of_lex (sorted_wclL _ _ _ _ _ _)
theorem wclL_begin (hm : Mv n f g fi gi) {p q : List Int} (hu : WordOk n (p ++ q)) : (wclL n f g fi gi p).length ≤ (wclL n f g fi gi (p ++ q)).length := by
  have hp : WordOk n p := fun i hi => by
    have := hu i (by simp; omega)
    rwa [ix_app hi] at this
  have h1 : ((wclL n f g fi gi p).map (· ++ q)).Nodup := by
    refine nodup_map_on (nodup_wclL _ _ _ _ _ _) fun a _ b _ e => List.append_cancel_right e
  have := nodup_le _ (wclL n f g fi gi (p ++ q)) h1 fun x hx => by
    obtain ⟨a, ha, rfl⟩ := List.mem_map.1 hx
    exact (mem_wclL hm hu).2 (((mem_wclL hm hp).1 ha).behind q)
  rwa [List.length_map] at this
theorem wclL_end (hm : Mv n f g fi gi) {p q : List Int} (hu : WordOk n (p ++ q)) : (wclL n f g fi gi q).length ≤ (wclL n f g fi gi (p ++ q)).length := by
  have hq : WordOk n q := fun i hi => by
    have := hu (p.length + i) (by simp; omega)
    rwa [ix_app_right] at this
  have h1 : ((wclL n f g fi gi q).map (p ++ ·)).Nodup := by
    refine nodup_map_on (nodup_wclL _ _ _ _ _ _) fun a _ b _ e => List.append_cancel_left e
  have := nodup_le _ (wclL n f g fi gi (p ++ q)) h1 fun x hx => by
    obtain ⟨a, ha, rfl⟩ := List.mem_map.1 hx
    exact (mem_wclL hm hu).2 (((mem_wclL hm hq).1 ha).ahead p)
  rwa [List.length_map] at this
end
end Go.Proofs.YtjfjpngajboidaaGreat


namespace Go.Proofs.YtjfjpngajboidaaGreat
set_option linter.unusedVariables false
set_option linter.unusedSimpArgs false

def tauN (m : Nat → Nat → Nat) (v : Nat → Nat) (c : Nat → Nat → Nat) (d : Nat → Nat) (x y : Nat) : Nat := c (d (lamN m v c x y)) (c x y)

section
variable {n : Nat} {m : Nat → Nat → Nat} {v : Nat → Nat} {c : Nat → Nat → Nat} {d : Nat → Nat} (h : Skew n m v c d)
include h

theorem Skew.tb {x y : Nat} (hx : x < n) (hy : y < n) : tauN m v c d x y < n := h.cir.bd _ (h.cir.vb _ (h.lb hx hy)) _ (h.cir.bd x hx y hy)

end
end Go.Proofs.YtjfjpngajboidaaGreat


namespace Go.Proofs.YtjfjpngajboidaaGreat
set_option linter.unusedVariables false
set_option linter.unusedSimpArgs false
open Go.RowKit

def NoEmpty (t : List (List Int)) : Prop := ∀ i, i < t.length → row t i ≠ []
theorem NoEmpty.nil : NoEmpty [] := fun i h => by simp at h
theorem NoEmpty.made {n : Nat} (h : 0 < n) (f : Nat → Nat → Int) : NoEmpty (mkT n f) := fun i hi => by
  rw [length_mkT] at hi
  intro e
  have : (row (mkT n f) i).length = n := by rw [row_mkT _ _ _ hi]; exact length_partRow _ _ _ _
  rw [e] at this
  simp at this
  omega
end Go.Proofs.YtjfjpngajboidaaGreat


namespace Go.Proofs.YtjfjpngajboidaaGreat
set_option linter.unusedVariables false
set_option linter.unusedSimpArgs false
open Go.RowKit
attribute [local go_sem ↓] Go.wp_at_zero Go.wp_at_succ

end Go.Proofs.YtjfjpngajboidaaGreat


namespace Go.Proofs.YtjfjpngajboidaaGreat
set_option linter.unusedVariables false
set_option linter.unusedSimpArgs false

def YbE (n : Nat) (l s : Nat → Nat → Nat) : Prop := ∀ x, x < n → ∀ y, y < n → ∀ z, z < n →
  l (l x y) (l (s x y) z) = l x (l y z) ∧ s (l x y) (l (s x y) z) = l (s x (l y z)) (s y z) ∧ s (s x y) z = s (s x (l y z)) (s y z)

def YbI (n : Nat) (l s : Nat → Nat → Nat) : Prop := ∀ x, x < n → ∀ y, y < n → ∀ a, a < n → ∀ b, b < n → l x y = l a b → s x y = s a b → x = a ∧ y = b

structure SolOk (L S : List (List Int)) : Prop where
  l : TableOk L
  s : TableOk S
  len : S.length = L.length
  eq : YbE L.length (mulN L) (mulN S)
  inj : YbI L.length (mulN L) (mulN S)

theorem SolOk.ln {L S : List (List Int)} (h : SolOk L S) {x y : Nat} (hx : x < L.length) (hy : y < L.length) : ent L x y = ((mulN L x y : Nat) : Int) ∧ mulN L x y < L.length := by
  have := h.l.bd hx hy
  unfold mulN
  omega

theorem SolOk.sn {L S : List (List Int)} (h : SolOk L S) {x y : Nat} (hx : x < L.length) (hy : y < L.length) : ent S x y = ((mulN S x y : Nat) : Int) ∧ mulN S x y < L.length := by
  have := h.s.bd (x := x) (y := y) (by rw [h.len]; exact hx) (by rw [h.len]; exact hy)
  have := h.len
  unfold mulN
  omega

section
variable {t u : List (List Int)} (hb : braceB t u = true)
include hb

end
end Go.Proofs.YtjfjpngajboidaaGreat


namespace Go.Proofs.YtjfjpngajboidaaGreat
set_option linter.unusedVariables false
set_option linter.unusedSimpArgs false

structure RackOk (t : List (List Int)) : Prop where
  tab : TableOk t
  perm : permRowsB t = true
  law : ∀ x, x < t.length → ∀ y, y < t.length → ∀ z, z < t.length → ent t x (ent t y z).toNat = ent t (ent t x y).toNat (ent t x z).toNat
theorem RackOk.iso {t : List (List Int)} (h : RackOk t) {x : Nat} (hx : x < t.length) : IsoOk t.length [] [] (row t x) :=
  isoOk_plain.2 ⟨h.tab.len hx, permRowsB_iff.1 h.perm x hx⟩
end Go.Proofs.YtjfjpngajboidaaGreat


namespace Go.Proofs.YtjfjpngajboidaaGreat
set_option linter.unusedVariables false
set_option linter.unusedSimpArgs false

def InvAt (l s : Nat → Nat → Nat) (x y : Nat) : Prop := l (l x y) (s x y) = x ∧ s (l x y) (s x y) = y

instance (l s : Nat → Nat → Nat) (x y : Nat) : Decidable (InvAt l s x y) := by unfold InvAt; infer_instance

@[irreducible] def invB (n : Nat) (l s : Nat → Nat → Nat) : Bool := decide (∀ x, x < n → ∀ y, y < n → InvAt l s x y)

theorem invB_yes {n : Nat} {l s : Nat → Nat → Nat} (h : ∀ x, x < n → ∀ y, y < n → InvAt l s x y) : invB n l s = true := by unfold invB; exact decide_eq_true h

theorem invB_no {n : Nat} {l s : Nat → Nat → Nat} {x y : Nat} (hx : x < n) (hy : y < n) (h : ¬ InvAt l s x y) : invB n l s = false := by unfold invB; exact decide_eq_false fun k => h (k x hx y hy)

theorem invB_iff {n : Nat} {l s : Nat → Nat → Nat} : invB n l s = true ↔ ∀ x, x < n → ∀ y, y < n → InvAt l s x y := by unfold invB; simp

section
variable {t u : List (List Int)} (hb : braceB t u = true)
include hb

end
end Go.Proofs.YtjfjpngajboidaaGreat


namespace Go.Proofs.YtjfjpngajboidaaGreat
set_option linter.unusedVariables false
set_option linter.unusedSimpArgs false

structure InvTo (L S : List (List Int)) (x y : Nat) (T U : List (List Int)) : Prop where
  len1 : T.length = L.length
  len2 : U.length = L.length
  rows1 : ∀ i, i < L.length → (row T i).length = L.length
  rows2 : ∀ i, i < L.length → (row U i).length = L.length
  at_ : ∀ a b, a < L.length → b < L.length → (a < x ∨ (a = x ∧ b < y)) → ent T (mulN L a b) (mulN S a b) = (a : Int) ∧ ent U (mulN L a b) (mulN S a b) = (b : Int)

theorem InvTo.start {L S : List (List Int)} (h : SolOk L S) : InvTo L S 0 0 L S := ⟨rfl, h.len, fun i hi => h.l.len hi, fun i hi => by rw [h.s.len (by rw [h.len]; exact hi), h.len], fun a b _ _ h => by omega⟩

theorem InvTo.next {L S T U : List (List Int)} {x : Nat} (h : InvTo L S x L.length T U) : InvTo L S (x + 1) 0 T U := ⟨h.len1, h.len2, h.rows1, h.rows2, fun a b ha hb hab => h.at_ a b ha hb (by omega)⟩

theorem InvTo.step {L S T U : List (List Int)} {x y : Nat} (hO : SolOk L S) (h : InvTo L S x y T U) (hx : x < L.length) (hy : y < L.length) : InvTo L S x (y + 1) (setE T (mulN L x y) (mulN S x y) (x : Int)) (setE U (mulN L x y) (mulN S x y) (y : Int)) := by
  have b1 := (hO.ln hx hy).2
  have b2 := (hO.sn hx hy).2
  have hT : mulN L x y < T.length := by rw [h.len1]; exact b1
  have hU : mulN L x y < U.length := by rw [h.len2]; exact b1
  refine ⟨by rw [length_setE]; exact h.len1, by rw [length_setE]; exact h.len2, fun i hi => by rw [length_row_setE _ _ _ _ _ hT]; exact h.rows1 i hi, fun i hi => by rw [length_row_setE _ _ _ _ _ hU]; exact h.rows2 i hi, fun a b ha hb hab => ?_⟩
  by_cases e : a = x ∧ b = y
  · obtain ⟨rfl, rfl⟩ := e
    exact ⟨ent_setE_same _ _ _ _ hT (by rw [h.rows1 _ b1]; exact b2), ent_setE_same _ _ _ _ hU (by rw [h.rows2 _ b1]; exact b2)⟩
  · have hne : mulN L a b ≠ mulN L x y ∨ mulN S a b ≠ mulN S x y := by
      by_cases e1 : mulN L a b = mulN L x y
      · right
        intro e2
        exact e (hO.inj a ha b hb x hx y hy e1 e2)
      · exact .inl e1
    rw [ent_setE_other _ _ _ _ _ _ hT hne, ent_setE_other _ _ _ _ _ _ hU hne]
    exact h.at_ a b ha hb (by omega)

end Go.Proofs.YtjfjpngajboidaaGreat


namespace Go.Proofs.YtjfjpngajboidaaGreat
set_option linter.unusedVariables false
set_option linter.unusedSimpArgs false

theorem pair_code {n a b c d : Nat} (hb : b < n) (hd : d < n) (e : a * n + b = c * n + d) : a = c ∧ b = d := by
  have hn : 0 < n := by omega
  have h1 : (a * n + b) / n = a := by rw [Nat.mul_comm, Nat.mul_add_div hn, Nat.div_eq_of_lt hb]; omega
  have h2 : (c * n + d) / n = c := by rw [Nat.mul_comm, Nat.mul_add_div hn, Nat.div_eq_of_lt hd]; omega
  have : a = c := by rw [← h1, ← h2, e]
  subst this
  exact ⟨rfl, by omega⟩
theorem pair_lt {n a b : Nat} (ha : a < n) (hb : b < n) : a * n + b < n * n := by
  have := Nat.mul_le_mul_right n (show a + 1 ≤ n from ha)
  rw [Nat.add_mul] at this
  omega
theorem SolOk.onto {L S : List (List Int)} (h : SolOk L S) {x y : Nat} (hx : x < L.length) (hy : y < L.length) : ∃ a, a < L.length ∧ ∃ b, b < L.length ∧ mulN L a b = x ∧ mulN S a b = y := by
  obtain ⟨n, hn⟩ : ∃ n, n = L.length := ⟨_, rfl⟩
  have hn0 : 0 < n := by omega
  have hq : ∀ c, c < n * n → c / n < n ∧ c % n < n := fun c hc => ⟨Nat.div_lt_of_lt_mul hc, Nat.mod_lt _ hn0⟩
  have hnd : ((List.range (n * n)).map fun c => mulN L (c / n) (c % n) * n + mulN S (c / n) (c % n)).Nodup := by
    refine nodup_map_on List.nodup_range fun a ha b hb e => ?_
    obtain ⟨a1, a2⟩ := hq a (List.mem_range.1 ha)
    obtain ⟨b1, b2⟩ := hq b (List.mem_range.1 hb)
    have k1 := (h.sn (x := a / n) (y := a % n) (by omega) (by omega)).2
    have k2 := (h.sn (x := b / n) (y := b % n) (by omega) (by omega)).2
    obtain ⟨e1, e2⟩ := pair_code (by omega) (by omega) e
    obtain ⟨e3, e4⟩ := h.inj (a / n) (by omega) (a % n) (by omega) (b / n) (by omega) (b % n) (by omega) e1 e2
    have m1 := Nat.div_add_mod a n
    have m2 := Nat.div_add_mod b n
    rw [e3, e4] at m1
    omega
  have hsub : ∀ z, z ∈ ((List.range (n * n)).map fun c => mulN L (c / n) (c % n) * n + mulN S (c / n) (c % n)) → z ∈ List.range (n * n) := by
    intro z hz
    obtain ⟨c, hc, rfl⟩ := List.mem_map.1 hz
    obtain ⟨a1, a2⟩ := hq c (List.mem_range.1 hc)
    have k1 := (h.ln (x := c / n) (y := c % n) (by omega) (by omega)).2
    have k2 := (h.sn (x := c / n) (y := c % n) (by omega) (by omega)).2
    exact List.mem_range.2 (pair_lt (by omega) (by omega))
  have hp := (pigeon _ _ hnd hsub (by simp)).1 (x * n + y) (List.mem_range.2 (pair_lt (by omega) (by omega)))
  obtain ⟨c, hc, e⟩ := List.mem_map.1 hp
  obtain ⟨a1, a2⟩ := hq c (List.mem_range.1 hc)
  have k2 := (h.sn (x := c / n) (y := c % n) (by omega) (by omega)).2
  obtain ⟨e1, e2⟩ := pair_code (by omega) (by omega) e
  exact ⟨c / n, by omega, c % n, by omega, e1, e2⟩
theorem mv_of {L S T U : List (List Int)} (h : SolOk L S) (hI : InvTo L S L.length 0 T U) : Mv L.length (mulN L) (mulN S) (mulN T) (mulN U) := by
  have at_ : ∀ a b, a < L.length → b < L.length → mulN T (mulN L a b) (mulN S a b) = a ∧ mulN U (mulN L a b) (mulN S a b) = b := fun a b ha hb => by
    obtain ⟨e1, e2⟩ := hI.at_ a b ha hb (.inl ha)
    unfold mulN at e1 e2 ⊢
    rw [e1, e2]
    exact ⟨rfl, rfl⟩
  have bd : ∀ x, x < L.length → ∀ y, y < L.length → ∃ a, a < L.length ∧ ∃ b, b < L.length ∧ mulN T x y = a ∧ mulN U x y = b ∧ mulN L a b = x ∧ mulN S a b = y := fun x hx y hy => by
    obtain ⟨a, ha, b, hb, e1, e2⟩ := h.onto hx hy
    obtain ⟨e3, e4⟩ := at_ a b ha hb
    rw [e1, e2] at e3 e4
    exact ⟨a, ha, b, hb, e3, e4, e1, e2⟩
  refine ⟨fun x hx y hy => (h.ln hx hy).2, fun x hx y hy => (h.sn hx hy).2, fun x hx y hy => ?_, fun x hx y hy => ?_, fun x hx y hy => at_ x y hx hy, fun x hx y hy => ?_⟩
  · obtain ⟨a, ha, b, hb, e1, e2, -, -⟩ := bd x hx y hy
    omega
  · obtain ⟨a, ha, b, hb, e1, e2, -, -⟩ := bd x hx y hy
    omega
  · obtain ⟨a, ha, b, hb, e1, e2, e3, e4⟩ := bd x hx y hy
    rw [e1, e2]
    exact ⟨e3, e4⟩
end Go.Proofs.YtjfjpngajboidaaGreat


namespace Go.Proofs.YtjfjpngajboidaaGreat
set_option linter.unusedVariables false
set_option linter.unusedSimpArgs false

structure PairOk (L S : List (List Int)) : Prop where
  l : TableOk L
  s : TableOk S
  len : S.length = L.length
theorem PairOk.ln {L S : List (List Int)} (h : PairOk L S) {x y : Nat} (hx : x < L.length) (hy : y < L.length) : ent L x y = ((mulN L x y : Nat) : Int) ∧ mulN L x y < L.length := by
  have := h.l.bd hx hy
  unfold mulN
  omega
theorem PairOk.sn {L S : List (List Int)} (h : PairOk L S) {x y : Nat} (hx : x < L.length) (hy : y < L.length) : ent S x y = ((mulN S x y : Nat) : Int) ∧ mulN S x y < L.length := by
  have := h.s.bd (x := x) (y := y) (by rw [h.len]; exact hx) (by rw [h.len]; exact hy)
  have := h.len
  unfold mulN
  omega
theorem PairOk.rowL {L S : List (List Int)} (h : PairOk L S) {x : Nat} (hx : x < L.length) : (row L x).length = L.length := h.l.len hx
theorem PairOk.rowS {L S : List (List Int)} (h : PairOk L S) {x : Nat} (hx : x < L.length) : (row S x).length = L.length := by rw [h.s.len (by rw [h.len]; exact hx), h.len]
theorem SolOk.pair {L S : List (List Int)} (h : SolOk L S) : PairOk L S := ⟨h.l, h.s, h.len⟩

@[irreducible] def pairB (L S : List (List Int)) : Bool := tableB L && tableB S && decide (L.length = S.length)
theorem pairB_def (L S : List (List Int)) : pairB L S = (tableB L && tableB S && decide (L.length = S.length)) := by unfold pairB; rfl
theorem pairB_iff {L S : List (List Int)} : pairB L S = true ↔ PairOk L S := by
  rw [pairB_def, Bool.and_eq_true, Bool.and_eq_true, tableB_iff, tableB_iff, decide_eq_true_iff]
  exact ⟨fun ⟨⟨a, b⟩, c⟩ => ⟨a, b, c.symm⟩, fun h => ⟨⟨h.l, h.s⟩, h.len.symm⟩⟩
@[irreducible] noncomputable def injB (L S : List (List Int)) : Bool := by classical exact decide (YbI L.length (mulN L) (mulN S))
theorem injB_iff {L S : List (List Int)} : injB L S = true ↔ YbI L.length (mulN L) (mulN S) := by unfold injB; simp
@[irreducible] noncomputable def ybeB (L S : List (List Int)) : Bool := by classical exact decide (YbE L.length (mulN L) (mulN S))
theorem ybeB_iff {L S : List (List Int)} : ybeB L S = true ↔ YbE L.length (mulN L) (mulN S) := by unfold ybeB; simp
@[irreducible] noncomputable def solB (L S : List (List Int)) : Bool := pairB L S && injB L S && ybeB L S
theorem solB_def (L S : List (List Int)) : solB L S = (pairB L S && injB L S && ybeB L S) := by unfold solB; rfl
theorem solB_iff {L S : List (List Int)} : solB L S = true ↔ SolOk L S := by
  rw [solB_def, Bool.and_eq_true, Bool.and_eq_true, pairB_iff, injB_iff, ybeB_iff]
  exact ⟨fun ⟨⟨a, b⟩, c⟩ => ⟨a.l, a.s, a.len, c, b⟩, fun h => ⟨⟨h.pair, h.inj⟩, h.eq⟩⟩
def eqT (l s : Nat → Nat → Nat) (x y z : Nat) : Prop := l (l x y) (l (s x y) z) = l x (l y z) ∧ s (l x y) (l (s x y) z) = l (s x (l y z)) (s y z) ∧ s (s x y) z = s (s x (l y z)) (s y z)
theorem ybe_at {n : Nat} {l s : Nat → Nat → Nat} : YbE n l s ↔ ∀ x, x < n → ∀ y, y < n → ∀ z, z < n → eqT l s x y z := Iff.rfl
theorem eqT_moves (l s : Nat → Nat → Nat) (x y z : Nat) : moveL l s (moveL l s (moveL l s [(x : Int), y, z] 0) 1) 0 = moveL l s (moveL l s (moveL l s [(x : Int), y, z] 1) 0) 1 ↔ eqT l s x y z := by
  unfold eqT moveL
  simp [ix, Int.natCast_inj]
theorem PairOk.move {L S : List (List Int)} (h : PairOk L S) {p : List Int} (hp : WordOk L.length p) {k : Nat} (hk : k + 1 < p.length) : WordOk L.length (moveL (mulN L) (mulN S) p k) := by
  intro i hi
  rw [length_moveL] at hi
  rw [ix_moveL _ _ _ hk]
  have h1 := hp.nat (i := k) (by omega)
  have h2 := hp.nat hk
  have h3 := (h.ln h1.2 h2.2).2
  have h4 := (h.sn h1.2 h2.2).2
  split
  · omega
  · split
    · omega
    · exact hp i hi
theorem word3 {n x y z : Nat} (hx : x < n) (hy : y < n) (hz : z < n) : WordOk n [(x : Int), y, z] := by
  intro i hi
  match i, hi with
  | 0, _ => simp [ix]; omega
  | 1, _ => simp [ix]; omega
  | 2, _ => simp [ix]; omega
def colAt (n : Nat) (l s : Nat → Nat → Nat) (a b : Nat) : Prop := a ≠ b ∧ l (a / n) (a % n) = l (b / n) (b % n) ∧ s (a / n) (a % n) = s (b / n) (b % n)
theorem code_parts {n x y : Nat} (hy : y < n) : (x * n + y) / n = x ∧ (x * n + y) % n = y := by
  have hn : 0 < n := by omega
  refine ⟨?_, ?_⟩
  · rw [Nat.mul_comm, Nat.mul_add_div hn, Nat.div_eq_of_lt hy]; omega
  · rw [Nat.mul_comm, Nat.mul_add_mod, Nat.mod_eq_of_lt hy]
theorem ybi_at {n : Nat} {l s : Nat → Nat → Nat} (h0 : 0 < n) : YbI n l s ↔ ∀ a, a < n * n → ∀ b, b < n * n → ¬ colAt n l s a b := by
  constructor
  · intro h a ha b hb ⟨hne, e1, e2⟩
    obtain ⟨g1, g2⟩ := h (a / n) (Nat.div_lt_of_lt_mul ha) (a % n) (Nat.mod_lt _ h0) (b / n) (Nat.div_lt_of_lt_mul hb) (b % n) (Nat.mod_lt _ h0) e1 e2
    have a1 := Nat.div_add_mod a n
    have a2 := Nat.div_add_mod b n
    rw [g1, g2] at a1
    omega
  · intro h x hx y hy a ha b hb e1 e2
    obtain ⟨p1, p2⟩ := code_parts (x := x) hy
    obtain ⟨p3, p4⟩ := code_parts (x := a) hb
    by_cases hc : x * n + y = a * n + b
    · exact pair_code hy hb hc
    · exact absurd ⟨hc, by rw [p1, p2, p3, p4]; exact e1, by rw [p1, p2, p3, p4]; exact e2⟩ (h _ (pair_lt hx hy) _ (pair_lt ha hb))
def RetF (B : Bool) (m : Nat) (nil : Bool) (w : World) (e : Ending) (w' : World) : Prop :=
  ((B = true ∧ ∃ a, e = .returned (.slice a 0 0) ∧ (nil = true → a = none)) ∨ (B = false ∧ ∃ g, e = .returned (.slice (some ⟨g, 0, none⟩) m m))) ∧ Ext w w'
theorem inv_pair {L S T U : List (List Int)} (h : SolOk L S) (hI : InvTo L S L.length 0 T U) : PairOk T U := by
  have ha : ∀ x, x < L.length → ∀ y, y < L.length → (0 ≤ ent T x y ∧ ent T x y ≤ (L.length : Int) - 1) ∧ (0 ≤ ent U x y ∧ ent U x y ≤ (L.length : Int) - 1) := fun x hx y hy => by
    obtain ⟨a, ha, b, hb, e1, e2⟩ := h.onto hx hy
    obtain ⟨e3, e4⟩ := hI.at_ a b ha hb (.inl ha)
    rw [e1, e2] at e3 e4
    omega
  have h1 := h.l.1
  have h2 := h.l.2.1
  refine ⟨⟨by rw [hI.len1]; exact h1, by rw [hI.len1]; exact h2, ?_⟩, ⟨by rw [hI.len2]; exact h1, by rw [hI.len2]; exact h2, ?_⟩, by rw [hI.len1, hI.len2]⟩
  · rw [hI.len1]
    exact fun x hx => ⟨hI.rows1 x hx, fun y hy => (ha x hx y hy).1⟩
  · rw [hI.len2]
    exact fun x hx => ⟨hI.rows2 x hx, fun y hy => (ha x hx y hy).2⟩
theorem eq_of_ents {n : Nat} {T T' : List (List Int)} (h1 : T.length = n) (h2 : T'.length = n) (r1 : ∀ i, i < n → (row T i).length = n) (r2 : ∀ i, i < n → (row T' i).length = n) (he : ∀ x, x < n → ∀ y, y < n → ent T x y = ent T' x y) : T = T' := by
  apply List.ext_getElem (by omega)
  intro i hi hi'
  have e1 : row T i = T[i] := by rw [row_eq]; simp [List.getD, hi]
  have e2 : row T' i = T'[i] := by rw [row_eq]; simp [List.getD, hi']
  rw [← e1, ← e2]
  have k1 := r1 i (by omega)
  have k2 := r2 i (by omega)
  apply List.ext_getElem (by omega)
  intro j hj hj'
  have := he i (by omega) j (by omega)
  rw [← ent_def, ← ent_def, ix_eq, ix_eq] at this
  simpa [List.getD, hj, hj'] using this
theorem inv_eq {L S T U T' U' : List (List Int)} (h : SolOk L S) (h1 : InvTo L S L.length 0 T U) (h2 : InvTo L S L.length 0 T' U') : T = T' ∧ U = U' := by
  have he : ∀ x, x < L.length → ∀ y, y < L.length → ent T x y = ent T' x y ∧ ent U x y = ent U' x y := fun x hx y hy => by
    obtain ⟨a, ha, b, hb, e1, e2⟩ := h.onto hx hy
    obtain ⟨e3, e4⟩ := h1.at_ a b ha hb (.inl ha)
    obtain ⟨e5, e6⟩ := h2.at_ a b ha hb (.inl ha)
    rw [e1, e2] at e3 e4 e5 e6
    rw [e3, e4, e5, e6]
    exact ⟨rfl, rfl⟩
  exact ⟨eq_of_ents h1.len1 h2.len1 h1.rows1 h2.rows1 fun x hx y hy => (he x hx y hy).1, eq_of_ents h1.len2 h2.len2 h1.rows2 h2.rows2 fun x hx y hy => (he x hx y hy).2⟩
end Go.Proofs.YtjfjpngajboidaaGreat


namespace Go.Proofs.YtjfjpngajboidaaGreat
set_option linter.unusedVariables false
set_option linter.unusedSimpArgs false
open Go.RowKit

theorem GrowI.cut {e base : Nat} {w : World} {a : Option Addr} {c : Nat} {l : List Int} (h : GrowI e base w (.slice a l.length c) l) {k : Nat} (hk : k ≤ l.length) : GrowI e base w (.slice a k c) (l.take k) := by
  refine ⟨by simp, ?_⟩
  have hl : (l.take k).length = k := by simp; omega
  rw [hl]
  rcases h.2 with ⟨hv, hn⟩ | ⟨g, cap, cur, hv, hb, hg, hnc, hm, hcs, htake⟩
  · simp only [Value.slice.injEq] at hv
    obtain ⟨rfl, -, rfl⟩ := hv
    exact .inl ⟨by rw [show k = 0 by omega], by omega⟩
  · simp only [Value.slice.injEq, true_and] at hv
    obtain ⟨rfl, rfl⟩ := hv
    refine .inr ⟨g, c, cur, rfl, hb, hg, by omega, hm, hcs, ?_⟩
    have := congrArg (List.take (k * 1)) htake
    rw [List.take_take, Nat.mul_one, Nat.mul_one, Nat.min_eq_left hk] at this
    rw [Nat.mul_one, this, List.map_take]
theorem GrowI.room {e base : Nat} {w : World} {a : Option Addr} {c : Nat} {l : List Int} (h : GrowI e base w (.slice a l.length c) l) : l.length ≤ c := by
  rcases h.2 with ⟨hv, hn⟩ | ⟨g, cap, cur, hv, hb, hg, hnc, hm, hcs, htake⟩
  · omega
  · simp only [Value.slice.injEq, true_and] at hv
    obtain ⟨-, rfl⟩ := hv
    exact hnc
end Go.Proofs.YtjfjpngajboidaaGreat


namespace Go.Proofs.YtjfjpngajboidaaGreat
set_option linter.unusedVariables false
set_option linter.unusedSimpArgs false
open Go.RowKit

def RT (w : World) (x : Value) (l : List Int) : Prop := l.length ≤ 1048576 ∧ ∃ b c, x = .slice (some ⟨b, 0, none⟩) l.length c ∧ IntsAt w b 0 l
def XT (w : World) (xs : List Value) (s : List (List Int)) : Prop := xs.length = s.length ∧ ∀ i, i < s.length → ∃ x, xs[i]? = some x ∧ RT w x (row s i)
theorem RT.ext {w w' : World} {x : Value} {l : List Int} (h : RT w x l) (hx : Ext w w') : RT w' x l := by
  obtain ⟨h0, b, c, rfl, h1⟩ := h
  exact ⟨h0, b, c, rfl, h1.ext hx⟩
theorem RT.ints {w : World} {x : Value} {l : List Int} (h : RT w x l) : Ints w x l := by
  obtain ⟨h0, b, c, rfl, h1⟩ := h
  exact h1.ints h0 c
theorem XT.nil (w : World) : XT w [] [] := ⟨rfl, fun i hi => by simp at hi⟩
theorem XT.one {w : World} {x : Value} {l : List Int} (h : RT w x l) : XT w [x] [l] := ⟨rfl, fun i hi => by
  have : i = 0 := by simpa using hi
  subst this
  exact ⟨x, rfl, by rw [row_eq]; exact h⟩⟩
theorem XT.ext {w w' : World} {xs : List Value} {s : List (List Int)} (h : XT w xs s) (hx : Ext w w') : XT w' xs s := ⟨h.1, fun i hi => by
  obtain ⟨x, h1, h2⟩ := h.2 i hi
  exact ⟨x, h1, h2.ext hx⟩⟩
theorem XT.append {w : World} {xs ys : List Value} {s t : List (List Int)} (h : XT w xs s) (k : XT w ys t) : XT w (xs ++ ys) (s ++ t) := by
  refine ⟨by simp [h.1, k.1], fun i hi => ?_⟩
  by_cases hs : i < s.length
  · obtain ⟨x, h1, h2⟩ := h.2 i hs
    refine ⟨x, by rw [List.getElem?_append_left (by rw [h.1]; exact hs)]; exact h1, ?_⟩
    rw [row_eq]
    rw [row_eq] at h2
    simpa [List.getD, List.getElem?_append_left hs] using h2
  · have hl : i - s.length < t.length := by simp at hi; omega
    obtain ⟨x, h1, h2⟩ := k.2 (i - s.length) hl
    refine ⟨x, by rw [List.getElem?_append_right (by rw [h.1]; omega), h.1]; exact h1, ?_⟩
    rw [row_eq]
    rw [row_eq] at h2
    simpa [List.getD, List.getElem?_append_right (Nat.le_of_not_lt hs)] using h2
theorem XT.take {w : World} {xs : List Value} {s : List (List Int)} (h : XT w xs s) (k : Nat) : XT w (xs.take k) (s.take k) := by
  refine ⟨by simp [h.1], fun i hi => ?_⟩
  have hi' : i < k ∧ i < s.length := by rw [List.length_take] at hi; omega
  obtain ⟨x, h1, h2⟩ := h.2 i hi'.2
  refine ⟨x, by rw [List.getElem?_take, if_pos hi'.1]; exact h1, ?_⟩
  rw [row_eq]
  rw [row_eq] at h2
  simpa [List.getD, List.getElem?_take, hi'.1] using h2
theorem XT.drop {w : World} {xs : List Value} {s : List (List Int)} (h : XT w xs s) (k : Nat) : XT w (xs.drop k) (s.drop k) := by
  refine ⟨by simp [h.1], fun i hi => ?_⟩
  have hi' : k + i < s.length := by rw [List.length_drop] at hi; omega
  obtain ⟨x, h1, h2⟩ := h.2 (k + i) hi'
  refine ⟨x, by rw [List.getElem?_drop]; exact h1, ?_⟩
  rw [row_eq]
  rw [row_eq] at h2
  simpa [List.getD, List.getElem?_drop] using h2
theorem XT.cell {w : World} {xs : List Value} {s : List (List Int)} (h : XT w xs s) : ∀ u ∈ xs, u.oneCell' = true := by
  intro u hu
  obtain ⟨i, hi, rfl⟩ := List.mem_iff_getElem.1 hu
  obtain ⟨x, h1, _, b, c, rfl, _⟩ := h.2 i (by rw [← h.1]; exact hi)
  rw [List.getElem?_eq_getElem hi] at h1
  have h1 := Option.some.inj h1
  rw [h1]; rfl
theorem GrowT.xt {e base : Nat} {w : World} {v : Value} {t : List (List Int)} (h : GrowT e base w v t) : ∃ xs, w.ownsRow base e 1 v t.length xs ∧ XT w xs t := by
  obtain ⟨xs, h1, h2⟩ := h
  refine ⟨xs, h1, by have := h1.1; simpa using this, fun i hi => ?_⟩
  obtain ⟨g0, b, c, g1, g2⟩ := h2 i hi
  exact ⟨_, g1, g0, b, c, rfl, g2⟩
theorem GrowT.of_xt {e base : Nat} {w : World} {v : Value} {t : List (List Int)} {xs : List Value} (h : w.ownsRow base e 1 v t.length xs) (k : XT w xs t) : GrowT e base w v t :=
  ⟨xs, h, fun i hi => by
    obtain ⟨x, h1, h0, b, c, rfl, h2⟩ := k.2 i hi
    exact ⟨h0, b, c, h1, h2⟩⟩
theorem RT.grown {w w' : World} {x : Value} {l : List Int} {g : Nat} {a : Option Addr} {n c : Nat} (h : RT w x l) (hg : w.grownBy w' (some g)) (hs : w.cell? ⟨g, 0, none⟩ = some (.slice a n c)) (hl : 0 < l.length) : RT w' x l := by
  obtain ⟨h0, b, c, rfl, h1⟩ := h
  refine ⟨h0, b, c, rfl, intsAt_grown h1 hg (fun _ e => ?_)⟩
  injection e with e
  have := h1 0 hl
  rw [Nat.zero_add, e, hs] at this
  cases this
theorem XT.grown {w w' : World} {xs : List Value} {s : List (List Int)} {g : Nat} {a : Option Addr} {n c : Nat} (h : XT w xs s) (hg : w.grownBy w' (some g)) (hs : w.cell? ⟨g, 0, none⟩ = some (.slice a n c)) (hr : ∀ i, i < s.length → 0 < (row s i).length) : XT w' xs s := ⟨h.1, fun i hi => by
  obtain ⟨x, h1, h2⟩ := h.2 i hi
  exact ⟨x, h1, h2.grown hg hs (hr i hi)⟩⟩
theorem GrowT.grown {e base : Nat} {w w' : World} {v : Value} {t : List (List Int)} {g : Nat} {a : Option Addr} {n c : Nat} (h : GrowT e base w v t) (hg : w.grownBy w' (some g)) (hs : w.cell? ⟨g, 0, none⟩ = some (.slice a n c)) (hr : ∀ i, i < t.length → 0 < (row t i).length) (hne : v.ownBlock ≠ some g) : GrowT e base w' v t := by
  obtain ⟨xs, h1, h2⟩ := h.xt
  exact GrowT.of_xt (World.ownsRow.kept h1 hg (.inr hne)) (h2.grown hg hs hr)
theorem GrowT.head {e base : Nat} {w : World} {v : Value} {t : List (List Int)} (h : GrowT e base w v t) (h0 : 0 < t.length) : ∃ g c b n d, v = .slice (some ⟨g, 0, none⟩) t.length c ∧ w.cell? ⟨g, 0, none⟩ = some (.slice (some ⟨b, 0, none⟩) n d) ∧ t.length ≤ c := by
  obtain ⟨xs, h1, h2⟩ := h
  rcases id h1.2 with ⟨rfl, hn⟩ | ⟨g, cap, cur, rfl, hb, hg, hnc, _, hcs, htake⟩
  · omega
  · obtain ⟨g0, b, c, g1, g2⟩ := h2 0 h0
    have := World.ownsRow.cells h1 (g := g) rfl 0 _ g1
    rw [Addr.add_lit] at this
    exact ⟨g, cap, b, _, c, rfl, this, hnc⟩
theorem GrowT.get {e base : Nat} {w : World} {v : Value} {t : List (List Int)} (h : GrowT e base w v t) {i : Nat} (hi : i < t.length) : ∃ g c b d, v = .slice (some ⟨g, 0, none⟩) t.length c ∧ w.cell? ⟨g, i, none⟩ = some (.slice (some ⟨b, 0, none⟩) (row t i).length d) ∧ IntsAt w b 0 (row t i) ∧ (row t i).length ≤ 1048576 := by
  obtain ⟨xs, h1, h2⟩ := h
  rcases id h1.2 with ⟨rfl, hn⟩ | ⟨g, cap, cur, rfl, hb, hg, hnc, _, hcs, htake⟩
  · omega
  · obtain ⟨g0, b, c, g1, g2⟩ := h2 i hi
    have := World.ownsRow.cells h1 (g := g) rfl i _ g1
    rw [Addr.add_lit, Nat.zero_add] at this
    exact ⟨g, cap, b, c, rfl, this, g2, g0⟩
theorem GrowT.one {e : Nat} {w : World} {b c : Nat} {l : List Int} {base : Nat} (hb : base ≤ w.heap.size) (hl : l.length ≤ 1048576) (h : IntsAt w b 0 l) : GrowT e base (w.alloc (.cells #[.slice (some ⟨b, 0, none⟩) l.length c] e)) (.slice (some ⟨w.heap.size, 0, none⟩) 1 1) [l] :=
  GrowT.of_xt (t := [l]) (ownsRow_one hb) (XT.one ⟨hl, b, c, rfl, h.ext ((Ext.refl w).alloc _)⟩)
end Go.Proofs.YtjfjpngajboidaaGreat


namespace Go.Proofs.YtjfjpngajboidaaGreat
set_option linter.unusedVariables false
set_option linter.unusedSimpArgs false
open Go.RowKit

set_option maxRecDepth 100000 in
theorem slicesClone_any (l : List Int) (v : Value) (w : World) (hv : Ints w v l) :
    Calls Tryz.prog 68 #[v] w (NewI l w) := by
  obtain ⟨hlen, b, o, c, rfl, hc⟩ := hv
  have hx0 : Ext w (w.alloc (.cells #[] 2)) := (Ext.refl _).alloc _
  have hi0 := GrowI.lit (e := 2) (base := w.heap.size) (w := w) (Nat.le_refl _)
  have he : ∀ w : World, (binOp .eql 27 (.slice (some ⟨b, o, none⟩) l.length c) (.slice none 0 0)).run Tryz.prog w = .ok (.bool false) w := fun _ => rfl
  go_enter Tryz.func68, Tryz.ntmps68
  go_wp2_with (at_builtin; refine wpList_append_ints rfl _ _ 27 2 rfl Tryz.underlying27 infoInt w.heap.size _ _ rfl hi0 b o c l rfl (hc.ext hx0) (by simp) hlen (by simp) ?_)
  intro v' w3 hi3 hgr hv3
  have hx3 : Ext w w3 := hx0.grown hgr hi0 (Nat.le_refl _)
  obtain ⟨b3, c3, rfl, ho⟩ := hi3.own (fun h => by first | exact hv3 h | simpa using (hv3.1 h).1)
  go_wp2
  go_ret
  exact ⟨b3, c3, rfl, ho, hx3⟩

theorem l01Own_any (l : List Int) (v : Value) (w : World) (hv : Ints w v l) :
    Calls Tryz.prog 65 #[v] w (NewI l w) := by
  obtain ⟨hlen, b, o, c, rfl, hc⟩ := hv
  have hx0 : Ext w (w.alloc (.cells #[] 2)) := (Ext.refl _).alloc _
  have hi0 := GrowI.lit (e := 2) (base := w.heap.size) (w := w) (Nat.le_refl _)
  go_enter Tryz.func65, Tryz.ntmps65
  go_wp2_with (at_builtin; refine wpList_append_ints rfl _ _ 27 2 rfl Tryz.underlying27 infoInt w.heap.size _ _ rfl hi0 b o c l rfl (hc.ext hx0) (by simp) hlen (by simp) ?_)
  intro v' w3 hi3 hgr hv3
  have hx3 : Ext w w3 := hx0.grown hgr hi0 (Nat.le_refl _)
  obtain ⟨b3, c3, rfl, ho⟩ := hi3.own (fun h => by first | exact hv3 h | simpa using (hv3.1 h).1)
  go_wp2
  go_ret
  exact ⟨b3, c3, rfl, ho, hx3⟩

theorem Rows.small {w : World} {v : Value} {t : List (List Int)} (h : Rows w v t) : Small t := by
  obtain ⟨hl, b, o, c, rfl, hc⟩ := h
  refine ⟨hl, fun i => ?_⟩
  by_cases hi : i < t.length
  · obtain ⟨_, _, h2, _⟩ := hc i hi; exact h2
  · rw [row_out (by omega)]; simp

theorem cloneTable_any (t : List (List Int)) (v : Value) (w : World) (hv : Rows w v t) :
    Calls Tryz.prog 125 #[v] w (NewT t w) := by
  obtain ⟨hlen, b, o, c, rfl, hc⟩ := id hv
  have hmk := run_make_row' (P := Tryz.prog) 24 27 (.slice none 0 0) 24 Tryz.underlying24 infoSl rfl .i64 .i64 t.length (by omega) (by omega)
  go_enter Tryz.func125, Tryz.ntmps125
  go_wp2_with fail
  clear hmk
  have hx0 : Ext w (w.alloc (.cells (madeCells #[Value.slice none 0 0] t.length) 27)) := (Ext.refl _).alloc _
  have hr0 := World.rowIs_made w (.slice none 0 0) t.length 27
  go_loopw [11] (fun i wr => ∃ k : Nat, k ≤ t.length ∧ i = .int .i64 k ∧ Build wr w.heap.size 27 t.length k (row t) ∧ Ext w wr) (fun i _ => t.length - (intOf i).toNat)
  case atStart => exact ⟨0, Nat.zero_le _, rfl, Build.zero _ hr0, hx0⟩
  case round =>
    clear hx0 hr0
    obtain ⟨k, hk, rfl, hb, hx⟩ := hrel
    by_cases hlt : k < t.length
    · obtain ⟨b4, o4, c4, r4, i4, m4⟩ := (hc.ext hx).get hlt
      have e4 := i4.ints m4 c4
      clear i4
      go_wp2_with fail
      refine (slicesClone_any (row t k) _ _ e4).mono ?_
      rintro e w1 ⟨b1, c1, rfl, ho, hx1⟩
      have hb1 := hb.ext hx1
      have e2 := hb1.cell hlt (Nat.le_refl _)
      have e3 := hb1.frozen k
      go_wp2
      go_roundw
      case rel => exact ⟨k + 1, by omega, by go_num, hb.succ hx1 ho rfl, (hx.trans hx1).setNew (Nat.le_refl _) _⟩
      case measure => simp [intOf]; omega
    · go_wp2
      go_ret
      exact ⟨w.heap.size, t.length, rfl, hb.done (fun _ _ => rfl) (by omega) (Nat.le_refl _) (Nat.le_refl _) (Nat.le_refl _), hx⟩

end Go.Proofs.YtjfjpngajboidaaGreat


namespace Go.Proofs.YtjfjpngajboidaaGreat
set_option linter.unusedVariables false
set_option linter.unusedSimpArgs false
open Go.RowKit
attribute [local go_sem ↓] Go.wp_at_zero Go.wp_at_succ

def TabsAt (w : World) (b o : Nat) (ts : List (List (List Int))) : Prop := ∀ k, k < ts.length → ∃ r, w.cell? ⟨b, o + k, none⟩ = some r ∧ Rows w r (tab ts k)

def Tabs (w : World) (v : Value) (ts : List (List (List Int))) : Prop := ts.length ≤ 1048576 ∧ ∃ b o c, v = .slice (some ⟨b, o, none⟩) ts.length c ∧ TabsAt w b o ts
theorem TabsAt.ext {w w' : World} {b o : Nat} {ts : List (List (List Int))} (h : TabsAt w b o ts) (hx : Ext w w') : TabsAt w' b o ts := fun k hk => by
  obtain ⟨r, h1, h2⟩ := h k hk
  exact ⟨r, hx.cell h1, h2.ext hx⟩
theorem Tabs.ext {w w' : World} {v : Value} {ts : List (List (List Int))} (h : Tabs w v ts) (hx : Ext w w') : Tabs w' v ts := by
  obtain ⟨hl, b, o, c, rfl, hc⟩ := h
  exact ⟨hl, b, o, c, rfl, hc.ext hx⟩
theorem TabsAt.get {w : World} {b o : Nat} {ts : List (List (List Int))} (h : TabsAt w b o ts) {k : Nat} (hk : k < ts.length) :
    ∃ b1 o1 c1, w.cell? ⟨b, o + k, none⟩ = some (.slice (some ⟨b1, o1, none⟩) (tab ts k).length c1) ∧ RowsAt w b1 o1 (tab ts k) := by
  obtain ⟨r, h1, _, b1, o1, c1, rfl, h2⟩ := h k hk
  exact ⟨b1, o1, c1, h1, h2⟩

theorem TabsAt.read {w : World} {b o n : Nat} {ts : List (List (List Int))} (h : TabsAt w b o ts) (hT : TabsOk n ts) {k : Nat} (hk : k < ts.length) :
    ∃ b1 o1 c1, w.cell? ⟨b, o + k, none⟩ = some (.slice (some ⟨b1, o1, none⟩) n c1) ∧ ∀ x, x < n → ∃ b2 o2 c2, w.cell? ⟨b1, o1 + x, none⟩ = some (.slice (some ⟨b2, o2, none⟩) n c2) ∧ ∀ y, y < n → w.cell? ⟨b2, o2 + y, none⟩ = some (.int .i64 (ent (tab ts k) x y)) := by
  obtain ⟨b1, o1, c1, h1, h2⟩ := h.get hk
  obtain ⟨t1, t2⟩ := hT k hk
  rw [t2] at h1
  refine ⟨b1, o1, c1, h1, fun x hx => ?_⟩
  obtain ⟨b2, o2, c2, g1, g2, _⟩ := h2.get (i := x) (by omega)
  have hl := t1.len (x := x) (by omega)
  rw [hl, t2] at g1
  exact ⟨b2, o2, c2, g1, fun y hy => g2.ent (by rw [hl, t2]) hy⟩

set_option maxHeartbeats 400000 in
theorem l01Less_any (l m : List Int) (v u : Value) (w : World) (hv : Ints w v l) (hu : Ints w u m) :
    Calls Tryz.prog 70 #[v, u] w fun e w' => e = .returned (.bool (lessB l m)) ∧ Drawn w w' := by
  obtain ⟨hlen, b, o, c, rfl, hc⟩ := hv
  obtain ⟨hlen2, b2, o2, c2, rfl, hc2⟩ := hu
  go_enter Tryz.func70, Tryz.ntmps70
  go_wp2
  go_loopw [5] (fun i wr => ∃ k : Nat, k ≤ l.length ∧ k ≤ m.length ∧ i = .int .i64 k ∧ lessB l m = lessB (l.drop k) (m.drop k) ∧ Drawn w wr) (fun i _ => l.length - (intOf i).toNat)
  case atStart => exact ⟨0, Nat.zero_le _, Nat.zero_le _, rfl, rfl, Drawn.refl w⟩
  case round =>
    obtain ⟨k, hk, hk2, rfl, he, hd⟩ := hrel
    have HE := Lib.hid he
    clear he
    by_cases h1 : k < l.length
    · by_cases h2 : k < m.length
      · have e1 := (hc.ext hd.ext) k h1
        have e2 := (hc2.ext hd.ext) k h2
        have HA := Lib.hid (lessB_at l m k h1 h2)
        by_cases hne : ix l k = ix m k
        · have hb : (ix l k != ix m k) = false := by simp [hne]
          have HN := Lib.hid hne
          clear hne
          go_wp2
          go_quiet (fail)
          go_wp2
          go_roundw
          case rel => exact ⟨k + 1, by omega, by omega, by go_num, by rw [HE.out, HA.out, if_pos HN.out], hd.drewN _⟩
          case measure => simp [intOf]; omega
        · have hb : (ix l k != ix m k) = true := by simp [hne]
          have HN := Lib.hid hne
          clear hne
          go_wp2
          go_quiet (fail)
          go_wp2
          go_quiet (fail)
          go_wp2
          go_ret
          exact ⟨ret_bool (by rw [HE.out, HA.out, if_neg HN.out]), (hd.drewN _).drewN _⟩
      · have HA := Lib.hid (lessB_end l m k hk hk2 (by omega))
        go_wp2
        go_ret
        exact ⟨ret_bool (by rw [HE.out, HA.out]), hd⟩
    · have HA := Lib.hid (lessB_end l m k hk hk2 (by omega))
      go_wp2
      go_ret
      exact ⟨ret_bool (by rw [HE.out, HA.out]), hd⟩

end Go.Proofs.YtjfjpngajboidaaGreat
