/-
  The named groups: plain.
-/
import Derived.Test.YtjhfieegkgndfaaJx0
import Derived.Test.YtjhfieegkgndfaaJx1
import Derived.Test.YtjhfieegkgndfaaJx5
import Derived.Test.YtjhfieegkgndfaaJx8
import Derived.Test.YtjhfieegkgndfaaJx23
import Derived.Test.YtjhfieegkgndfaaJx32
import Derived.Test.YtjhfieegkgndfaaJx9
import Derived.Test.YtjhfieegkgndfaaJx6
import Derived.Test.YtjhfieegkgndfaaJx7
import Derived.Test.YtjhfieegkgndfaaJx11
import Derived.Test.YtjhfieegkgndfaaJx36
import Derived.Test.YtjhfieegkgndfaaJx13
import Derived.Test.YtjhfieegkgndfaaJx15
namespace Go.Proofs.Ytjhfieegkgndfaa
set_option linter.unusedVariables false
set_option linter.unusedSimpArgs false

@[irreducible] def cyT (n : Nat) : List (List Int) := mkT n (cycF n)
@[irreducible] def dbT (n s : Nat) : List (List Int) := mkT (2 * n) (dblF n s)
def evenE : List (List Int) := [[1, 2, 0, 3], [0, 2, 3, 1]]
theorem cyT_eq (n : Nat) : mkT n (cycF n) = cyT n := by unfold cyT; rfl
theorem dbT_eq (n s : Nat) : mkT (2 * n) (dblF n s) = dbT n s := by unfold dbT; rfl
theorem prodT_eq (a b : List (List Int)) {N : Nat} (h : N = a.length * b.length) : mkT N (prodF a b) = prodT a b := by subst h; rw [prodT_def]
theorem length_cyT (n : Nat) : (cyT n).length = n := by rw [← cyT_eq, length_mkT]
theorem length_dbT (n s : Nat) : (dbT n s).length = 2 * n := by rw [← dbT_eq, length_mkT]
theorem small_cyT {n : Nat} (h : n ≤ 12) : Small (cyT n) := by rw [← cyT_eq]; exact small_mkT (by omega) _
theorem small_dbT {n s : Nat} (h : n ≤ 12) : Small (dbT n s) := by rw [← dbT_eq]; exact small_mkT (by omega) _
theorem cy2_ok : TableOk (cyT 2) := by decide +kernel
theorem cy3_ok : TableOk (cyT 3) := by decide +kernel
theorem cy4_ok : TableOk (cyT 4) := by decide +kernel
theorem cy6_ok : TableOk (cyT 6) := by decide +kernel
theorem four_ok : TableOk (prodT (cyT 2) (cyT 2)) := by decide +kernel
theorem even_sys : sysB ((4 : Nat) : Int) evenE = true := by decide +kernel
theorem even_len : (genA evenE 4).length = 12 := by decide +kernel
/-- the tables of the named groups of an order -/
noncomputable def namedL (n : Nat) : List (List (List Int)) :=
  match n with
  | 4 => [cyT 4, prodT (cyT 2) (cyT 2)]
  | 6 => [cyT 6, dbT 3 0]
  | 8 => [cyT 8, prodT (cyT 2) (cyT 4), prodT (cyT 2) (prodT (cyT 2) (cyT 2)), dbT 4 0, dbT 4 2]
  | 9 => [cyT 9, prodT (cyT 3) (cyT 3)]
  | 10 => [cyT 10, dbT 5 0]
  | 12 => [cyT 12, prodT (cyT 2) (cyT 6), dbT 6 0, dbT 6 3, gopV ((4 : Nat) : Int) evenE]
  | n => [cyT n]
theorem even_gop : gopV ((4 : Nat) : Int) evenE = mkT (gopS ((4 : Nat) : Int) evenE).length (gopE (gopS ((4 : Nat) : Int) evenE)) := (gop_yes even_sys (by rw [Int.toNat_natCast, even_len]; omega)).1
theorem even_S : gopS ((4 : Nat) : Int) evenE = sortS (genA evenE 4) := by unfold gopS; rw [Int.toNat_natCast]
theorem even_Sl : (gopS ((4 : Nat) : Int) evenE).length = 12 := by rw [even_S, length_sortS, even_len]
theorem length_even : (gopV ((4 : Nat) : Int) evenE).length = 12 := by rw [even_gop, length_mkT, even_Sl]
theorem small_even : Small (gopV ((4 : Nat) : Int) evenE) := by rw [even_gop]; exact small_mkT (by rw [even_Sl]; omega) _
end Go.Proofs.Ytjhfieegkgndfaa

/-
  The name of a group: plain.
-/
namespace Go.Proofs.Ytjhfieegkgndfaa
set_option linter.unusedVariables false
set_option linter.unusedSimpArgs false

/-- the even permutations of four, in order -/
def even12 : List (List Int) := [[0, 1, 2, 3], [0, 2, 3, 1], [0, 3, 1, 2], [1, 0, 3, 2], [1, 2, 0, 3], [1, 3, 2, 0], [2, 0, 1, 3], [2, 1, 3, 0], [2, 3, 0, 1], [3, 0, 2, 1], [3, 1, 0, 2], [3, 2, 1, 0]]
theorem even12_eq : gopS ((4 : Nat) : Int) evenE = even12 := by
  rw [even_S]
  exact (sortS_eq (by decide +kernel) (by decide +kernel) (by decide +kernel)).symm
@[irreducible] def evT : List (List Int) := mkT 12 (gopE even12)
theorem even_evT : gopV ((4 : Nat) : Int) evenE = evT := by
  rw [even_gop, even_Sl, even12_eq]
  unfold evT
  rfl
theorem evT_ok : groupB evT = true ∧ evT.length = 12 := by decide +kernel
theorem named_check : ([cyT 1, cyT 2, cyT 3, cyT 4, cyT 5, cyT 6, cyT 7, cyT 8, cyT 9, cyT 10, cyT 11, cyT 12, prodT (cyT 2) (cyT 2), dbT 3 0, prodT (cyT 2) (cyT 4), prodT (cyT 2) (prodT (cyT 2) (cyT 2)), dbT 4 0, dbT 4 2, prodT (cyT 3) (cyT 3), dbT 5 0, prodT (cyT 2) (cyT 6), dbT 6 0, dbT 6 3].all fun t => groupB t) = true := by decide +kernel
theorem named_group {t : List (List Int)} (h : t ∈ [cyT 1, cyT 2, cyT 3, cyT 4, cyT 5, cyT 6, cyT 7, cyT 8, cyT 9, cyT 10, cyT 11, cyT 12, prodT (cyT 2) (cyT 2), dbT 3 0, prodT (cyT 2) (cyT 4), prodT (cyT 2) (prodT (cyT 2) (cyT 2)), dbT 4 0, dbT 4 2, prodT (cyT 3) (cyT 3), dbT 5 0, prodT (cyT 2) (cyT 6), dbT 6 0, dbT 6 3]) : groupB t = true := List.all_eq_true.1 named_check t h
theorem namedL_mem {n : Nat} (h1 : 1 ≤ n) (h12 : n ≤ 12) {t : List (List Int)} (ht : t ∈ namedL n) : groupB t = true ∧ t.length = n := by
  have h : n = 1 ∨ n = 2 ∨ n = 3 ∨ n = 4 ∨ n = 5 ∨ n = 6 ∨ n = 7 ∨ n = 8 ∨ n = 9 ∨ n = 10 ∨ n = 11 ∨ n = 12 := by omega
  rcases h with rfl | rfl | rfl | rfl | rfl | rfl | rfl | rfl | rfl | rfl | rfl | rfl <;> simp only [namedL, List.mem_cons, List.not_mem_nil, or_false] at ht
  all_goals (first | (rcases ht with rfl | rfl | rfl | rfl | rfl) | (rcases ht with rfl | rfl) | subst ht)
  all_goals first
    | (rw [even_evT]; exact evT_ok)
    | exact ⟨named_group (by simp), by simp [length_cyT, length_dbT, length_prodT]⟩
theorem namedL_ok {n : Nat} (h1 : 1 ≤ n) (h12 : n ≤ 12) {i : Nat} (hi : i < (namedL n).length) : groupB (tab (namedL n) i) = true ∧ (tab (namedL n) i).length = n :=
  namedL_mem h1 h12 (by rw [tab_eq, List.getD_eq_getElem?_getD, List.getElem?_eq_getElem hi]; exact List.getElem_mem hi)
theorem namedL_len0 (n : Nat) : 1 ≤ (namedL n).length ∧ (namedL n).length ≤ 5 := by
  unfold namedL
  split <;> simp
/-- the first table to which t is isomorphic -/
noncomputable def nameO (t : List (List Int)) (ts : List (List (List Int))) : Option Nat := (List.range ts.length).find? fun i => decide (isoF [t] [tab ts i] ≠ [])
@[irreducible] noncomputable def nameV (t : List (List Int)) : Int := if groupB t = true then (((nameO t (namedL t.length)).getD 0 : Nat) : Int) else 0
@[irreducible] noncomputable def nameC (t : List (List Int)) : Int := if groupB t = true then (if nameO t (namedL t.length) = none then 4 else 0) else 1
theorem name_1 {t : List (List Int)} (h : groupB t = false) : nameV t = 0 ∧ nameC t = 1 := by
  unfold nameV nameC
  rw [h]
  exact ⟨rfl, rfl⟩
theorem name_no {t : List (List Int)} (h : groupB t = true) {ts : List (List (List Int))} (hts : namedL t.length = ts) (hn : ∀ j, j < ts.length → isoF [t] [tab ts j] = []) : nameV t = 0 ∧ nameC t = 4 := by
  have : nameO t ts = none := by
    unfold nameO
    rw [List.find?_eq_none]
    intro i hi
    simpa using hn i (List.mem_range.1 hi)
  unfold nameV nameC
  rw [if_pos h, if_pos h, hts, this]
  exact ⟨rfl, rfl⟩
theorem name_yes {t : List (List Int)} (h : groupB t = true) {ts : List (List (List Int))} (hts : namedL t.length = ts) {m : Nat} (hm : m < ts.length) (hy : isoF [t] [tab ts m] ≠ []) (hn : ∀ j, j < m → isoF [t] [tab ts j] = []) : nameV t = m ∧ nameC t = 0 := by
  have : nameO t ts = some m := by
    unfold nameO
    rw [List.find?_range_eq_some]
    exact ⟨by simpa using hy, List.mem_range.2 hm, fun j hj => by simpa using hn j hj⟩
  unfold nameV nameC
  rw [if_pos h, if_pos h, hts, this]
  exact ⟨rfl, rfl⟩
end Go.Proofs.Ytjhfieegkgndfaa

/-
  Turning round the end of a list, pair by pair: plain.
-/
namespace Go.Proofs.Ytjhfieegkgndfaa
set_option linter.unusedVariables false
set_option linter.unusedSimpArgs false

/-- r pairs behind place i are exchanged -/
@[irreducible] def turnTo (c : Nat → Int) (i n r x : Nat) : Int := if x ≤ i ∨ n ≤ x then c x else if x < i + 1 + r ∨ n ≤ x + r then c (n + i - x) else c x
theorem turnTo_zero (c : Nat → Int) (i n x : Nat) : turnTo c i n 0 x = c x := by
  unfold turnTo
  by_cases h : x ≤ i ∨ n ≤ x
  · rw [if_pos h]
  · rw [if_neg h, if_neg (by omega)]
theorem turnTo_left (c : Nat → Int) (i n r : Nat) (h : i + 1 + r < n - 1 - r) : turnTo c i n r (i + 1 + r) = c (i + 1 + r) := by
  unfold turnTo; rw [if_neg (by omega), if_neg (by omega)]
theorem turnTo_right (c : Nat → Int) (i n r : Nat) (h : i + 1 + r < n - 1 - r) : turnTo c i n r (n - 1 - r) = c (n - 1 - r) := by
  unfold turnTo; rw [if_neg (by omega), if_neg (by omega)]
theorem turnTo_succ (c : Nat → Int) (i n r x : Nat) (h : i + 1 + r < n - 1 - r) : turnTo c i n (r + 1) x = if x = n - 1 - r then c (i + 1 + r) else if x = i + 1 + r then c (n - 1 - r) else turnTo c i n r x := by
  unfold turnTo
  by_cases h0 : x ≤ i ∨ n ≤ x
  · rw [if_pos h0, if_pos h0, if_neg (by omega), if_neg (by omega)]
  · rw [if_neg h0, if_neg h0]
    by_cases h1 : x = n - 1 - r
    · rw [if_pos h1, if_pos (by omega)]; congr 1; omega
    · rw [if_neg h1]
      by_cases h2 : x = i + 1 + r
      · rw [if_pos h2, if_pos (by omega)]; congr 1; omega
      · rw [if_neg h2]
        by_cases h3 : x < i + 1 + r ∨ n ≤ x + r
        · rw [if_pos h3, if_pos (by omega)]
        · rw [if_neg h3, if_neg (by omega)]
theorem turnTo_done (c : Nat → Int) (i n r x : Nat) (h : ¬ i + 1 + r < n - 1 - r) (hr : i + 1 + r ≤ n) (hx : x < n) : turnTo c i n r x = turnC c i n x := by
  unfold turnTo turnC
  by_cases h0 : x ≤ i
  · rw [if_pos (.inl h0), if_pos h0]
  · rw [if_neg (by omega), if_neg h0]
    by_cases h3 : x < i + 1 + r ∨ n ≤ x + r
    · rw [if_pos h3]
    · rw [if_neg h3]; congr 1; omega
end Go.Proofs.Ytjhfieegkgndfaa
