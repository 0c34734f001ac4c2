/-
  Contracts: copies of lists and tables; the trivial brace.
-/
import Derived.Test.YthlafeefjonkdaaDoorProg
import Derived.Deep.DeepCutAuto
import Derived.Deep.RegionWith
import Derived.Test.YthlafeefjonkdaaDoorJx0
import Derived.Test.YthlafeefjonkdaaDoorJx1
import Derived.Test.YthlafeefjonkdaaDoorJx3
import Derived.Test.YthlafeefjonkdaaDoorJx4
import Derived.Test.YthlafeefjonkdaaDoorJx6
import Derived.Test.YthlafeefjonkdaaDoorJx7
namespace Go.Proofs.YthlafeefjonkdaaDoor
set_option linter.unusedVariables false
set_option linter.unusedSimpArgs false
open Go.RowKit

theorem Rows.small {w : World} {v : Value} {t : List (List Int)} (h : Rows w v t) : Small t := by
  obtain ⟨hl, b, o, c, rfl, hc⟩ := h
  refine ⟨hl, fun i => ?_⟩
  by_cases hi : i < t.length
  · obtain ⟨_, _, h2, _⟩ := hc i hi; exact h2
  · rw [row_out (by omega)]; simp

end Go.Proofs.YthlafeefjonkdaaDoor

/-
  Refining colours: plain.
-/
namespace Go.Proofs.YthlafeefjonkdaaDoor
set_option linter.unusedVariables false
set_option linter.unusedSimpArgs false

/-- the marks of all elements of both -/
@[irreducible] def marksL (az bz : List (List (List Int))) (l r : List Int) (n K : Nat) : List (List Int) :=
  ((List.range n).map fun x => markL az l n x K) ++ (List.range n).map fun x => markL bz r n x K
theorem length_marksL (az bz : List (List (List Int))) (l r : List Int) (n K : Nat) : (marksL az bz l r n K).length = 2 * n := by unfold marksL; simp; omega
theorem row_marksL1 (az bz : List (List (List Int))) (l r : List Int) (n K x : Nat) (hx : x < n) : row (marksL az bz l r n K) x = markL az l n x K := by
  rw [row_eq]; unfold marksL
  simp [List.getD, List.getElem?_append_left, hx]
theorem row_marksL2 (az bz : List (List (List Int))) (l r : List Int) (n K x : Nat) (hx : x < n) : row (marksL az bz l r n K) (n + x) = markL bz r n x K := by
  rw [row_eq]; unfold marksL
  simp [List.getD, List.getElem?_append_right, hx]
/-- all colours below num are in use -/
def Used (n num : Nat) (l r : List Int) : Prop := ∀ c : Nat, c < num → ∃ x, x < n ∧ (ix l x = (c : Int) ∨ ix r x = (c : Int))
theorem Used.zero (n : Nat) (l r : List Int) : Used n 0 l r := fun c hc => by omega
theorem Used.more {az bz : List (List (List Int))} {l r : List Int} {n K num : Nat} {Kd : List (List Int)} (h : Used n num l r) (hk : Kinds (marksL az bz l r n K) Kd) : num ≤ Kd.length := by
  refine hk.more fun c hc => ?_
  obtain ⟨x, hx, e | e⟩ := h c hc
  · exact ⟨x, by rw [length_marksL]; omega, by rw [row_marksL1 _ _ _ _ _ _ _ hx, markL_head]; exact e⟩
  · exact ⟨n + x, by rw [length_marksL]; omega, by rw [row_marksL2 _ _ _ _ _ _ _ hx, markL_head]; exact e⟩
end Go.Proofs.YthlafeefjonkdaaDoor

/-
  Sorting by exchanges; counting: plain.
-/
namespace Go.Proofs.YthlafeefjonkdaaDoor
set_option linter.unusedVariables false
set_option linter.unusedSimpArgs false

/-- the first i are in order -/
def SortedTo (l : List Int) (i : Nat) : Prop := ∀ a b, a < b → b < i → ix l a ≤ ix l b
/-- the first i + 1 are in order but for place j, which is less than what stands behind it -/
def InnerTo (l : List Int) (i j : Nat) : Prop := (∀ a b, a < b → b ≤ i → a ≠ j → b ≠ j → ix l a ≤ ix l b) ∧ ∀ b, j < b → b ≤ i → ix l j ≤ ix l b
theorem SortedTo.one (l : List Int) : SortedTo l 1 := fun a b h1 h2 => by omega
/-- places j + 1 and j exchanged -/
@[irreducible] def swapL (l : List Int) (j : Nat) : List Int := (l.set (j + 1) (ix l j)).set j (ix l (j + 1))
theorem ix_set (l : List Int) (i j : Nat) (v : Int) (hj : j < l.length) : ix (l.set i v) j = if i = j then v else ix l j := by
  rw [ix_eq, ix_eq]
  by_cases h : i = j
  · subst h; simp [List.getD, hj]
  · simp [List.getD, h, List.getElem?_set_ne]
theorem ix_swapL (l : List Int) (j i : Nat) (hj : j + 1 < l.length) (hi : i < l.length) : ix (swapL l j) i = if i = j then ix l (j + 1) else if i = j + 1 then ix l j else ix l i := by
  unfold swapL
  rw [ix_set _ _ _ _ (by simp; omega)]
  by_cases h : j = i
  · subst h; simp
  · rw [if_neg h, if_neg (by omega), ix_set _ _ _ _ hi]
    by_cases h2 : j + 1 = i
    · subst h2; simp
    · rw [if_neg h2, if_neg (by omega)]
theorem InnerTo.step {l : List Int} {i j : Nat} (h : InnerTo l i (j + 1)) (hi : i < l.length) (hj : j + 1 ≤ i) (hlt : ix l (j + 1) < ix l j) : InnerTo (swapL l j) i j := by
  refine ⟨fun a b h1 h2 h3 h4 => ?_, fun b h1 h2 => ?_⟩
  · rw [ix_swapL l j a (by omega) (by omega), ix_swapL l j b (by omega) (by omega), if_neg h3, if_neg h4]
    by_cases ha : a = j + 1
    · subst ha
      rw [if_pos rfl, if_neg (by omega)]
      exact h.1 j b (by omega) h2 (by omega) (by omega)
    · rw [if_neg ha]
      by_cases hb : b = j + 1
      · subst hb
        rw [if_pos rfl]
        have : a < j := by omega
        exact h.1 a j this (by omega) ha (by omega)
      · rw [if_neg hb]
        exact h.1 a b h1 h2 ha hb
  · rw [ix_swapL l j j (by omega) (by omega), ix_swapL l j b (by omega) (by omega), if_pos rfl, if_neg (by omega)]
    by_cases hb : b = j + 1
    · subst hb; rw [if_pos rfl]; omega
    · rw [if_neg hb]
      exact h.2 b (by omega) h2
theorem InnerTo.zero {l : List Int} {i : Nat} (h : InnerTo l i 0) : SortedTo l (i + 1) := fun a b h1 h2 => by
  by_cases ha : a = 0
  · subst ha; exact h.2 b h1 (by omega)
  · exact h.1 a b h1 (by omega) ha (by omega)
end Go.Proofs.YthlafeefjonkdaaDoor

/-
  Contracts: the index of a number, inverses.
-/
namespace Go.Proofs.YthlafeefjonkdaaDoor
set_option linter.unusedVariables false
set_option linter.unusedSimpArgs false
open Go.RowKit

theorem slicesIndex_any (l : List Int) (v : Value) (n : Int) (w : World) (hv : Ints w v l) :
    Calls Tryd.prog 62 #[v, .int .i64 n] w fun e w' => e = .returned (.int .i64 (indexOf l n)) ∧ w = w' := by
  obtain ⟨hlen, b, o, c, rfl, hc⟩ := hv
  go_enter Tryd.func62, Tryd.ntmps62
  go_wp2
  go_loop [8] (fun i => ∃ k : Nat, k ≤ l.length ∧ i = .int .i64 k ∧ indexOf l n = indexFrom n (l.drop k) k) (fun i => l.length - (intOf i).toNat)
  case atStart => exact ⟨0, Nat.zero_le _, rfl, by unfold indexOf; rfl⟩
  case round =>
    obtain ⟨k, hk, rfl, hr⟩ := hrel
    have Hr := Lib.hid hr
    clear hr
    by_cases hlt : k < l.length
    · have hcell := hc k hlt
      by_cases he : (n == ix l k) = true
      · go_wp2
        go_ret
        exact ⟨ret_int (by rw [Hr.out, indexFrom_hit l n k hlt (eq_of_beq he).symm]), rfl⟩
      · have he' : (n == ix l k) = false := by simpa using he
        have hne : ¬ ix l k = n := fun h => he (by rw [h]; exact beq_self_eq_true n)
        have HN := Lib.hid hne
        clear he hne
        go_wp2
        go_round
        case rel => exact ⟨k + 1, by omega, by go_num, by rw [Hr.out, indexFrom_miss l n k hlt HN.out]⟩
        case measure => simp [intOf]; omega
    · go_wp2
      go_ret
      exact ⟨ret_int (by rw [Hr.out, indexFrom_end l n k (by omega)]), rfl⟩

theorem indexIn_any (l : List Int) (v : Value) (n : Int) (w : World) (hv : Ints w v l) :
    Calls Tryd.prog 54 #[v, .int .i64 n] w fun e w' => e = .returned (.int .i64 (indexOf l n)) ∧ w = w' := by
  go_enter Tryd.func54, Tryd.ntmps54
  go_wp2_with (go_at_call 62; refine (slicesIndex_any l _ _ _ hv).mono ?_; rintro e w' ⟨rfl, rfl⟩)
  go_ret
  exact ⟨rfl, rfl⟩

theorem l10Back_any (t : List (List Int)) (v : Value) (x : Nat) (w : World) (hv : Rows w v t) (hx : x < t.length) :
    Calls Tryd.prog 33 #[v, .int .i64 x] w fun e w' => e = .returned (.int .i64 (backF t x)) ∧ w = w' := by
  obtain ⟨hlen, b, o, c, rfl, hc⟩ := id hv
  obtain ⟨b1, o1, c1, hr, hc1, hl1⟩ := hc.get hx
  go_enter Tryd.func33, Tryd.ntmps33
  go_wp2_with (go_at_call 44; refine (l01Index_any (row t x) _ _ _ (hc1.ints hl1 c1)).mono ?_; rintro e w' ⟨rfl, rfl⟩; rw [backF_def])
  go_ret
  exact ⟨rfl, rfl⟩

theorem groupInverses_any (t : List (List Int)) (v : Value) (w : World) (hv : Rows w v t) :
    Calls Tryd.prog 42 #[v] w fun e w' => ∃ b c, e = .returned (.slice (some ⟨b, 0, none⟩) t.length c) ∧ IntsAt w' b 0 (backs t) ∧ Ext w w' := by
  obtain ⟨hlen, b, o, c, rfl, hc⟩ := id hv
  have hmk := run_make_row' (P := Tryd.prog) 39 2 (.int .i64 0) 8 Tryd.underlying39 infoInt rfl .i64 .i64 t.length (by omega) (by omega)
  go_enter Tryd.func42, Tryd.ntmps42
  go_wp2_with fail
  clear hmk
  have hx0 : Ext w (w.alloc (.cells (madeCells #[Value.int .i64 0] t.length) 2)) := (Ext.refl _).alloc _
  have hr0 := World.rowIs_made w (.int .i64 0) t.length 2
  go_loopw [11] (fun i wr => ∃ k : Nat, k ≤ t.length ∧ i = .int .i64 k ∧ wr.rowIs w.heap.size 2 t.length (fun i => .int .i64 (copyTo (backs t) k i)) ∧ Ext w wr) (fun i _ => t.length - (intOf i).toNat)
  case atStart => exact ⟨0, Nat.zero_le _, rfl, hr0.congr (fun i hi => by rw [copyTo_zero]), hx0⟩
  case round =>
    clear hx0 hr0
    obtain ⟨k, hk, rfl, hrow, hx⟩ := hrel
    by_cases hlt : k < t.length
    · obtain ⟨b1, o1, c1, hr, hc1, hl1⟩ := (hc.ext hx).get hlt
      have e2 := hrow.cell hlt
      have e3 := hrow.frozen k
      go_wp2_with (go_at_call 54; refine (indexIn_any (row t k) _ _ _ (hc1.ints hl1 c1)).mono ?_; rintro e w' ⟨rfl, rfl⟩; rw [backF_def])
      go_roundw
      case rel => exact ⟨k + 1, by omega, by go_num, (hrow.set k (.int .i64 (backF t k))).congr (fun i hi => by rw [copyTo_succ, ix_backs _ _ hlt]; split <;> rfl), hx.setNew (Nat.le_refl _) _⟩
      case measure => simp [intOf]; omega
    · go_wp2
      go_ret
      have hkk : k = t.length := by omega
      exact ⟨w.heap.size, t.length, rfl, fun i hi => by
        rw [length_backs] at hi
        rw [Nat.zero_add, hrow.cell hi, copyTo_all _ _ _ (by omega)], hx⟩

end Go.Proofs.YthlafeefjonkdaaDoor
