/-
  Contracts of the laws' own helpers: equality, size, copies, marks.
-/
import Derived.Test.YtjhfieegkgndfaaProg
import Derived.Deep.OwnRows
import Derived.Test.YtjhfieegkgndfaaJx0
import Derived.Test.YtjhfieegkgndfaaJx1
import Derived.Test.YtjhfieegkgndfaaJx5
namespace Go.Proofs.Ytjhfieegkgndfaa
set_option linter.unusedVariables false
set_option linter.unusedSimpArgs false
open Go.RowKit

@[irreducible] def eqIB (a b : List Int) : Bool := decide (a = b)
@[irreducible] def eqTB (a b : List (List Int)) : Bool := decide (a = b)
theorem eqIB_yes {a b : List Int} (h : a = b) : eqIB a b = true := by unfold eqIB; simpa using h
theorem eqIB_no {a b : List Int} (h : a ≠ b) : eqIB a b = false := by unfold eqIB; simpa using h
theorem eqIB_iff {a b : List Int} : eqIB a b = true ↔ a = b := by unfold eqIB; simp
theorem eqTB_yes {a b : List (List Int)} (h : a = b) : eqTB a b = true := by unfold eqTB; simpa using h
theorem eqTB_no {a b : List (List Int)} (h : a ≠ b) : eqTB a b = false := by unfold eqTB; simpa using h
theorem eqTB_iff {a b : List (List Int)} : eqTB a b = true ↔ a = b := by unfold eqTB; simp
def SameTo (a b : List Int) (k : Nat) : Prop := ∀ i, i < k → ix a i = ix b i
def SameRows (a b : List (List Int)) (k : Nat) : Prop := ∀ i, i < k → row a i = row b i

theorem eqInt64S_any (l m : List Int) (v u : Value) (w : World) (hv : IntsR w v l) (hu : IntsR w u m) (hs : l.length ≤ 1048576) :
    Calls Try.prog 55 #[v, u] w fun e w' => e = .returned (.bool (eqIB l m)) ∧ Drawn w w' := by
  obtain ⟨a1, c1, rfl, h1⟩ := hv
  obtain ⟨a2, c2, rfl, h2⟩ := hu
  have H1 := Lib.hid h1
  have H2 := Lib.hid h2
  clear h1 h2
  by_cases hl : l.length = m.length
  case neg =>
    have hb : ((l.length : Int) != (m.length : Int)) = true := by simp; omega
    go_enter Try.func55, Try.ntmps55
    go_wp2
    go_ret
    exact ⟨ret_bool (eqIB_no (fun e => hl (by rw [e]))).symm, Drawn.refl _⟩
  case pos =>
    rw [← hl]
    have Hl := Lib.hid hl
    clear hl
    go_enter Try.func55, Try.ntmps55
    go_wp2
    go_loopw [5] (fun i wr => ∃ k : Nat, k ≤ l.length ∧ i = .int .i64 k ∧ SameTo l m k ∧ Drawn w wr) (fun i _ => l.length - (intOf i).toNat)
    case atStart => exact ⟨0, Nat.zero_le _, rfl, fun i hi => by omega, Drawn.refl _⟩
    case round =>
      obtain ⟨k, hk, rfl, hto, hx⟩ := hrel
      by_cases hlt : k < l.length
      · obtain ⟨b1, o1, rfl, hc1⟩ := H1.out (ne_nil_of_lt hlt)
        obtain ⟨b2, o2, rfl, hc2⟩ := H2.out (ne_nil_of_lt (k := k) (by have := Hl.out; omega))
        have e1 := hc1.ext hx.ext k hlt
        have e2 := hc2.ext hx.ext k (by have := Hl.out; omega)
        cases he : (ix l k != ix m k) with
        | true =>
          go_wp2
          go_quiet (fail)
          go_wp2
          go_ret
          exact ⟨ret_bool (eqIB_no (fun e => by rw [e] at he; simp at he)).symm, hx.drewN _⟩
        | false =>
          go_wp2
          go_quiet (fail)
          go_wp2
          go_roundw
          case rel => exact ⟨k + 1, by omega, by go_num, fun i hi => by
            by_cases e : i = k
            · rw [e]; simpa using he
            · exact hto i (by omega), hx.drewN _⟩
          case measure => simp [intOf]; omega
      · go_wp2
        go_ret
        exact ⟨ret_bool (eqIB_yes (ix_ext Hl.out (fun i hi => hto i (by omega)))).symm, hx⟩

theorem eqInt64SS_any (s t : List (List Int)) (v u : Value) (w : World) (hv : RowsR w v s) (hu : RowsR w u t) (hs : Small s) :
    Calls Try.prog 22 #[v, u] w fun e w' => e = .returned (.bool (eqTB s t)) ∧ Drawn w w' := by
  obtain ⟨a1, c1, rfl, h1⟩ := hv
  obtain ⟨a2, c2, rfl, h2⟩ := hu
  obtain ⟨hs0, hs1⟩ := hs
  have HS := Lib.hid hs1
  have H1 := Lib.hid h1
  have H2 := Lib.hid h2
  clear h1 h2 hs1
  by_cases hl : s.length = t.length
  case neg =>
    have hb : ((s.length : Int) != (t.length : Int)) = true := by simp; omega
    go_enter Try.func22, Try.ntmps22
    go_wp2
    go_ret
    exact ⟨ret_bool (eqTB_no (fun e => hl (by rw [e]))).symm, Drawn.refl _⟩
  case pos =>
    rw [← hl]
    have Hl := Lib.hid hl
    clear hl
    go_enter Try.func22, Try.ntmps22
    go_wp2
    go_loopw [5] (fun i wr => ∃ k : Nat, k ≤ s.length ∧ i = .int .i64 k ∧ SameRows s t k ∧ Drawn w wr) (fun i _ => s.length - (intOf i).toNat)
    case atStart => exact ⟨0, Nat.zero_le _, rfl, fun i hi => by omega, Drawn.refl _⟩
    case round =>
      obtain ⟨k, hk, rfl, hto, hx⟩ := hrel
      by_cases hlt : k < s.length
      · obtain ⟨b1, o1, rfl, hc1⟩ := H1.out (ne_nil_of_lt hlt)
        obtain ⟨b2, o2, rfl, hc2⟩ := H2.out (ne_nil_of_lt (k := k) (by have := Hl.out; omega))
        obtain ⟨r1, e1, i1⟩ := hc1 k hlt
        obtain ⟨r2, e2, i2⟩ := hc2 k (by have := Hl.out; omega)
        have e1' := hx.ext.cell e1
        have e2' := hx.ext.cell e2
        clear e1 e2
        have i1' := i1.ext hx.ext
        have i2' := i2.ext hx.ext
        clear i1 i2 hc1 hc2
        have hls := HS.out k
        cases he : eqIB (row s k) (row t k) with
        | true =>
          go_wp2
          go_quiet ((go_at_call 55; exact Calls.quiet_of (eqInt64S_any _ _ _ _ _ (i1'.ext ((Ext.refl _).drewN _)) (i2'.ext ((Ext.refl _).drewN _)) hls)))
          go_wp2
          go_roundw
          case rel => exact ⟨k + 1, by omega, by go_num, fun i hi => by
            by_cases e : i = k
            · rw [e]; exact eqIB_iff.1 he
            · exact hto i (by omega), hx.drewN _⟩
          case measure => simp [intOf]; omega
        | false =>
          go_wp2
          go_quiet ((go_at_call 55; exact Calls.quiet_of (eqInt64S_any _ _ _ _ _ (i1'.ext ((Ext.refl _).drewN _)) (i2'.ext ((Ext.refl _).drewN _)) hls)))
          go_wp2
          go_ret
          exact ⟨ret_bool (eqTB_no (fun e => by rw [e, eqIB_yes rfl] at he; cases he)).symm, hx.drewN _⟩
      · go_wp2
        go_ret
        exact ⟨ret_bool (eqTB_yes (row_ext Hl.out (fun i hi => hto i (by omega)))).symm, hx⟩

/-! ### sizes -/
theorem szInt64S_any (l : List Int) (v : Value) (k : Int) (w : World) (hv : IntsR w v l) (hl : l.length ≤ maxLen) (h0 : 0 ≤ k) (h1 : k ≤ 1048576) :
    Calls Try.prog 47 #[v, .int .i64 k] w fun e w' => e = .returned (.int .i64 (if k - l.length < 0 then -1 else k - l.length)) ∧ w = w' := by
  obtain ⟨a, c, rfl, -⟩ := hv
  unfold maxLen at hl
  by_cases h : k - l.length < 0
  · rw [if_pos h]
    go_enter Try.func47, Try.ntmps47
    go_wp2
    go_ret
    exact ⟨rfl, rfl⟩
  · rw [if_neg h]
    go_enter Try.func47, Try.ntmps47
    go_wp2
    go_ret
    exact ⟨rfl, rfl⟩

/-- all rows are small enough to be counted -/
def SzTo (t : List (List Int)) (m : Nat) : Prop := ∀ i, i < m → (row t i).length ≤ 1048576
/-- what a size says: below 0, or all is small -/
def SzPost (t : List (List Int)) (k : Int) (w : World) (e : Ending) (w' : World) : Prop :=
  ∃ r : Int, e = .returned (.int .i64 r) ∧ r ≤ k ∧ -1 ≤ r ∧ (0 ≤ r → Small t) ∧ w = w'
theorem row_out {t : List (List Int)} {i : Nat} (h : t.length ≤ i) : row t i = [] := by rw [row_eq]; simp [List.getD, h]
theorem SzTo.small {t : List (List Int)} (h0 : t.length ≤ 1048576) (h : SzTo t t.length) : Small t := ⟨h0, fun i => by
  by_cases hi : i < t.length
  · exact h i hi
  · rw [row_out (by omega)]; simp⟩

theorem szInt64SS_any (t : List (List Int)) (v : Value) (k : Int) (w : World) (hv : RowsR w v t) (hl : t.length ≤ maxLen) (hr : ∀ i, (row t i).length ≤ maxLen) (h0 : 0 ≤ k) (h1 : k ≤ 1048576) :
    Calls Try.prog 17 #[v, .int .i64 k] w (SzPost t k w) := by
  obtain ⟨a, c, rfl, hc⟩ := hv
  unfold maxLen at hl
  have HR := Lib.hid hr
  have HC := Lib.hid hc
  clear hr hc
  by_cases h : k - t.length < 0
  case pos =>
    go_enter Try.func17, Try.ntmps17
    go_wp2
    go_ret
    exact ⟨_, rfl, by omega, by omega, by omega, rfl⟩
  case neg =>
    have hl' : t.length ≤ 1048576 := by omega
    clear hl
    go_enter Try.func17, Try.ntmps17
    go_wp2
    go_loop [1, 5] (fun l i => ∃ (m : Nat) (q : Int), m ≤ t.length ∧ i = .int .i64 m ∧ l = .int .i64 q ∧ 0 ≤ q ∧ q ≤ k ∧ SzTo t m) (fun _ i => t.length - (intOf i).toNat)
    case atStart => exact ⟨0, _, Nat.zero_le _, rfl, rfl, by omega, by omega, fun i hi => by omega⟩
    case round =>
      obtain ⟨m, q, hm, rfl, rfl, hq0, hq1, hsz⟩ := hrel
      by_cases hlt : m < t.length
      · obtain ⟨b, o, rfl, hc⟩ := HC.out (ne_nil_of_lt hlt)
        obtain ⟨r, e1, i1⟩ := hc m hlt
        clear hc
        by_cases hneg : q - (row t m).length < 0
        · have hf : (if q - ((row t m).length : Int) < 0 then (-1 : Int) else q - (row t m).length) = -1 := if_pos hneg
          go_wp2_with fail
          refine (szInt64S_any (row t m) _ _ _ i1 (HR.out m) hq0 (by omega)).mono ?_
          rintro e w' ⟨rfl, rfl⟩
          rw [hf]
          go_wp2
          go_ret
          exact ⟨_, rfl, by omega, by omega, by omega, rfl⟩
        · have hf : (if q - ((row t m).length : Int) < 0 then (-1 : Int) else q - (row t m).length) = q - (row t m).length := if_neg hneg
          go_wp2_with fail
          refine (szInt64S_any (row t m) _ _ _ i1 (HR.out m) hq0 (by omega)).mono ?_
          rintro e w' ⟨rfl, rfl⟩
          rw [hf]
          go_wp2
          go_round
          case rel => exact ⟨m + 1, _, by omega, by go_num, rfl, by omega, by omega, fun i hi => by
            by_cases e : i = m
            · rw [e]; omega
            · exact hsz i (by omega)⟩
          case measure => simp [intOf]; omega
      · go_wp2
        go_ret
        exact ⟨_, rfl, by omega, by omega, fun _ => SzTo.small hl' (fun i hi => hsz i (by omega)), rfl⟩
end Go.Proofs.Ytjhfieegkgndfaa
