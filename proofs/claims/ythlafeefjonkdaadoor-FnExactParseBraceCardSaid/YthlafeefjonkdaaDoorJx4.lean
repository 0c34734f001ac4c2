/-
  Contracts of the laws' own helpers: equality, size, copies, marks.
-/
import Derived.Test.YthlafeefjonkdaaDoorProg
import Derived.Deep.OwnRows
import Derived.Test.YthlafeefjonkdaaDoorJx0
import Derived.Test.YthlafeefjonkdaaDoorJx1
import Derived.Test.YthlafeefjonkdaaDoorJx3
namespace Go.Proofs.YthlafeefjonkdaaDoor
set_option linter.unusedVariables false
set_option linter.unusedSimpArgs false
open Go.RowKit

@[irreducible] def eqIB (a b : List Int) : Bool := decide (a = b)
@[irreducible] def eqTB (a b : List (List Int)) : Bool := decide (a = b)
theorem eqIB_yes {a b : List Int} (h : a = b) : eqIB a b = true := by unfold eqIB; simpa using h
theorem eqIB_no {a b : List Int} (h : a ≠ b) : eqIB a b = false := by unfold eqIB; simpa using h
theorem eqIB_iff {a b : List Int} : eqIB a b = true ↔ a = b := by unfold eqIB; simp
theorem eqTB_yes {a b : List (List Int)} (h : a = b) : eqTB a b = true := by unfold eqTB; simpa using h
theorem eqTB_no {a b : List (List Int)} (h : a ≠ b) : eqTB a b = false := by unfold eqTB; simpa using h
def SameTo (a b : List Int) (k : Nat) : Prop := ∀ i, i < k → ix a i = ix b i
def SameRows (a b : List (List Int)) (k : Nat) : Prop := ∀ i, i < k → row a i = row b i

theorem eqInt64S_any (l m : List Int) (v u : Value) (w : World) (hv : IntsR w v l) (hu : IntsR w u m) (hs : l.length ≤ 1048576) :
    Calls Tryd.prog 28 #[v, u] w fun e w' => e = .returned (.bool (eqIB l m)) ∧ Drawn w w' := by
  obtain ⟨a1, c1, rfl, h1⟩ := hv
  obtain ⟨a2, c2, rfl, h2⟩ := hu
  have H1 := Lib.hid h1
  have H2 := Lib.hid h2
  clear h1 h2
  by_cases hl : l.length = m.length
  case neg =>
    have hb : ((l.length : Int) != (m.length : Int)) = true := by simp; omega
    go_enter Tryd.func28, Tryd.ntmps28
    go_wp2
    go_ret
    exact ⟨ret_bool (eqIB_no (fun e => hl (by rw [e]))).symm, Drawn.refl _⟩
  case pos =>
    rw [← hl]
    have Hl := Lib.hid hl
    clear hl
    go_enter Tryd.func28, Tryd.ntmps28
    go_wp2
    go_loopw [5] (fun i wr => ∃ k : Nat, k ≤ l.length ∧ i = .int .i64 k ∧ SameTo l m k ∧ Drawn w wr) (fun i _ => l.length - (intOf i).toNat)
    case atStart => exact ⟨0, Nat.zero_le _, rfl, fun i hi => by omega, Drawn.refl _⟩
    case round =>
      obtain ⟨k, hk, rfl, hto, hx⟩ := hrel
      by_cases hlt : k < l.length
      · obtain ⟨b1, o1, rfl, hc1⟩ := H1.out (ne_nil_of_lt hlt)
        obtain ⟨b2, o2, rfl, hc2⟩ := H2.out (ne_nil_of_lt (k := k) (by have := Hl.out; omega))
        have e1 := hc1.ext hx.ext k hlt
        have e2 := hc2.ext hx.ext k (by have := Hl.out; omega)
        cases he : (ix l k != ix m k) with
        | true =>
          go_wp2
          go_quiet (fail)
          go_wp2
          go_ret
          exact ⟨ret_bool (eqIB_no (fun e => by rw [e] at he; simp at he)).symm, hx.drewN _⟩
        | false =>
          go_wp2
          go_quiet (fail)
          go_wp2
          go_roundw
          case rel => exact ⟨k + 1, by omega, by go_num, fun i hi => by
            by_cases e : i = k
            · rw [e]; simpa using he
            · exact hto i (by omega), hx.drewN _⟩
          case measure => simp [intOf]; omega
      · go_wp2
        go_ret
        exact ⟨ret_bool (eqIB_yes (ix_ext Hl.out (fun i hi => hto i (by omega)))).symm, hx⟩

theorem eqInt64SS_any (s t : List (List Int)) (v u : Value) (w : World) (hv : RowsR w v s) (hu : RowsR w u t) (hs : Small s) :
    Calls Tryd.prog 15 #[v, u] w fun e w' => e = .returned (.bool (eqTB s t)) ∧ Drawn w w' := by
  obtain ⟨a1, c1, rfl, h1⟩ := hv
  obtain ⟨a2, c2, rfl, h2⟩ := hu
  obtain ⟨hs0, hs1⟩ := hs
  have HS := Lib.hid hs1
  have H1 := Lib.hid h1
  have H2 := Lib.hid h2
  clear h1 h2 hs1
  by_cases hl : s.length = t.length
  case neg =>
    have hb : ((s.length : Int) != (t.length : Int)) = true := by simp; omega
    go_enter Tryd.func15, Tryd.ntmps15
    go_wp2
    go_ret
    exact ⟨ret_bool (eqTB_no (fun e => hl (by rw [e]))).symm, Drawn.refl _⟩
  case pos =>
    rw [← hl]
    have Hl := Lib.hid hl
    clear hl
    go_enter Tryd.func15, Tryd.ntmps15
    go_wp2
    go_loopw [5] (fun i wr => ∃ k : Nat, k ≤ s.length ∧ i = .int .i64 k ∧ SameRows s t k ∧ Drawn w wr) (fun i _ => s.length - (intOf i).toNat)
    case atStart => exact ⟨0, Nat.zero_le _, rfl, fun i hi => by omega, Drawn.refl _⟩
    case round =>
      obtain ⟨k, hk, rfl, hto, hx⟩ := hrel
      by_cases hlt : k < s.length
      · obtain ⟨b1, o1, rfl, hc1⟩ := H1.out (ne_nil_of_lt hlt)
        obtain ⟨b2, o2, rfl, hc2⟩ := H2.out (ne_nil_of_lt (k := k) (by have := Hl.out; omega))
        obtain ⟨r1, e1, i1⟩ := hc1 k hlt
        obtain ⟨r2, e2, i2⟩ := hc2 k (by have := Hl.out; omega)
        have e1' := hx.ext.cell e1
        have e2' := hx.ext.cell e2
        clear e1 e2
        have i1' := i1.ext hx.ext
        have i2' := i2.ext hx.ext
        clear i1 i2 hc1 hc2
        have hls := HS.out k
        cases he : eqIB (row s k) (row t k) with
        | true =>
          go_wp2
          go_quiet ((go_at_call 28; exact Calls.quiet_of (eqInt64S_any _ _ _ _ _ (i1'.ext ((Ext.refl _).drewN _)) (i2'.ext ((Ext.refl _).drewN _)) hls)))
          go_wp2
          go_roundw
          case rel => exact ⟨k + 1, by omega, by go_num, fun i hi => by
            by_cases e : i = k
            · rw [e]; exact eqIB_iff.1 he
            · exact hto i (by omega), hx.drewN _⟩
          case measure => simp [intOf]; omega
        | false =>
          go_wp2
          go_quiet ((go_at_call 28; exact Calls.quiet_of (eqInt64S_any _ _ _ _ _ (i1'.ext ((Ext.refl _).drewN _)) (i2'.ext ((Ext.refl _).drewN _)) hls)))
          go_wp2
          go_ret
          exact ⟨ret_bool (eqTB_no (fun e => by rw [e, eqIB_yes rfl] at he; cases he)).symm, hx.drewN _⟩
      · go_wp2
        go_ret
        exact ⟨ret_bool (eqTB_yes (row_ext Hl.out (fun i hi => hto i (by omega)))).symm, hx⟩

/-- all rows are small enough to be counted -/
def SzTo (t : List (List Int)) (m : Nat) : Prop := ∀ i, i < m → (row t i).length ≤ 1048576
theorem row_out {t : List (List Int)} {i : Nat} (h : t.length ≤ i) : row t i = [] := by rw [row_eq]; simp [List.getD, h]
theorem SzTo.small {t : List (List Int)} (h0 : t.length ≤ 1048576) (h : SzTo t t.length) : Small t := ⟨h0, fun i => by
  by_cases hi : i < t.length
  · exact h i hi
  · rw [row_out (by omega)]; simp⟩

end Go.Proofs.YthlafeefjonkdaaDoor

/-
  Contracts of the laws' own helpers: copies.
-/
namespace Go.Proofs.YthlafeefjonkdaaDoor
set_option linter.unusedVariables false
set_option linter.unusedSimpArgs false
open Go.RowKit

theorem infoInt : (Tryd.prog.info? 2).map (fun i => (i.zero, i.size, i.bytes)) = some (some (.int .i64 0), 1, 8) := by kernel_rfl
theorem infoSl : (Tryd.prog.info? 39).map (fun i => (i.zero, i.size, i.bytes)) = some (some (.slice none 0 0), 1, 24) := by kernel_rfl

end Go.Proofs.YthlafeefjonkdaaDoor

/-
  Contracts of the laws' own helpers: marks.
-/
namespace Go.Proofs.YthlafeefjonkdaaDoor
set_option linter.unusedVariables false
set_option linter.unusedSimpArgs false
open Go.RowKit

theorem markInt64S_own (lo hi : Nat) (l : List Int) (b o c : Nat) (k : Int) (w : World) (hv : l ≠ [] → OwnI lo hi w b o l) (hl : l.length ≤ 1048576) (h0 : 0 ≤ k) (h1 : k ≤ 1125899906842624) :
    Calls Tryd.prog 29 #[.slice (some ⟨b, o, none⟩) l.length c, .int .i64 k] w fun e w' =>
      e = .returned (.int .i64 (k + l.length)) ∧ (l ≠ [] → OwnI lo hi w' b o (numRow k l.length)) ∧ (l = [] → w = w') ∧ Marked b (b + 1) w w' := by
  have HV := Lib.hid hv
  clear hv
  go_enter Tryd.func29, Tryd.ntmps29
  go_wp2
  go_loopw [1, 5] (fun q i wr => ∃ m : Nat, m ≤ l.length ∧ i = .int .i64 m ∧ q = .int .i64 (k + m) ∧ IntsAt wr b o (numTo l k m) ∧ FreeAt wr b o l.length ∧ Marked b (b + 1) w wr ∧ (l = [] → w = wr)) (fun _ i _ => l.length - (intOf i).toNat)
  case atStart => exact ⟨0, Nat.zero_le _, rfl, by go_num, by
    rw [numTo_zero]
    intro i hi
    exact (HV.out (ne_nil_of_lt hi)).2.2.1 i hi, fun i hi => (HV.out (ne_nil_of_lt hi)).2.2.2 i hi, Marked.refl _ _ _, fun _ => rfl⟩
  case round =>
    obtain ⟨m, hm, rfl, rfl, hi, hf, hM, hN⟩ := hrel
    have HN := Lib.hid hN
    clear hN
    by_cases hlt : m < l.length
    · have e1 := hi m (by simpa using hlt)
      have e2 := hf m hlt
      go_wp2
      go_roundw
      case rel => exact ⟨m + 1, by omega, by go_num, by go_num, hi.set m _ (by simpa using hlt) (by simp) (fun j hj hj' => by
          have hj'' : j < l.length := by simpa using hj'
          rw [ix_numTo _ _ _ _ hj'', ix_numTo _ _ _ _ hj'']
          by_cases h : j < m
          · rw [if_pos h, if_pos (by omega)]
          · rw [if_neg h, if_neg (by omega)]) (by rw [ix_numTo _ _ _ _ hlt, if_pos (by omega)]), hf.set _ _, hM.setCell (Nat.le_refl _) (by simp) _, fun h => absurd h (ne_nil_of_lt hlt)⟩
      case measure => simp [intOf]; omega
    · go_wp2
      go_ret
      have hmm : m = l.length := by omega
      refine ⟨ret_int (by rw [hmm]), fun hne => ?_, HN.out, hM⟩
      rw [numTo_all _ _ _ (by omega)] at hi
      exact ⟨(HV.out hne).1, (HV.out hne).2.1, hi, by simpa using hf⟩

theorem heldInt64S_any (l : List Int) (n : Nat) (v : Value) (k : Int) (w : World) (hv : IntsR w v l) (he : l = numRow k n) (hl : n ≤ 1048576) (h0 : 0 ≤ k) (h1 : k ≤ 1125899906842624) :
    Calls Tryd.prog 30 #[v, .int .i64 k] w fun e w' => e = .returned (.int .i64 (k + n)) ∧ Drawn w w' := by
  obtain ⟨a, c, rfl, hc⟩ := hv
  have HC := Lib.hid hc
  have hn : l.length = n := by rw [he]; simp
  have HE := Lib.hid he
  clear hc he
  rw [hn]
  have HN := Lib.hid hn
  clear hn
  go_enter Tryd.func30, Tryd.ntmps30
  go_wp2
  go_loopw [1, 5] (fun q i wr => ∃ m : Nat, m ≤ n ∧ i = .int .i64 m ∧ q = .int .i64 (k + m) ∧ Drawn w wr) (fun _ i _ => n - (intOf i).toNat)
  case atStart => exact ⟨0, Nat.zero_le _, rfl, by go_num, Drawn.refl _⟩
  case round =>
    obtain ⟨m, hm, rfl, rfl, hx⟩ := hrel
    by_cases hlt : m < n
    · obtain ⟨b, o, rfl, hc⟩ := HC.out (ne_nil_of_lt (k := m) (by rw [HN.out]; exact hlt))
      have e1 := hc.ext hx.ext m (by rw [HN.out]; exact hlt)
      rw [HE.out, ix_numRow _ _ _ hlt] at e1
      have hb : (k + (m : Int) != k + (m : Int)) = false := by simp
      clear hc
      go_wp2
      go_roundw
      case rel => exact ⟨m + 1, by omega, by go_num, by go_num, hx⟩
      case measure => simp [intOf]; omega
    · go_wp2
      go_ret
      have hmm : m = n := by omega
      exact ⟨ret_int (by rw [hmm]), hx⟩

/-- all the entries of a table -/
def total (t : List (List Int)) : Int := startAt t 0 t.length
theorem startAt_add (t : List (List Int)) (k : Int) : ∀ i : Nat, startAt t k i = k + startAt t 0 i
  | 0 => by simp [startAt]
  | i + 1 => by simp only [startAt]; rw [startAt_add t k i]; omega
theorem total_nonneg (t : List (List Int)) : 0 ≤ total t := by
  unfold total
  have : ∀ i : Nat, 0 ≤ startAt t 0 i := by
    intro i
    induction i with
    | zero => simp [startAt]
    | succ i ih => simp only [startAt]; omega
  exact this _
theorem total_le (t : List (List Int)) (hs : Small t) : total t ≤ 1099511627776 := by
  have := startAt_le t 0 hs.2 t.length
  have := hs.1
  unfold total
  omega

/-- behind marking a table -/
def MarkT (lo hi : Nat) (t : List (List Int)) (k : Int) (v : Value) (w : World) (e : Ending) (w' : World) : Prop :=
  e = .returned (.int .i64 (k + total t)) ∧ OwnV lo hi w' v (markTo t k t.length) ∧ Marked lo hi w w'

set_option maxRecDepth 100000 in
theorem markInt64SS_any (lo hi : Nat) (t : List (List Int)) (v : Value) (k : Int) (w : World) (hv : OwnV lo hi w v t) (h0 : 0 ≤ k) (h1 : k ≤ 562949953421312) :
    Calls Tryd.prog 16 #[v, .int .i64 k] w (MarkT lo hi t k v w) := by
  have HV := Lib.hid hv
  obtain ⟨hs, a, c, rfl, hc⟩ := hv
  have hs0 := hs.1
  have HS := Lib.hid hs.2
  have HC := Lib.hid hc
  clear hc hs
  have HB := Lib.hid (fun i => startAt_le t k HS.out i)
  go_enter Tryd.func16, Tryd.ntmps16
  go_wp2
  go_loopw [1, 5] (fun q i wr => ∃ m : Nat, m ≤ t.length ∧ i = .int .i64 m ∧ q = .int .i64 (startAt t k m) ∧ OwnV lo hi wr (.slice a t.length c) (markTo t k m) ∧ Marked lo hi w wr) (fun _ i _ => t.length - (intOf i).toNat)
  case atStart => exact ⟨0, Nat.zero_le _, rfl, by rfl, by rw [markTo_zero]; exact HV.out, Marked.refl _ _ _⟩
  case round =>
    obtain ⟨m, hm, rfl, rfl, hO, hM⟩ := hrel
    by_cases hlt : m < t.length
    · have HO := Lib.hid hO
      obtain ⟨hsm, a', c', hv', hc⟩ := hO
      obtain ⟨b, o, rfl, hb1, hb2, B, O, C, g1, g2, g5⟩ := hc (ne_nil_of_lt (k := m) (by simpa using hlt))
      have ha : a = some ⟨b, o, none⟩ := by
        simp only [Value.slice.injEq] at hv'
        exact hv'.1
      subst ha
      clear hv' hc
      obtain ⟨e1, i1, n1⟩ := g1 m (by simpa using hlt)
      have hrm : row (markTo t k m) m = row t m := by rw [row_markTo _ _ _ _ hlt, if_neg (by omega)]
      rw [hrm] at e1 i1
      have G1 := Lib.hid g1
      have G2 := Lib.hid g2
      have G5 := Lib.hid g5
      clear g1 g2 g5 hrm hsm
      have hbd := HB.out m
      have hbd' := HB.out (m + 1)
      have hst : startAt t k (m + 1) = startAt t k m + (row t m).length := rfl
      have HST := Lib.hid hst
      clear hst
      go_wp2_with fail
      refine (markInt64S_own lo hi (row t m) (B m) (O m) (C m) _ _ (fun _ => i1) (HS.out m) (by omega) (by omega)).mono ?_
      rintro e w1 ⟨rfl, hO1, hE1, hM1⟩
      rw [← HST.out]
      have hM2 := hM1.mono (lo' := lo) (hi' := hi) i1.1 (by have := i1.2.1; omega)
      have HM1 := Lib.hid hM1
      have HO1 := Lib.hid hO1
      have HE1 := Lib.hid hE1
      clear hM1 hO1 hE1
      clear HB
      go_wp2
      go_roundw
      case rel =>
        refine ⟨m + 1, by omega, by go_num, rfl, ⟨small_markTo ⟨hs0, HS.out⟩ _ _, some ⟨b, o, none⟩, c, by simp, fun _ => ⟨b, o, rfl, hb1, hb2, B, O, C, fun i hi => ?_, fun i j hi hj e => G2.out i j (by simpa using hi) (by simpa using hj) e, by have := G5.out.block (HM1.out.block b (by omega)); simpa using this⟩⟩, hM.trans hM2⟩
        have hi' : i < t.length := by simpa using hi
        obtain ⟨f1, f2, f3⟩ := G1.out i (by simpa using hi)
        refine ⟨?_, ?_, f3⟩
        · rw [World.cell?_of_block (w := wr) (a := ⟨b, o + i, none⟩) (HM1.out.block b (by omega)), f1, length_row_markTo, length_row_markTo]
        · by_cases ei : i = m
          · subst ei
            rw [row_markTo _ _ _ _ hi', if_pos (by omega)]
            by_cases hne : row t i = []
            · have := HE1.out hne
              subst this
              rw [hne]
              exact ⟨i1.1, i1.2.1, fun j hj => by simp at hj, fun j hj => by simp at hj⟩
            · exact HO1.out hne
          · have hBi : B i ≠ B m := fun e => ei (G2.out i m (by simpa using hi) (by simpa using hlt) e)
            have := f2.block (HM1.out.block (B i) (by omega))
            rw [row_markTo _ _ _ _ hi'] at this ⊢
            by_cases h : i < m
            · rw [if_pos h] at this; rw [if_pos (by omega)]; exact this
            · rw [if_neg h] at this; rw [if_neg (by omega)]; exact this
      case measure => simp [intOf]; omega
    · go_wp2
      go_ret
      have hmm : m = t.length := by omega
      subst hmm
      exact ⟨ret_int (startAt_add t k _), hO, hM⟩

theorem heldInt64SS_any (t : List (List Int)) (v : Value) (k : Int) (w : World) (hv : RowsR w v (markTo t k t.length)) (hs : Small t) (h0 : 0 ≤ k) (h1 : k ≤ 562949953421312) :
    Calls Tryd.prog 17 #[v, .int .i64 k] w fun e w' => e = .returned (.int .i64 (k + total t)) ∧ Drawn w w' := by
  obtain ⟨a, c, rfl, hc⟩ := hv
  have HC := Lib.hid hc
  rw [length_markTo]
  have hs0 := hs.1
  have HS := Lib.hid hs.2
  clear hc hs
  have HB := Lib.hid (fun i => startAt_le t k HS.out i)
  go_enter Tryd.func17, Tryd.ntmps17
  go_wp2
  go_loopw [1, 5] (fun q i wr => ∃ m : Nat, m ≤ t.length ∧ i = .int .i64 m ∧ q = .int .i64 (startAt t k m) ∧ Drawn w wr) (fun _ i _ => t.length - (intOf i).toNat)
  case atStart => exact ⟨0, Nat.zero_le _, rfl, by rfl, Drawn.refl _⟩
  case round =>
    obtain ⟨m, hm, rfl, rfl, hx⟩ := hrel
    by_cases hlt : m < t.length
    · obtain ⟨b, o, rfl, hc⟩ := HC.out (ne_nil_of_lt (k := m) (by simpa using hlt))
      obtain ⟨r, e1, i1⟩ := hc m (by simpa using hlt)
      have e1' := hx.ext.cell e1
      clear hc e1
      have hrm := row_markTo t k t.length m hlt
      rw [if_pos hlt] at hrm
      have HR := Lib.hid hrm
      clear hrm
      have hbd := HB.out m
      have hst : startAt t k (m + 1) = startAt t k m + (row t m).length := rfl
      have HST := Lib.hid hst
      have hnn : ¬ startAt t k m + (row t m).length < 0 := by omega
      rw [← hst] at hnn
      clear hst
      go_wp2_with fail
      refine (heldInt64S_any _ (row t m).length _ _ _ (i1.ext hx.ext) HR.out (HS.out m) (by omega) (by omega)).mono ?_
      rintro e w1 ⟨rfl, hx1⟩
      rw [← HST.out]
      clear HB
      go_wp2
      go_roundw
      case rel => exact ⟨m + 1, by omega, by go_num, rfl, hx.trans hx1⟩
      case measure => simp [intOf]; omega
    · go_wp2
      go_ret
      have hmm : m = t.length := by omega
      subst hmm
      exact ⟨ret_int (startAt_add t k _), hx⟩
end Go.Proofs.YthlafeefjonkdaaDoor

/-
  Contracts of the laws' own helpers, in the form in which the laws use them.
-/
namespace Go.Proofs.YthlafeefjonkdaaDoor
set_option linter.unusedVariables false
set_option linter.unusedSimpArgs false
open Go.RowKit

theorem OwnV.small {lo hi : Nat} {w : World} {v : Value} {t : List (List Int)} (h : OwnV lo hi w v t) : Small t := h.1
theorem OwnIV.small {lo hi : Nat} {w : World} {v : Value} {l : List Int} (h : OwnIV lo hi w v l) : l.length ≤ 1048576 := h.1

end Go.Proofs.YthlafeefjonkdaaDoor

/-
  Contracts of the laws' own helpers at braces.
-/
namespace Go.Proofs.YthlafeefjonkdaaDoor
set_option linter.unusedVariables false
set_option linter.unusedSimpArgs false
open Go.RowKit

/-- two slices hold two tables -/
def RowsB (w : World) (v y : Value) (t u : List (List Int)) : Prop := RowsR w v t ∧ RowsR w y u
theorem RowsB.ext {w w' : World} {v y : Value} {t u : List (List Int)} (h : RowsB w v y t u) (hx : Ext w w') : RowsB w' v y t u := ⟨h.1.ext hx, h.2.ext hx⟩
/-- two tables of the call's own, apart from each other -/
def OwnB (lo hi : Nat) (w : World) (v y : Value) (t u : List (List Int)) : Prop :=
  ∃ a b c d : Nat, lo ≤ a ∧ b ≤ hi ∧ lo ≤ c ∧ d ≤ hi ∧ (b ≤ c ∨ d ≤ a) ∧ OwnV a b w v t ∧ OwnV c d w y u
theorem OwnB.toR {lo hi : Nat} {w : World} {v y : Value} {t u : List (List Int)} (h : OwnB lo hi w v y t u) : RowsR w v t ∧ RowsR w y u := by
  obtain ⟨a, b, c, d, -, -, -, -, -, h1, h2⟩ := h
  exact ⟨h1.toR, h2.toR⟩
theorem OwnB.small {lo hi : Nat} {w : World} {v y : Value} {t u : List (List Int)} (h : OwnB lo hi w v y t u) : Small t ∧ Small u := by
  obtain ⟨a, b, c, d, -, -, -, -, -, h1, h2⟩ := h
  exact ⟨h1.1, h2.1⟩
theorem OwnB.open {lo hi : Nat} {w : World} {v y : Value} {t u : List (List Int)} (h : OwnB lo hi w v y t u) :
    (Small t ∧ ∃ a c, v = .slice a t.length c ∧ True) ∧ (Small u ∧ ∃ a c, y = .slice a u.length c ∧ True) := by
  obtain ⟨a, b, c, d, -, -, -, -, -, ⟨h1, a1, c1, rfl, -⟩, ⟨h2, a2, c2, rfl, -⟩⟩ := h
  exact ⟨⟨h1, a1, c1, rfl, trivial⟩, ⟨h2, a2, c2, rfl, trivial⟩⟩
theorem OwnB.keep {lo hi : Nat} {w w' : World} {v y : Value} {t u : List (List Int)} (h : OwnB lo hi w v y t u) (e : ∀ k, lo ≤ k → k < hi → w'.heap[k]? = w.heap[k]?) : OwnB lo hi w' v y t u := by
  obtain ⟨a, b, c, d, k1, k2, k3, k4, k5, h1, h2⟩ := h
  exact ⟨a, b, c, d, k1, k2, k3, k4, k5, h1.keep fun k q1 q2 => e k (by omega) (by omega), h2.keep fun k q1 q2 => e k (by omega) (by omega)⟩
theorem OwnB.ext {lo hi : Nat} {w w' : World} {v y : Value} {t u : List (List Int)} (h : OwnB lo hi w v y t u) (hx : Ext w w') (hh : hi ≤ w.heap.size) : OwnB lo hi w' v y t u := h.keep fun k _ hk => hx.block k (by omega)
theorem OwnB.touch {lo hi lo' hi' : Nat} {w w' : World} {v y : Value} {t u : List (List Int)} (h : OwnB lo hi w v y t u) (m : Touch lo' hi' w w') (hd : hi ≤ lo' ∨ hi' ≤ lo) (hw : hi ≤ w.heap.size) : OwnB lo hi w' v y t u :=
  h.keep fun k h1 h2 => m.block k (by omega) (by omega)
theorem OwnB.mono {lo hi lo' hi' : Nat} {w : World} {v y : Value} {t u : List (List Int)} (h : OwnB lo hi w v y t u) (h1 : lo' ≤ lo) (h2 : hi ≤ hi') : OwnB lo' hi' w v y t u := by
  obtain ⟨a, b, c, d, k1, k2, k3, k4, k5, g1, g2⟩ := h
  exact ⟨a, b, c, d, by omega, by omega, by omega, by omega, k5, g1, g2⟩
theorem OwnB.nil (lo hi : Nat) (w : World) (h : lo ≤ hi) : OwnB lo hi w (.slice none 0 0) (.slice none 0 0) [] [] := ⟨lo, lo, lo, lo, by omega, by omega, by omega, by omega, by omega, OwnV.nil _ _ _, OwnV.nil _ _ _⟩
theorem RowsB.nil (w : World) (c d : Nat) : RowsB w (.slice none 0 c) (.slice none 0 d) [] [] := ⟨RowsR.nil _ _, RowsR.nil _ _⟩

/-- a struct of two tables and a code are returned (reference) -/
def RetB (t u : List (List Int)) (c : Int) (w : World) (e : Ending) (w' : World) : Prop := ∃ v y, e = .returned (.tuple #[.agg #[v, y], .int .i64 c]) ∧ RowsB w' v y t u ∧ Ext w w'
/-- a struct of two tables, in new memory, and a code are returned (program) -/
def NewBC (t u : List (List Int)) (c : Int) (w : World) (e : Ending) (w' : World) : Prop := ∃ v y, e = .returned (.tuple #[.agg #[v, y], .int .i64 c]) ∧ OwnB w.heap.size w'.heap.size w' v y t u ∧ Ext w w'

theorem cell_new2a (w : World) (v u : Value) (T : Nat) : (w.alloc (.cells #[v, u] T)).cell? ⟨w.heap.size, 0, none⟩ = some v := by simp [go_sem]
theorem cell_new2b (w : World) (v u : Value) (T : Nat) : (w.alloc (.cells #[v, u] T)).cell? ⟨w.heap.size, 1, none⟩ = some u := by simp [go_sem]
theorem ext_boxB (w : World) (v u : Value) (T : Nat) : Ext w (w.alloc (.cells #[v, u] T)) := (Ext.refl _).alloc _

theorem eqBrace_any (s s' t t' : List (List Int)) (v v' u u' : Value) (w : World) (hv : RowsR w v s) (hv' : RowsR w v' s') (hu : RowsR w u t) (hu' : RowsR w u' t') (hs : Small s) (hs' : Small s') :
    Calls Tryd.prog 6 #[.agg #[v, v'], .agg #[u, u']] w fun e w' => e = .returned (.bool (eqTB s t && eqTB s' t')) ∧ Ext w w' := by
  obtain ⟨a1, c1, rfl, -⟩ := id hv
  obtain ⟨a2, c2, rfl, -⟩ := id hu
  obtain ⟨a3, c3, rfl, -⟩ := id hv'
  obtain ⟨a4, c4, rfl, -⟩ := id hu'
  have hx0 : Ext w ((w.alloc (.cells #[.slice a1 s.length c1, .slice a3 s'.length c3] 24)).alloc (.cells #[.slice a2 t.length c2, .slice a4 t'.length c4] 24)) := ((Ext.refl _).alloc _).alloc _
  have b0 : ((w.alloc (.cells #[.slice a1 s.length c1, .slice a3 s'.length c3] 24)).alloc (.cells #[.slice a2 t.length c2, .slice a4 t'.length c4] 24)).cell? ⟨w.heap.size, 1, none⟩ = some (.slice a3 s'.length c3) := by simp [go_sem]
  have b1 : ((w.alloc (.cells #[.slice a1 s.length c1, .slice a3 s'.length c3] 24)).alloc (.cells #[.slice a2 t.length c2, .slice a4 t'.length c4] 24)).cell? ⟨w.heap.size + 1, 1, none⟩ = some (.slice a4 t'.length c4) := by simp [go_sem]
  cases he : eqTB s t with
  | true =>
    go_enter Tryd.func6, Tryd.ntmps6
    go_wp2_with fail
    generalize (w.alloc (.cells #[.slice a1 s.length c1, .slice a3 s'.length c3] 24)).alloc (.cells #[.slice a2 t.length c2, .slice a4 t'.length c4] 24) = A at *
    refine (eqInt64SS_any s t _ _ _ (hv.ext hx0) (hu.ext hx0) hs).mono ?_
    rintro e w1 ⟨rfl, hd⟩
    have hx1 := hd.ext
    have b2 := hx1.cell b0
    have b3 := hx1.cell b1
    rw [he]
    have hX := hx0.trans hx1
    cases he' : eqTB s' t' with
    | true =>
      go_wp2_with fail
      refine (eqInt64SS_any s' t' _ _ _ (hv'.ext hX) (hu'.ext hX) hs').mono ?_
      rintro e w2 ⟨rfl, hd2⟩
      rw [he']
      go_wp2
      go_ret
      exact ⟨ret_bool (by rw [he']; rfl), hX.trans hd2.ext⟩
    | false =>
      go_wp2_with fail
      refine (eqInt64SS_any s' t' _ _ _ (hv'.ext hX) (hu'.ext hX) hs').mono ?_
      rintro e w2 ⟨rfl, hd2⟩
      rw [he']
      go_wp2
      go_ret
      exact ⟨ret_bool (by rw [he']; rfl), hX.trans hd2.ext⟩
  | false =>
    go_enter Tryd.func6, Tryd.ntmps6
    go_wp2_with fail
    refine (eqInt64SS_any s t _ _ _ (hv.ext hx0) (hu.ext hx0) hs).mono ?_
    rintro e w1 ⟨rfl, hx1⟩
    rw [he]
    go_wp2
    go_ret
    exact ⟨rfl, hx0.trans hx1.ext⟩

theorem markBrace_any (lo hi : Nat) (t u : List (List Int)) (v y : Value) (k : Int) (w : World) (hv : OwnB lo hi w v y t u) (hh : hi ≤ w.heap.size) (h0 : 0 ≤ k) (h1 : k ≤ 281474976710656) :
    Calls Tryd.prog 7 #[.agg #[v, y], .int .i64 k] w fun e w' => e = .returned (.int .i64 (k + total t + total u)) ∧ OwnB lo hi w' v y (markTo t k t.length) (markTo u (k + total t) u.length) ∧ Touch lo hi w w' := by
  obtain ⟨⟨hs, a1, c1, rfl, -⟩, ⟨hs', a2, c2, rfl, -⟩⟩ := hv.open
  have hx0 := ext_boxB w (.slice a1 t.length c1) (.slice a2 u.length c2) 24
  have b0 := cell_new2b w (.slice a1 t.length c1) (.slice a2 u.length c2) 24
  have ht := total_nonneg t
  have htl := total_le t hs
  have hu := total_nonneg u
  have hul := total_le u hs'
  obtain ⟨a, b, c, d, k1, k2, k3, k4, k5, g1, g2⟩ := hv
  go_enter Tryd.func7, Tryd.ntmps7
  go_wp2_with fail
  generalize (w.alloc (.cells #[.slice a1 t.length c1, .slice a2 u.length c2] 24)) = A at *
  refine (markInt64SS_any a b t _ _ _ (g1.ext hx0 (by omega)) h0 (by omega)).mono ?_
  rintro e w1 ⟨rfl, ho, hm⟩
  have b1 := (Touch.of_marked hm).cell b0 (by simp only []; omega)
  have g3 := (g2.ext hx0 (by omega)).touch (Touch.of_marked hm) (by omega) (by have := hx0.size; omega)
  go_wp2_with fail
  refine (markInt64SS_any c d u _ _ _ g3 (by omega) (by omega)).mono ?_
  rintro e w2 ⟨rfl, ho2, hm2⟩
  go_wp2
  go_ret
  exact ⟨rfl, ⟨a, b, c, d, k1, k2, k3, k4, k5, ho.touch (Touch.of_marked hm2) (by omega) (by have := hx0.size; have := hm.size; omega), ho2⟩,
    ((Touch.of_ext hx0).trans ((Touch.of_marked hm).mono k1 k2)).trans ((Touch.of_marked hm2).mono k3 k4)⟩

theorem heldBrace_any (t u : List (List Int)) (v y : Value) (k : Int) (w : World) (hv : RowsR w v (markTo t k t.length)) (hy : RowsR w y (markTo u (k + total t) u.length)) (hs : Small t) (hs' : Small u) (h0 : 0 ≤ k) (h1 : k ≤ 281474976710656) :
    Calls Tryd.prog 8 #[.agg #[v, y], .int .i64 k] w fun e w' => e = .returned (.int .i64 (k + total t + total u)) ∧ Ext w w' := by
  obtain ⟨a1, c1, rfl, -⟩ := id hv
  obtain ⟨a2, c2, rfl, -⟩ := id hy
  have hl := length_markTo t k t.length
  have hl' := length_markTo u (k + total t) u.length
  rw [hl] at hv ⊢
  rw [hl'] at hy ⊢
  clear hl hl'
  have hx0 := ext_boxB w (.slice a1 t.length c1) (.slice a2 u.length c2) 24
  have b0 := cell_new2b w (.slice a1 t.length c1) (.slice a2 u.length c2) 24
  have ht := total_nonneg t
  have htl := total_le t hs
  have hu := total_nonneg u
  have hul := total_le u hs'
  go_enter Tryd.func8, Tryd.ntmps8
  go_wp2_with fail
  generalize (w.alloc (.cells #[.slice a1 t.length c1, .slice a2 u.length c2] 24)) = A at *
  refine (heldInt64SS_any t _ _ _ (hv.ext hx0) hs h0 (by omega)).mono ?_
  rintro e w1 ⟨rfl, hd1⟩
  have hx1 := hd1.ext
  have b1 := hx1.cell b0
  clear b0
  go_wp2_with fail
  refine (heldInt64SS_any u _ _ _ (hy.ext (hx0.trans hx1)) hs' (by omega) (by omega)).mono ?_
  rintro e w2 ⟨rfl, hd2⟩
  go_wp2
  go_ret
  exact ⟨rfl, (hx0.trans hx1).trans hd2.ext⟩

theorem OwnV.set2 {lo hi : Nat} {w : World} {v : Value} {t : List (List Int)} (h : OwnV lo hi w v t) {B : Nat} (hB : B < lo) (p q : Value) :
    OwnV lo hi ((w.setCell ⟨B, 0, none⟩ p).setCell ⟨B, 1, none⟩ q) v t :=
  h.keep fun k h1 h2 => by rw [Below.heap_setCell _ _ _ _ (by simp only []; omega), Below.heap_setCell _ _ _ _ (by simp only []; omega)]
end Go.Proofs.YthlafeefjonkdaaDoor

/-
  Orders of elements of a group: no program in sight.
-/
namespace Go.Proofs.YthlafeefjonkdaaDoor
set_option linter.unusedVariables false
set_option linter.unusedSimpArgs false

theorem ent_nn {t : List (List Int)} (h : TableOk t) {x y : Nat} (hx : x < t.length) (hy : y < t.length) : (ent t x y).toNat < t.length := by
  have := h.bd hx hy; omega

theorem grp_assoc {t : List (List Int)} (h : GroupOk t) {x y z : Nat} (hx : x < t.length) (hy : y < t.length) (hz : z < t.length) : ent t (ent t x y).toNat z = ent t x (ent t y z).toNat := (h.2.2 x hx).2 y hy z hz
theorem grp_unit_l {t : List (List Int)} (h : GroupOk t) {x : Nat} (hx : x < t.length) : ent t 0 x = x := (h.2.2 x hx).1.1
theorem grp_unit_r {t : List (List Int)} (h : GroupOk t) {x : Nat} (hx : x < t.length) : ent t x 0 = x := (h.2.2 x hx).1.2
/-- left multiplication is injective -/
theorem grp_inj {t : List (List Int)} (h : GroupOk t) {x y z : Nat} (hx : x < t.length) (hy : y < t.length) (hz : z < t.length) (e : ent t x y = ent t x z) : y = z := by
  have hp := (h.2.1 x hx).2
  have hl := h.1.len hx
  rw [← ent_def, ← ent_def] at e
  rcases Nat.lt_trichotomy y z with h1 | h1 | h1
  · exact absurd e (hp z (by omega) y h1)
  · exact h1
  · exact absurd e.symm (hp y (by omega) z h1)
theorem nodup_le {α : Type} [DecidableEq α] : ∀ (a b : List α), a.Nodup → (∀ x, x ∈ a → x ∈ b) → a.length ≤ b.length
  | [], b, _, _ => by simp
  | z :: r, b, hn, hs => by
    have hz : z ∈ b := hs z (by simp)
    have hn' := List.nodup_cons.1 hn
    have h1 := nodup_le r (b.erase z) hn'.2 (fun y hy => by
      have hne : y ≠ z := fun e => hn'.1 (e ▸ hy)
      exact (List.mem_erase_of_ne hne).2 (hs y (by simp [hy])))
    rw [List.length_erase_of_mem hz] at h1
    have h2 : 0 < b.length := List.length_pos_of_mem hz
    simp; omega
end Go.Proofs.YthlafeefjonkdaaDoor

/-
  Inverses in a group: plain.
-/
namespace Go.Proofs.YthlafeefjonkdaaDoor
set_option linter.unusedVariables false
set_option linter.unusedSimpArgs false

/-- the list of the values of f -/
@[irreducible] def mkL (n : Nat) (f : Nat → Int) : List Int := (List.range n).map f
theorem length_mkL (n : Nat) (f : Nat → Int) : (mkL n f).length = n := by unfold mkL; simp
theorem ix_mkL (n : Nat) (f : Nat → Int) (i : Nat) (h : i < n) : ix (mkL n f) i = f i := by rw [ix_eq]; unfold mkL; simp [List.getD, h]

/-- the inverse of x -/
@[irreducible] def backF (t : List (List Int)) (x : Nat) : Int := indexOf (row t x) 0
theorem backF_def (t : List (List Int)) (x : Nat) : indexOf (row t x) 0 = backF t x := by unfold backF; rfl
/-- all inverses -/
@[irreducible] def backs (t : List (List Int)) : List Int := mkL t.length (backF t)
theorem length_backs (t : List (List Int)) : (backs t).length = t.length := by unfold backs; exact length_mkL _ _
theorem ix_backs (t : List (List Int)) (x : Nat) (h : x < t.length) : ix (backs t) x = backF t x := by unfold backs; exact ix_mkL _ _ _ h
/-- in a group the inverse is an element, and is inverse -/
theorem backF_ok {t : List (List Int)} (hG : GroupOk t) {x : Nat} (hx : x < t.length) : 0 ≤ backF t x ∧ backF t x ≤ (t.length : Int) - 1 ∧ ent t x (backF t x).toNat = 0 := by
  have hl := hG.1.len hx
  have h0 := (permOk_iff_has (row t x)).1 (hG.2.1 x hx) 0 (by omega)
  unfold backF
  rcases indexOf_spec (row t x) 0 with ⟨h1, _⟩ | ⟨i, hi, h1, h2, _⟩
  · simp at h0; omega
  · rw [h1]
    exact ⟨by omega, by omega, by rw [← ent_def]; simpa using h2⟩

end Go.Proofs.YthlafeefjonkdaaDoor

/-
  Isomorphisms of lists of tables, in lexicographic order: plain.
-/
namespace Go.Proofs.YthlafeefjonkdaaDoor
set_option linter.unusedVariables false
set_option linter.unusedSimpArgs false

/-- table k of a list of tables -/
@[irreducible] def tab (ts : List (List (List Int))) (k : Nat) : List (List Int) := ts.getD k []
theorem tab_eq (ts : List (List (List Int))) (k : Nat) : tab ts k = ts.getD k [] := by unfold tab; rfl
theorem tab_one (t : List (List Int)) : tab [t] 0 = t := by rw [tab_eq]; rfl
theorem tab_two0 (t u : List (List Int)) : tab [t, u] 0 = t := by rw [tab_eq]; rfl
theorem tab_two1 (t u : List (List Int)) : tab [t, u] 1 = u := by rw [tab_eq]; rfl
/-- tables of n elements -/
def TabsOk (n : Nat) (ts : List (List (List Int))) : Prop := ∀ k, k < ts.length → TableOk (tab ts k) ∧ (tab ts k).length = n
theorem TabsOk.bd {n : Nat} {ts : List (List (List Int))} (h : TabsOk n ts) {k x y : Nat} (hk : k < ts.length) (hx : x < n) (hy : y < n) : 0 ≤ ent (tab ts k) x y ∧ (ent (tab ts k) x y).toNat < n := by
  obtain ⟨h1, h2⟩ := h k hk
  have := h1.bd (x := x) (y := y) (by omega) (by omega)
  omega
theorem TabsOk.one {t : List (List Int)} (h : TableOk t) : TabsOk t.length [t] := fun k hk => by
  have : k = 0 := by simpa using hk
  subst this
  rw [tab_one]; exact ⟨h, rfl⟩
theorem TabsOk.two {t u : List (List Int)} (h : TableOk t) (h2 : TableOk u) (hl : u.length = t.length) : TabsOk t.length [t, u] := fun k hk => by
  have : k = 0 ∨ k = 1 := by have := hk; simp at this; omega
  rcases this with rfl | rfl
  · rw [tab_two0]; exact ⟨h, rfl⟩
  · rw [tab_two1]; exact ⟨h2, hl⟩

/-- p renames the tables az to the tables bz -/
def IsoOk (n : Nat) (az bz : List (List (List Int))) (p : List Int) : Prop :=
  p.length = n ∧ PermOk p ∧ ∀ k, k < az.length → ∀ x, x < n → ∀ y, y < n → ix p (ent (tab az k) x y).toNat = ent (tab bz k) (ix p x).toNat (ix p y).toNat
theorem IsoOk.bd {n : Nat} {az bz : List (List (List Int))} {p : List Int} (h : IsoOk n az bz p) {x : Nat} (hx : x < n) : 0 ≤ ix p x ∧ (ix p x).toNat < n := by
  obtain ⟨h1, ⟨h2, _⟩, _⟩ := h
  have := h2 x (by omega)
  omega
theorem IsoOk.inj {n : Nat} {az bz : List (List (List Int))} {p : List Int} (h : IsoOk n az bz p) {x y : Nat} (hx : x < n) (hy : y < n) (e : ix p x = ix p y) : x = y := by
  obtain ⟨h1, ⟨_, h2⟩, _⟩ := h
  rcases Nat.lt_trichotomy x y with g | g | g
  · exact absurd e (h2 y (by omega) x g)
  · exact g
  · exact absurd e.symm (h2 x (by omega) y g)
/-- p goes on with f, where f is set -/
def ExtP (f p : List Int) : Prop := ∀ i, i < f.length → 0 ≤ ix f i → ix p i = ix f i
/-- those that lead x below k -/
@[irreducible] def below (M : List (List Int)) (x k : Nat) : List (List Int) := M.filter fun p => decide (ix p x < (k : Int))
theorem ix_app {f g : List Int} {i : Nat} (h : i < f.length) : ix (f ++ g) i = ix f i := by
  rw [ix_eq, ix_eq]; simp [List.getD, List.getElem?_append_left h]
theorem ix_snoc (f : List Int) (v : Int) : ix (f ++ [v]) f.length = v := by rw [ix_eq]; simp
end Go.Proofs.YthlafeefjonkdaaDoor

/-
  Partial maps between lists of tables, element by element: plain.
-/
namespace Go.Proofs.YthlafeefjonkdaaDoor
set_option linter.unusedVariables false
set_option linter.unusedSimpArgs false

/-- f' goes on with f -/
def Goes (n : Nat) (f f' : List Int) : Prop := f'.length = n ∧ ∀ i, i < n → 0 ≤ ix f i → ix f' i = ix f i
theorem Goes.refl {n : Nat} {f : List Int} (h : f.length = n) : Goes n f f := ⟨h, fun _ _ _ => rfl⟩
theorem Goes.trans {n : Nat} {f g h : List Int} (a : Goes n f g) (b : Goes n g h) : Goes n f h := ⟨b.1, fun i hi h0 => by
  have e := a.2 i hi h0
  rw [b.2 i hi (by omega), e]⟩
/-- x and y are mapped, and so are their values, as the tables say -/
def Good (az bz : List (List (List Int))) (f : List Int) (x y : Nat) : Prop :=
  ∀ k, k < az.length → 0 ≤ ix f (ent (tab az k) x y).toNat ∧ ix f (ent (tab az k) x y).toNat = ent (tab bz k) (ix f x).toNat (ix f y).toNat
theorem Good.goes {n : Nat} {az bz : List (List (List Int))} {f g : List Int} {x y : Nat} (hA : TabsOk n az) (h : Good az bz f x y) (hg : Goes n f g) (hx : x < n) (hy : y < n) (fx : 0 ≤ ix f x) (fy : 0 ≤ ix f y) : Good az bz g x y := fun k hk => by
  obtain ⟨h1, h2⟩ := h k hk
  have hb := hA.bd hk hx hy
  have e := hg.2 _ hb.2 h1
  rw [e, hg.2 x hx fx, hg.2 y hy fy]
  exact ⟨h1, h2⟩
/-- f is a partial map; s its elements in the order of their mapping -/
structure PartOk (n : Nat) (f s : List Int) : Prop where
  len : f.length = n
  rng : ∀ x, x < n → -1 ≤ ix f x ∧ ix f x < (n : Int)
  inj : ∀ x, x < n → ∀ y, y < n → 0 ≤ ix f x → ix f x = ix f y → x = y
  mem : ∀ x : Nat, x < n → ((x : Int) ∈ s ↔ 0 ≤ ix f x)
  bd : ∀ i, i < s.length → 0 ≤ ix s i ∧ (ix s i).toNat < n
  nodup : s.Nodup
theorem ix_set_same (f : List Int) (x : Nat) (v : Int) (h : x < f.length) : ix (f.set x v) x = v := by
  rw [ix_eq]; simp [List.getD, h]
theorem ix_set_other (f : List Int) (x i : Nat) (v : Int) (h : i ≠ x) : ix (f.set x v) i = ix f i := by
  rw [ix_eq, ix_eq]; simp [List.getD, List.getElem?_set_ne (Ne.symm h)]
theorem mem_snoc_iff {s : List Int} {a b : Int} : a ∈ s ++ [b] ↔ a ∈ s ∨ a = b := by simp
theorem PartOk.set {n : Nat} {f s : List Int} {x v : Nat} (h : PartOk n f s) (hx : x < n) (hv : v < n) (hf : ix f x < 0) (hu : ∀ y, y < n → ix f y ≠ (v : Int)) : PartOk n (f.set x (v : Int)) (s ++ [(x : Int)]) where
  len := by rw [List.length_set]; exact h.len
  rng y hy := by
    by_cases e : y = x
    · subst e; rw [ix_set_same _ _ _ (by rw [h.len]; exact hy)]; omega
    · rw [ix_set_other _ _ _ _ e]; exact h.rng y hy
  inj y hy z hz h0 e := by
    have hxl : x < f.length := by rw [h.len]; exact hx
    by_cases ey : y = x
    · subst ey
      by_cases ez : z = y
      · exact ez.symm
      · rw [ix_set_same _ _ _ hxl, ix_set_other _ _ _ _ ez] at e
        exact absurd e.symm (hu z hz)
    · by_cases ez : z = x
      · subst ez
        rw [ix_set_same _ _ _ hxl, ix_set_other _ _ _ _ ey] at e
        exact absurd e (hu y hy)
      · rw [ix_set_other _ _ _ _ ey] at h0
        rw [ix_set_other _ _ _ _ ey, ix_set_other _ _ _ _ ez] at e
        exact h.inj y hy z hz h0 e
  mem y hy := by
    have hxl : x < f.length := by rw [h.len]; exact hx
    rw [mem_snoc_iff, h.mem y hy]
    by_cases e : y = x
    · subst e; rw [ix_set_same _ _ _ hxl]; constructor
      · intro _; omega
      · intro _; exact .inr rfl
    · rw [ix_set_other _ _ _ _ e]; constructor
      · rintro (h1 | h1)
        · exact h1
        · exact absurd (Int.ofNat.inj h1) e
      · exact .inl
  bd i hi := by
    by_cases e : i < s.length
    · rw [ix_app e]; exact h.bd i e
    · have : i = s.length := by simp at hi; omega
      subst this
      rw [ix_snoc]; omega
  nodup := by
    rw [List.nodup_append]
    refine ⟨h.nodup, by simp, fun a ha b hb e => ?_⟩
    have : b = (x : Int) := by simpa using hb
    subst this; subst e
    have := (h.mem x hx).1 ha
    omega
/-- where v is used, nothing new goes there -/
theorem used_no {n : Nat} {az bz : List (List (List Int))} {f p : List Int} {x y : Nat} {v : Int} (hl : f.length = n) (hp : IsoOk n az bz p) (he : ExtP f p) (hx : x < n) (hy : y < n) (hf : ix f x < 0) (hv : 0 ≤ v) (e : ix f y = v) : ix p x ≠ v := fun h => by
  have h1 := he y (by omega) (by omega)
  have := hp.inj hx hy (by omega)
  subst this
  omega
/-- what follows -/
theorem ext_follows {n : Nat} {az bz : List (List (List Int))} {f p : List Int} {x y k : Nat} (hl : f.length = n) (hp : IsoOk n az bz p) (he : ExtP f p) (hx : x < n) (hy : y < n) (fx : 0 ≤ ix f x) (fy : 0 ≤ ix f y) (hk : k < az.length) : ix p (ent (tab az k) x y).toNat = ent (tab bz k) (ix f x).toNat (ix f y).toNat := by
  rw [hp.2.2 k hk x hx y hy, he x (by omega) fx, he y (by omega) fy]
end Go.Proofs.YthlafeefjonkdaaDoor

/-
  Cells, marks and lists behind single steps of the world, for backward chaining. No program in sight.
-/
namespace Go.Proofs.YthlafeefjonkdaaDoor
set_option linter.unusedVariables false
set_option linter.unusedSimpArgs false
open Go.RowKit

theorem kc_set {w : World} {a p : Addr} {v u : Value} (hb : a.block ≠ p.block) (h : w.cell? a = some v) : (w.setCell p u).cell? a = some v := by
  rw [World.cell?_setCell_other _ _ _ _ (fun e => hb (by rw [e]))]; exact h
theorem kc_set2 {w : World} {a p : Addr} {v u : Value} (hb : a.off ≠ p.off) (h : w.cell? a = some v) : (w.setCell p u).cell? a = some v := by
  rw [World.cell?_setCell_other _ _ _ _ (fun e => hb (by rw [e]))]; exact h
theorem kc_same {w : World} {a : Addr} {v u : Value} (h : w.cell? a = some v) : (w.setCell a u).cell? a = some u := World.cell?_setCell_same _ _ _ h
theorem ki_alloc {w : World} {b o : Nat} {l : List Int} {x : Obj} (h : IntsAt w b o l) : IntsAt (w.alloc x) b o l := h.ext ((Ext.refl w).alloc x)
theorem kf_alloc {w : World} {a : Addr} {o : Obj} (hb : a.block < w.heap.size) (h : w.frozen? a = false) : (w.alloc o).frozen? a = false := ((Ext.refl w).alloc o).free h hb
theorem kf_set {w : World} {a p : Addr} {u : Value} (h : w.frozen? a = false) : (w.setCell p u).frozen? a = false := by rw [World.frozen?_setCell]; exact h
end Go.Proofs.YthlafeefjonkdaaDoor

/-
  The table the other way round; comparing; sets as numbers: plain.
-/
namespace Go.Proofs.YthlafeefjonkdaaDoor
set_option linter.unusedVariables false
set_option linter.unusedSimpArgs false
open Go.RowKit

/-- x y = y x for the first k elements y -/
def ComTo (t : List (List Int)) (x k : Nat) : Prop := ∀ y, y < k → ent t x y = ent t y x
instance (t x k) : Decidable (ComTo t x k) := by unfold ComTo; infer_instance
def ComAll (t : List (List Int)) (k : Nat) : Prop := ∀ x, x < k → ComTo t x x
theorem ComTo.zero (t x) : ComTo t x 0 := all_zero
theorem ComTo.succ {t x k} (h : ComTo t x k) (hk : ent t x k = ent t k x) : ComTo t x (k + 1) := all_succ h hk
theorem ComTo.mono {t x k k'} (h : ComTo t x k) (hk : k' ≤ k) : ComTo t x k' := all_mono h hk
theorem ComAll.zero (t) : ComAll t 0 := all_zero
theorem ComAll.succ {t k} (h : ComAll t k) (hk : ComTo t k k) : ComAll t (k + 1) := all_succ h hk
end Go.Proofs.YthlafeefjonkdaaDoor

/-
  Conjugation in a group; reading tables: plain.
-/
namespace Go.Proofs.YthlafeefjonkdaaDoor
set_option linter.unusedVariables false
set_option linter.unusedSimpArgs false

/-- x y (inverse of x) -/
@[irreducible] def conjF (t : List (List Int)) (x y : Nat) : Int := ent t (ent t x y).toNat (backF t x).toNat
theorem conjF_def (t : List (List Int)) (x y : Nat) : ent t (ent t x y).toNat (backF t x).toNat = conjF t x y := by unfold conjF; rfl

/-- a row of a table, as it lies, and its entries -/
theorem RowsAt.read {w : World} {b o n : Nat} {t : List (List Int)} (h : RowsAt w b o t) (hT : TableOk t) (hn : t.length = n) {x : Nat} (hx : x < n) :
    ∃ d s m, w.cell? ⟨b, o + x, none⟩ = some (.slice (some ⟨d, s, none⟩) n m) ∧ ∀ y, y < n → w.cell? ⟨d, s + y, none⟩ = some (.int .i64 (ent t x y)) ∧ 0 ≤ ent t x y ∧ ent t x y < (n : Int) := by
  subst hn
  obtain ⟨d, s, m, r, l, -⟩ := h.get hx
  rw [hT.len hx] at r
  exact ⟨d, s, m, r, fun y hy => ⟨l.ent (hT.len hx) hy, (hT.bd hx hy).1, by have := (hT.bd hx hy).2; omega⟩⟩
end Go.Proofs.YthlafeefjonkdaaDoor

/-
  Marks of elements, their order, and what isomorphisms keep: plain.
-/
namespace Go.Proofs.YthlafeefjonkdaaDoor
set_option linter.unusedVariables false
set_option linter.unusedSimpArgs false

theorem less_irrefl (l : List Int) : ¬ l < l := List.lt_irrefl l
/-- the numbers of l in ascending order -/
@[irreducible] def sortI (l : List Int) : List Int := l.mergeSort (fun a b => decide (a ≤ b))
theorem sortI_perm (l : List Int) : (sortI l).Perm l := by unfold sortI; exact List.mergeSort_perm l _
theorem length_sortI (l : List Int) : (sortI l).length = l.length := (sortI_perm l).length_eq

/-! ### marks -/
@[irreducible] def ownN (u v x y : Int) : Int := (if u = y then 1 else 0) + (if v = y then 2 else 0) + (if u = x then 4 else 0) + (if v = x then 8 else 0)
/-- what an element tells of another one -/
@[irreducible] def ent1 (ts : List (List (List Int))) (c : List Int) (k x y : Nat) : Int :=
  ((ix c y * 64 + ix c (ent (tab ts k) x y).toNat) * 64 + ix c (ent (tab ts k) y x).toNat) * 16 + ownN (ent (tab ts k) x y) (ent (tab ts k) y x) x y
/-- how often x stands among the first m of row y -/
@[irreducible] def cntN (ts : List (List (List Int))) (k x y m : Nat) : Nat := (List.range m).countP fun z => decide (ent (tab ts k) y z = (x : Int))
@[irreducible] def ent2 (ts : List (List (List Int))) (c : List Int) (n k x y : Nat) : Int := 1099511627776 + ix c y * 64 + (cntN ts k x y n : Nat)
/-- what one table tells -/
@[irreducible] def entL (ts : List (List (List Int))) (c : List Int) (n k x : Nat) : List Int := mkL n (ent1 ts c k x) ++ mkL n (ent2 ts c n k x)
theorem length_entL (ts : List (List (List Int))) (c : List Int) (n k x : Nat) : (entL ts c n k x).length = 2 * n := by
  unfold entL; rw [List.length_append, length_mkL, length_mkL]; omega
/-- the mark of an element, by the first K tables -/
def markL (ts : List (List (List Int))) (c : List Int) (n x : Nat) : Nat → List Int
  | 0 => [ix c x]
  | K + 1 => markL ts c n x K ++ sortI (entL ts c n K x)
theorem length_markL (ts : List (List (List Int))) (c : List Int) (n x : Nat) : ∀ K, (markL ts c n x K).length = 1 + K * (2 * n)
  | 0 => by simp [markL]
  | K + 1 => by
    unfold markL
    rw [List.length_append, length_markL ts c n x K, length_sortI, length_entL]
    have : (K + 1) * (2 * n) = K * (2 * n) + 2 * n := Nat.succ_mul _ _
    omega
theorem markL_head (ts : List (List (List Int))) (c : List Int) (n x : Nat) : ∀ K, ix (markL ts c n x K) 0 = ix c x
  | 0 => by unfold markL; rw [ix_eq]; rfl
  | K + 1 => by
    unfold markL
    rw [ix_app (by rw [length_markL]; omega)]
    exact markL_head ts c n x K

/-! ### the kinds of marks -/
theorem sub_len {α : Type} [DecidableEq α] : ∀ {a b : List α}, a.Nodup → (∀ x, x ∈ a → x ∈ b) → a.length ≤ b.length
  | [], b, _, _ => Nat.zero_le _
  | x :: r, b, hn, hs => by
    rw [List.nodup_cons] at hn
    have hx : x ∈ b := hs x (by simp)
    have := sub_len (a := r) (b := b.erase x) hn.2 (fun y hy => by
      have hne : y ≠ x := fun e => hn.1 (e ▸ hy)
      exact (List.mem_erase_of_ne hne).2 (hs y (by simp [hy])))
    rw [List.length_erase_of_mem hx] at this
    have := List.length_pos_of_mem hx
    simp; omega
/-- the different lists among marks, in order -/
def Kinds (M K : List (List Int)) : Prop := K.Pairwise (· < ·) ∧ (∀ m, m ∈ K → m ∈ M) ∧ (∀ m, m ∈ M → m ∈ K)
theorem Kinds.nil : Kinds [] [] := ⟨List.Pairwise.nil, fun _ h => h, fun _ h => h⟩
theorem Kinds.nodup {M K : List (List Int)} (h : Kinds M K) : K.Nodup := by
  rw [List.nodup_iff_pairwise_ne]
  refine h.1.imp ?_
  intro a b hab e
  subst e
  exact less_irrefl _ hab
/-- the first place of m in K -/
@[irreducible] def placeL (K : List (List Int)) (m : List Int) : Nat := K.findIdx (fun x => decide (x = m))
theorem placeL_lt {K : List (List Int)} {m : List Int} (h : m ∈ K) : placeL K m < K.length := by
  unfold placeL
  exact List.findIdx_lt_length_of_exists ⟨m, h, by simp⟩
theorem placeL_at {K : List (List Int)} {m : List Int} (h : m ∈ K) : row K (placeL K m) = m := by
  have hl := placeL_lt h
  rw [row_eq]
  unfold placeL at hl ⊢
  have := List.findIdx_getElem (w := hl)
  simp [List.getD, hl] at this ⊢
  exact this
theorem placeL_ahead {K : List (List Int)} {m : List Int} {j : Nat} (h : j < placeL K m) : row K j ≠ m := by
  intro e
  unfold placeL at h
  have h1 := List.not_of_lt_findIdx h
  rw [row_eq] at e
  have hj : j < K.length := Nat.lt_of_lt_of_le h (List.findIdx_le_length)
  simp [List.getD, hj] at e h1
  exact h1 e
/-- number colours were all in use; each mark begins with its element's former colour: at least as many kinds -/
theorem Kinds.more {M K : List (List Int)} (h : Kinds M K) {number : Nat} (hc : ∀ c : Nat, c < number → ∃ i, i < M.length ∧ ix (row M i) 0 = (c : Int)) : number ≤ K.length := by
  have := sub_len (a := intRange number) (b := K.map fun m => ix m 0) (nodup_intRange _) (fun x hx => by
    have hx' := mem_intRange.1 hx
    obtain ⟨i, hi, e⟩ := hc x.toNat (by omega)
    rw [List.mem_map]
    refine ⟨row M i, h.2.2 _ ?_, by omega⟩
    rw [row_eq]; simp [List.getD, hi])
  rw [length_intRange] at this
  simpa using this
/-- each kind is in use -/
theorem Kinds.used {M K : List (List Int)} (h : Kinds M K) {c : Nat} (hc : c < K.length) : ∃ i, i < M.length ∧ placeL K (row M i) = c := by
  have hm : row K c ∈ K := by rw [row_eq]; simp [List.getD, hc]
  obtain ⟨i, hi, e⟩ := List.mem_iff_getElem.1 (h.2.1 _ hm)
  refine ⟨i, hi, ?_⟩
  have er : row M i = row K c := by rw [row_eq]; simp [List.getD, hi, e]
  rw [er]
  have hp := placeL_at hm
  have hl := placeL_lt hm
  rcases Nat.lt_trichotomy (placeL K (row K c)) c with g | g | g
  · have hn := h.nodup
    rw [List.nodup_iff_pairwise_ne, List.pairwise_iff_getElem] at hn
    have := hn _ _ hl hc g
    have e1 : K[placeL K (row K c)] = row K (placeL K (row K c)) := by rw [row_eq K (placeL K (row K c))]; simp [List.getD, hl]
    have e2 : K[c] = row K c := by rw [row_eq]; simp [List.getD, hc]
    rw [e1, e2] at this
    exact absurd hp this
  · exact g
  · exact absurd rfl (placeL_ahead g)
end Go.Proofs.YthlafeefjonkdaaDoor

/-
  Contracts of the smallest functions: ranges, the index of a number in a list, equality of lists.
-/
namespace Go.Proofs.YthlafeefjonkdaaDoor
set_option linter.unusedVariables false
set_option linter.unusedSimpArgs false
open Go.RowKit

theorem l01In_any (n lo hi : Int) (w : World) : Calls Tryd.prog 31 #[.int .i64 n, .int .i64 lo, .int .i64 hi] w fun e w' => e = .returned (.bool (inR n lo hi)) ∧ w = w' := by
  go_enter Tryd.func31, Tryd.ntmps31
  go_wp2
  all_goals go_ret
  all_goals exact ⟨by unfold inR; apply ret_bool; simp; omega, rfl⟩

theorem within_any (n lo hi : Int) (w : World) : Calls Tryd.prog 37 #[.int .i64 n, .int .i64 lo, .int .i64 hi] w fun e w' => e = .returned (.bool (inR n lo hi)) ∧ w = w' := by
  go_enter Tryd.func37, Tryd.ntmps37
  go_wp2
  all_goals go_ret
  all_goals exact ⟨by unfold inR; apply ret_bool; simp; omega, rfl⟩

theorem l01Index_any (l : List Int) (v : Value) (n : Int) (w : World) (hv : Ints w v l) :
    Calls Tryd.prog 44 #[v, .int .i64 n] w fun e w' => e = .returned (.int .i64 (indexOf l n)) ∧ w = w' := by
  obtain ⟨hlen, b, o, c, rfl, hc⟩ := hv
  go_enter Tryd.func44, Tryd.ntmps44
  go_wp2
  go_loop [5] (fun i => ∃ k : Nat, k ≤ l.length ∧ i = .int .i64 k ∧ indexOf l n = indexFrom n (l.drop k) k) (fun i => l.length - (intOf i).toNat)
  case atStart => exact ⟨0, Nat.zero_le _, rfl, by unfold indexOf; rfl⟩
  case round =>
    obtain ⟨k, hk, rfl, hr⟩ := hrel
    have Hr := Lib.hid hr
    clear hr
    by_cases hlt : k < l.length
    · have hcell := hc k hlt
      by_cases he : (ix l k == n) = true
      · go_wp2
        go_ret
        exact ⟨ret_int (by rw [Hr.out, indexFrom_hit l n k hlt (by simpa using he)]), rfl⟩
      · have he' : (ix l k == n) = false := by simpa using he
        clear he
        go_wp2
        go_round
        case rel => exact ⟨k + 1, by omega, by go_num, by rw [Hr.out, indexFrom_miss l n k hlt (by simpa using he')]⟩
        case measure => simp [intOf]; omega
    · go_wp2
      go_ret
      exact ⟨ret_int (by rw [Hr.out, indexFrom_end l n k (by omega)]), rfl⟩

theorem l01Has_any (l : List Int) (v : Value) (n : Int) (w : World) (hv : Ints w v l) :
    Calls Tryd.prog 43 #[v, .int .i64 n] w fun e w' => e = .returned (.bool (hasB l n)) ∧ w = w' := by
  go_enter Tryd.func43, Tryd.ntmps43
  go_wp2_with (go_at_call 44; refine (l01Index_any l _ _ _ hv).mono ?_; rintro e w' ⟨rfl, rfl⟩)
  go_ret
  exact ⟨ret_bool (by rw [hasB_def]), rfl⟩
end Go.Proofs.YthlafeefjonkdaaDoor

/-
  Contracts: the cyclic groups and those of two halves, by formulas: reference.
-/
namespace Go.Proofs.YthlafeefjonkdaaDoor
set_option linter.unusedVariables false
set_option linter.unusedSimpArgs false
open Go.RowKit

theorem take_row (t : List (List Int)) (k : Nat) (h : k < t.length) : t.take (k + 1) = t.take k ++ [row t k] := by
  rw [List.take_succ_eq_append_getElem h, row_eq]; simp [List.getD, h]
end Go.Proofs.YthlafeefjonkdaaDoor
