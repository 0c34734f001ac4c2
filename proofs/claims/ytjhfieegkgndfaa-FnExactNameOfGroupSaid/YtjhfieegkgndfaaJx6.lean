/-
  Contracts of the laws' own helpers: copies.
-/
import Derived.Test.YtjhfieegkgndfaaProg
import Derived.Test.YtjhfieegkgndfaaJx0
import Derived.Test.YtjhfieegkgndfaaJx1
import Derived.Test.YtjhfieegkgndfaaJx5
import Derived.Test.YtjhfieegkgndfaaJx9
import Derived.Test.YtjhfieegkgndfaaJx3
namespace Go.Proofs.Ytjhfieegkgndfaa
set_option linter.unusedVariables false
set_option linter.unusedSimpArgs false
open Go.RowKit

theorem infoInt : (Try.prog.info? 2).map (fun i => (i.zero, i.size, i.bytes)) = some (some (.int .i64 0), 1, 8) := by kernel_rfl
theorem infoSl : (Try.prog.info? 65).map (fun i => (i.zero, i.size, i.bytes)) = some (some (.slice none 0 0), 1, 24) := by kernel_rfl

/-- a new slice of integers is returned -/
def NewI (l : List Int) (w : World) (e : Ending) (w' : World) : Prop :=
  ∃ b c, e = .returned (.slice (some ⟨b, 0, none⟩) l.length c) ∧ OwnI w.heap.size w'.heap.size w' b 0 l ∧ Ext w w'
/-- a new table is returned -/
def NewT (t : List (List Int)) (w : World) (e : Ending) (w' : World) : Prop :=
  ∃ b c, e = .returned (.slice (some ⟨b, 0, none⟩) t.length c) ∧ OwnT w.heap.size w'.heap.size w' b 0 t ∧ Ext w w'

theorem toInt64S_any (l : List Int) (v : Value) (w : World) (hv : IntsR w v l) (hl : l.length ≤ 1048576) :
    Calls Try.prog 52 #[v] w (NewI l w) := by
  obtain ⟨a, c, rfl, hc⟩ := hv
  have HC := Lib.hid hc
  clear hc
  have hmk := run_make_row' (P := Try.prog) 65 2 (.int .i64 0) 8 Try.underlying65 infoInt rfl .i64 .i64 l.length (by omega) (by omega)
  go_enter Try.func52, Try.ntmps52
  go_wp2
  clear hmk
  have hx0 : Ext w (w.alloc (.cells (madeCells #[Value.int .i64 0] l.length) 2)) := (Ext.refl _).alloc _
  have hr0 := World.rowIs_made w (.int .i64 0) l.length 2
  go_loopw [4] (fun i wr => ∃ k : Nat, k ≤ l.length ∧ i = .int .i64 k ∧ wr.rowIs w.heap.size 2 l.length (fun i => .int .i64 (copyTo l k i)) ∧ Ext w wr) (fun i _ => l.length - (intOf i).toNat)
  case atStart => exact ⟨0, Nat.zero_le _, rfl, hr0.congr (fun i hi => by rw [copyTo_zero]), hx0⟩
  case round =>
    clear hx0 hr0
    obtain ⟨k, hk, rfl, hrow, hx⟩ := hrel
    by_cases hlt : k < l.length
    · obtain ⟨b, o, rfl, hc⟩ := HC.out (ne_nil_of_lt hlt)
      have e1 := hc.ext hx k hlt
      have e2 := hrow.cell hlt
      have e3 := hrow.frozen k
      clear hc
      go_wp2
      go_roundw
      case rel => exact ⟨k + 1, by omega, by go_num, (hrow.set k (.int .i64 (ix l k))).congr (fun i hi => by rw [copyTo_succ]; split <;> rfl), hx.setNew (Nat.le_refl _) _⟩
      case measure => simp [intOf]; omega
    · go_wp2
      go_ret
      exact ⟨w.heap.size, l.length, rfl, ownI_of_row hrow (Nat.le_refl _) (fun i hi => by rw [copyTo_all _ _ _ (by omega)]) (Nat.le_refl _) hrow.lt, hx⟩

theorem toInt64SS_any (t : List (List Int)) (v : Value) (w : World) (hv : RowsR w v t) (hs : Small t) :
    Calls Try.prog 19 #[v] w (NewT t w) := by
  obtain ⟨a, c, rfl, hc⟩ := hv
  obtain ⟨hs0, hs1⟩ := hs
  have HS := Lib.hid hs1
  have HC := Lib.hid hc
  clear hc hs1
  have hmk := run_make_row' (P := Try.prog) 22 65 (.slice none 0 0) 24 Try.underlying22 infoSl rfl .i64 .i64 t.length (by omega) (by omega)
  go_enter Try.func19, Try.ntmps19
  go_wp2_with fail
  clear hmk
  have hx0 : Ext w (w.alloc (.cells (madeCells #[Value.slice none 0 0] t.length) 65)) := (Ext.refl _).alloc _
  have hr0 := World.rowIs_made w (.slice none 0 0) t.length 65
  go_loopw [4] (fun i wr => ∃ k : Nat, k ≤ t.length ∧ i = .int .i64 k ∧ Build wr w.heap.size 65 t.length k (row t) ∧ Ext w wr) (fun i _ => t.length - (intOf i).toNat)
  case atStart => exact ⟨0, Nat.zero_le _, rfl, Build.zero _ hr0, hx0⟩
  case round =>
    clear hx0 hr0
    obtain ⟨k, hk, rfl, hb, hx⟩ := hrel
    by_cases hlt : k < t.length
    · obtain ⟨b, o, rfl, hc⟩ := HC.out (ne_nil_of_lt hlt)
      obtain ⟨r, e1, i1⟩ := hc k hlt
      have e1' := hx.cell e1
      clear hc
      go_wp2_with fail
      refine (toInt64S_any (row t k) _ _ (i1.ext hx) (HS.out k)).mono ?_
      rintro e w1 ⟨b1, c1, rfl, ho, hx1⟩
      have hb1 := hb.ext hx1
      have e2 := hb1.cell hlt (Nat.le_refl _)
      have e3 := hb1.frozen k
      go_wp2
      go_roundw
      case rel => exact ⟨k + 1, by omega, by go_num, hb.succ hx1 ho rfl, (hx.trans hx1).setNew (Nat.le_refl _) _⟩
      case measure => simp [intOf]; omega
    · go_wp2
      go_ret
      exact ⟨w.heap.size, t.length, rfl, hb.done (fun _ _ => rfl) (by omega) (Nat.le_refl _) (Nat.le_refl _) (Nat.le_refl _), hx⟩
end Go.Proofs.Ytjhfieegkgndfaa

/-
  Contracts of the smallest functions: ranges, the index of a number in a list, equality of lists.
-/
namespace Go.Proofs.Ytjhfieegkgndfaa
set_option linter.unusedVariables false
set_option linter.unusedSimpArgs false
open Go.RowKit

theorem l01In_any (n lo hi : Int) (w : World) : Calls Try.prog 35 #[.int .i64 n, .int .i64 lo, .int .i64 hi] w fun e w' => e = .returned (.bool (inR n lo hi)) ∧ w = w' := by
  go_enter Try.func35, Try.ntmps35
  go_wp2
  all_goals go_ret
  all_goals exact ⟨by unfold inR; apply ret_bool; simp; omega, rfl⟩

theorem within_any (n lo hi : Int) (w : World) : Calls Try.prog 38 #[.int .i64 n, .int .i64 lo, .int .i64 hi] w fun e w' => e = .returned (.bool (inR n lo hi)) ∧ w = w' := by
  go_enter Try.func38, Try.ntmps38
  go_wp2
  all_goals go_ret
  all_goals exact ⟨by unfold inR; apply ret_bool; simp; omega, rfl⟩

theorem l01Index_any (l : List Int) (v : Value) (n : Int) (w : World) (hv : Ints w v l) :
    Calls Try.prog 129 #[v, .int .i64 n] w fun e w' => e = .returned (.int .i64 (indexOf l n)) ∧ w = w' := by
  obtain ⟨hlen, b, o, c, rfl, hc⟩ := hv
  go_enter Try.func129, Try.ntmps129
  go_wp2
  go_loop [5] (fun i => ∃ k : Nat, k ≤ l.length ∧ i = .int .i64 k ∧ indexOf l n = indexFrom n (l.drop k) k) (fun i => l.length - (intOf i).toNat)
  case atStart => exact ⟨0, Nat.zero_le _, rfl, by unfold indexOf; rfl⟩
  case round =>
    obtain ⟨k, hk, rfl, hr⟩ := hrel
    have Hr := Lib.hid hr
    clear hr
    by_cases hlt : k < l.length
    · have hcell := hc k hlt
      by_cases he : (ix l k == n) = true
      · go_wp2
        go_ret
        exact ⟨ret_int (by rw [Hr.out, indexFrom_hit l n k hlt (by simpa using he)]), rfl⟩
      · have he' : (ix l k == n) = false := by simpa using he
        clear he
        go_wp2
        go_round
        case rel => exact ⟨k + 1, by omega, by go_num, by rw [Hr.out, indexFrom_miss l n k hlt (by simpa using he')]⟩
        case measure => simp [intOf]; omega
    · go_wp2
      go_ret
      exact ⟨ret_int (by rw [Hr.out, indexFrom_end l n k (by omega)]), rfl⟩

theorem l01Has_any (l : List Int) (v : Value) (n : Int) (w : World) (hv : Ints w v l) :
    Calls Try.prog 111 #[v, .int .i64 n] w fun e w' => e = .returned (.bool (hasB l n)) ∧ w = w' := by
  go_enter Try.func111, Try.ntmps111
  go_wp2_with (go_at_call 129; refine (l01Index_any l _ _ _ hv).mono ?_; rintro e w' ⟨rfl, rfl⟩)
  go_ret
  exact ⟨ret_bool (by rw [hasB_def]), rfl⟩
end Go.Proofs.Ytjhfieegkgndfaa

/-
  Contracts of the laws' own helpers: marks.
-/
namespace Go.Proofs.Ytjhfieegkgndfaa
set_option linter.unusedVariables false
set_option linter.unusedSimpArgs false
open Go.RowKit

/-- behind marking a slice of integers -/
def MarkI (lo hi : Nat) (l : List Int) (k : Int) (v : Value) (w : World) (e : Ending) (w' : World) : Prop :=
  e = .returned (.int .i64 (k + l.length)) ∧ OwnIV lo hi w' v (numRow k l.length) ∧ Marked lo hi w w'
theorem markInt64S_own (lo hi : Nat) (l : List Int) (b o c : Nat) (k : Int) (w : World) (hv : l ≠ [] → OwnI lo hi w b o l) (hl : l.length ≤ 1048576) (h0 : 0 ≤ k) (h1 : k ≤ 1125899906842624) :
    Calls Try.prog 56 #[.slice (some ⟨b, o, none⟩) l.length c, .int .i64 k] w fun e w' =>
      e = .returned (.int .i64 (k + l.length)) ∧ (l ≠ [] → OwnI lo hi w' b o (numRow k l.length)) ∧ (l = [] → w = w') ∧ Marked b (b + 1) w w' := by
  have HV := Lib.hid hv
  clear hv
  go_enter Try.func56, Try.ntmps56
  go_wp2
  go_loopw [1, 5] (fun q i wr => ∃ m : Nat, m ≤ l.length ∧ i = .int .i64 m ∧ q = .int .i64 (k + m) ∧ IntsAt wr b o (numTo l k m) ∧ FreeAt wr b o l.length ∧ Marked b (b + 1) w wr ∧ (l = [] → w = wr)) (fun _ i _ => l.length - (intOf i).toNat)
  case atStart => exact ⟨0, Nat.zero_le _, rfl, by go_num, by
    rw [numTo_zero]
    intro i hi
    exact (HV.out (ne_nil_of_lt hi)).2.2.1 i hi, fun i hi => (HV.out (ne_nil_of_lt hi)).2.2.2 i hi, Marked.refl _ _ _, fun _ => rfl⟩
  case round =>
    obtain ⟨m, hm, rfl, rfl, hi, hf, hM, hN⟩ := hrel
    have HN := Lib.hid hN
    clear hN
    by_cases hlt : m < l.length
    · have e1 := hi m (by simpa using hlt)
      have e2 := hf m hlt
      go_wp2
      go_roundw
      case rel => exact ⟨m + 1, by omega, by go_num, by go_num, hi.set m _ (by simpa using hlt) (by simp) (fun j hj hj' => by
          have hj'' : j < l.length := by simpa using hj'
          rw [ix_numTo _ _ _ _ hj'', ix_numTo _ _ _ _ hj'']
          by_cases h : j < m
          · rw [if_pos h, if_pos (by omega)]
          · rw [if_neg h, if_neg (by omega)]) (by rw [ix_numTo _ _ _ _ hlt, if_pos (by omega)]), hf.set _ _, hM.setCell (Nat.le_refl _) (by simp) _, fun h => absurd h (ne_nil_of_lt hlt)⟩
      case measure => simp [intOf]; omega
    · go_wp2
      go_ret
      have hmm : m = l.length := by omega
      refine ⟨ret_int (by rw [hmm]), fun hne => ?_, HN.out, hM⟩
      rw [numTo_all _ _ _ (by omega)] at hi
      exact ⟨(HV.out hne).1, (HV.out hne).2.1, hi, by simpa using hf⟩

theorem heldInt64S_any (l : List Int) (n : Nat) (v : Value) (k : Int) (w : World) (hv : IntsR w v l) (he : l = numRow k n) (hl : n ≤ 1048576) (h0 : 0 ≤ k) (h1 : k ≤ 1125899906842624) :
    Calls Try.prog 66 #[v, .int .i64 k] w fun e w' => e = .returned (.int .i64 (k + n)) ∧ Drawn w w' := by
  obtain ⟨a, c, rfl, hc⟩ := hv
  have HC := Lib.hid hc
  have hn : l.length = n := by rw [he]; simp
  have HE := Lib.hid he
  clear hc he
  rw [hn]
  have HN := Lib.hid hn
  clear hn
  go_enter Try.func66, Try.ntmps66
  go_wp2
  go_loopw [1, 5] (fun q i wr => ∃ m : Nat, m ≤ n ∧ i = .int .i64 m ∧ q = .int .i64 (k + m) ∧ Drawn w wr) (fun _ i _ => n - (intOf i).toNat)
  case atStart => exact ⟨0, Nat.zero_le _, rfl, by go_num, Drawn.refl _⟩
  case round =>
    obtain ⟨m, hm, rfl, rfl, hx⟩ := hrel
    by_cases hlt : m < n
    · obtain ⟨b, o, rfl, hc⟩ := HC.out (ne_nil_of_lt (k := m) (by rw [HN.out]; exact hlt))
      have e1 := hc.ext hx.ext m (by rw [HN.out]; exact hlt)
      rw [HE.out, ix_numRow _ _ _ hlt] at e1
      have hb : (k + (m : Int) != k + (m : Int)) = false := by simp
      clear hc
      go_wp2
      go_roundw
      case rel => exact ⟨m + 1, by omega, by go_num, by go_num, hx⟩
      case measure => simp [intOf]; omega
    · go_wp2
      go_ret
      have hmm : m = n := by omega
      exact ⟨ret_int (by rw [hmm]), hx⟩

/-- all the entries of a table -/
def total (t : List (List Int)) : Int := startAt t 0 t.length
theorem startAt_add (t : List (List Int)) (k : Int) : ∀ i : Nat, startAt t k i = k + startAt t 0 i
  | 0 => by simp [startAt]
  | i + 1 => by simp only [startAt]; rw [startAt_add t k i]; omega
theorem total_nonneg (t : List (List Int)) : 0 ≤ total t := by
  unfold total
  have : ∀ i : Nat, 0 ≤ startAt t 0 i := by
    intro i
    induction i with
    | zero => simp [startAt]
    | succ i ih => simp only [startAt]; omega
  exact this _
theorem total_le (t : List (List Int)) (hs : Small t) : total t ≤ 1099511627776 := by
  have := startAt_le t 0 hs.2 t.length
  have := hs.1
  unfold total
  omega

/-- behind marking a table -/
def MarkT (lo hi : Nat) (t : List (List Int)) (k : Int) (v : Value) (w : World) (e : Ending) (w' : World) : Prop :=
  e = .returned (.int .i64 (k + total t)) ∧ OwnV lo hi w' v (markTo t k t.length) ∧ Marked lo hi w w'

set_option maxRecDepth 100000 in
theorem markInt64SS_any (lo hi : Nat) (t : List (List Int)) (v : Value) (k : Int) (w : World) (hv : OwnV lo hi w v t) (h0 : 0 ≤ k) (h1 : k ≤ 562949953421312) :
    Calls Try.prog 23 #[v, .int .i64 k] w (MarkT lo hi t k v w) := by
  have HV := Lib.hid hv
  obtain ⟨hs, a, c, rfl, hc⟩ := hv
  have hs0 := hs.1
  have HS := Lib.hid hs.2
  have HC := Lib.hid hc
  clear hc hs
  have HB := Lib.hid (fun i => startAt_le t k HS.out i)
  go_enter Try.func23, Try.ntmps23
  go_wp2
  go_loopw [1, 5] (fun q i wr => ∃ m : Nat, m ≤ t.length ∧ i = .int .i64 m ∧ q = .int .i64 (startAt t k m) ∧ OwnV lo hi wr (.slice a t.length c) (markTo t k m) ∧ Marked lo hi w wr) (fun _ i _ => t.length - (intOf i).toNat)
  case atStart => exact ⟨0, Nat.zero_le _, rfl, by rfl, by rw [markTo_zero]; exact HV.out, Marked.refl _ _ _⟩
  case round =>
    obtain ⟨m, hm, rfl, rfl, hO, hM⟩ := hrel
    by_cases hlt : m < t.length
    · have HO := Lib.hid hO
      obtain ⟨hsm, a', c', hv', hc⟩ := hO
      obtain ⟨b, o, rfl, hb1, hb2, B, O, C, g1, g2⟩ := hc (ne_nil_of_lt (k := m) (by simpa using hlt))
      have ha : a = some ⟨b, o, none⟩ := by
        simp only [Value.slice.injEq] at hv'
        exact hv'.1
      subst ha
      clear hv' hc
      obtain ⟨e1, i1, n1⟩ := g1 m (by simpa using hlt)
      have hrm : row (markTo t k m) m = row t m := by rw [row_markTo _ _ _ _ hlt, if_neg (by omega)]
      rw [hrm] at e1 i1
      have G1 := Lib.hid g1
      have G2 := Lib.hid g2
      clear g1 g2 hrm hsm
      have hbd := HB.out m
      have hbd' := HB.out (m + 1)
      have hst : startAt t k (m + 1) = startAt t k m + (row t m).length := rfl
      have HST := Lib.hid hst
      clear hst
      go_wp2_with fail
      refine (markInt64S_own lo hi (row t m) (B m) (O m) (C m) _ _ (fun _ => i1) (HS.out m) (by omega) (by omega)).mono ?_
      rintro e w1 ⟨rfl, hO1, hE1, hM1⟩
      rw [← HST.out]
      have hM2 := hM1.mono (lo' := lo) (hi' := hi) i1.1 (by have := i1.2.1; omega)
      have HM1 := Lib.hid hM1
      have HO1 := Lib.hid hO1
      have HE1 := Lib.hid hE1
      clear hM1 hO1 hE1
      clear HB
      go_wp2
      go_roundw
      case rel =>
        refine ⟨m + 1, by omega, by go_num, rfl, ⟨small_markTo ⟨hs0, HS.out⟩ _ _, some ⟨b, o, none⟩, c, by simp, fun _ => ⟨b, o, rfl, hb1, hb2, B, O, C, fun i hi => ?_, fun i j hi hj e => G2.out i j (by simpa using hi) (by simpa using hj) e⟩⟩, hM.trans hM2⟩
        have hi' : i < t.length := by simpa using hi
        obtain ⟨f1, f2, f3⟩ := G1.out i (by simpa using hi)
        refine ⟨?_, ?_, f3⟩
        · rw [World.cell?_of_block (w := wr) (a := ⟨b, o + i, none⟩) (HM1.out.block b (by omega)), f1, length_row_markTo, length_row_markTo]
        · by_cases ei : i = m
          · subst ei
            rw [row_markTo _ _ _ _ hi', if_pos (by omega)]
            by_cases hne : row t i = []
            · have := HE1.out hne
              subst this
              rw [hne]
              exact ⟨i1.1, i1.2.1, fun j hj => by simp at hj, fun j hj => by simp at hj⟩
            · exact HO1.out hne
          · have hBi : B i ≠ B m := fun e => ei (G2.out i m (by simpa using hi) (by simpa using hlt) e)
            have := f2.block (HM1.out.block (B i) (by omega))
            rw [row_markTo _ _ _ _ hi'] at this ⊢
            by_cases h : i < m
            · rw [if_pos h] at this; rw [if_pos (by omega)]; exact this
            · rw [if_neg h] at this; rw [if_neg (by omega)]; exact this
      case measure => simp [intOf]; omega
    · go_wp2
      go_ret
      have hmm : m = t.length := by omega
      subst hmm
      exact ⟨ret_int (startAt_add t k _), hO, hM⟩

theorem heldInt64SS_any (t : List (List Int)) (v : Value) (k : Int) (w : World) (hv : RowsR w v (markTo t k t.length)) (hs : Small t) (h0 : 0 ≤ k) (h1 : k ≤ 562949953421312) :
    Calls Try.prog 43 #[v, .int .i64 k] w fun e w' => e = .returned (.int .i64 (k + total t)) ∧ Drawn w w' := by
  obtain ⟨a, c, rfl, hc⟩ := hv
  have HC := Lib.hid hc
  rw [length_markTo]
  have hs0 := hs.1
  have HS := Lib.hid hs.2
  clear hc hs
  have HB := Lib.hid (fun i => startAt_le t k HS.out i)
  go_enter Try.func43, Try.ntmps43
  go_wp2
  go_loopw [1, 5] (fun q i wr => ∃ m : Nat, m ≤ t.length ∧ i = .int .i64 m ∧ q = .int .i64 (startAt t k m) ∧ Drawn w wr) (fun _ i _ => t.length - (intOf i).toNat)
  case atStart => exact ⟨0, Nat.zero_le _, rfl, by rfl, Drawn.refl _⟩
  case round =>
    obtain ⟨m, hm, rfl, rfl, hx⟩ := hrel
    by_cases hlt : m < t.length
    · obtain ⟨b, o, rfl, hc⟩ := HC.out (ne_nil_of_lt (k := m) (by simpa using hlt))
      obtain ⟨r, e1, i1⟩ := hc m (by simpa using hlt)
      have e1' := hx.ext.cell e1
      clear hc e1
      have hrm := row_markTo t k t.length m hlt
      rw [if_pos hlt] at hrm
      have HR := Lib.hid hrm
      clear hrm
      have hbd := HB.out m
      have hst : startAt t k (m + 1) = startAt t k m + (row t m).length := rfl
      have HST := Lib.hid hst
      have hnn : ¬ startAt t k m + (row t m).length < 0 := by omega
      rw [← hst] at hnn
      clear hst
      go_wp2_with fail
      refine (heldInt64S_any _ (row t m).length _ _ _ (i1.ext hx.ext) HR.out (HS.out m) (by omega) (by omega)).mono ?_
      rintro e w1 ⟨rfl, hx1⟩
      rw [← HST.out]
      clear HB
      go_wp2
      go_roundw
      case rel => exact ⟨m + 1, by omega, by go_num, rfl, hx.trans hx1⟩
      case measure => simp [intOf]; omega
    · go_wp2
      go_ret
      have hmm : m = t.length := by omega
      subst hmm
      exact ⟨ret_int (startAt_add t k _), hx⟩
end Go.Proofs.Ytjhfieegkgndfaa

/-
  Contracts of the laws' own helpers at groups.
-/
namespace Go.Proofs.Ytjhfieegkgndfaa
set_option linter.unusedVariables false
set_option linter.unusedSimpArgs false
open Go.RowKit

theorem eqGroup_any (s t : List (List Int)) (v u : Value) (w : World) (hv : RowsR w v s) (hu : RowsR w u t) (hs : Small s) :
    Calls Try.prog 21 #[.agg #[v], .agg #[u]] w fun e w' => e = .returned (.bool (eqTB s t)) ∧ Ext w w' := by
  obtain ⟨a1, c1, rfl, h1⟩ := id hv
  obtain ⟨a2, c2, rfl, h2⟩ := id hu
  clear h1 h2
  have hx0 := ext_box2 w (.slice a1 s.length c1) (.slice a2 t.length c2) 37 37
  cases he : eqTB s t with
  | true =>
    go_enter Try.func21, Try.ntmps21
    go_wp2_with fail
    refine (eqInt64SS_any s t _ _ _ (hv.ext hx0) (hu.ext hx0) hs).mono ?_
    rintro e w1 ⟨rfl, hx1⟩
    go_wp2
    go_ret
    exact ⟨rfl, hx0.trans hx1.ext⟩
  | false =>
    go_enter Try.func21, Try.ntmps21
    go_wp2_with fail
    refine (eqInt64SS_any s t _ _ _ (hv.ext hx0) (hu.ext hx0) hs).mono ?_
    rintro e w1 ⟨rfl, hx1⟩
    go_wp2
    go_ret
    exact ⟨rfl, hx0.trans hx1.ext⟩

/-- behind marking what lies in lo .. hi - 1 -/
theorem markGroup_any (lo hi : Nat) (t : List (List Int)) (v : Value) (k : Int) (w : World) (hv : OwnV lo hi w v t) (hh : hi ≤ w.heap.size) (h0 : 0 ≤ k) (h1 : k ≤ 562949953421312) :
    Calls Try.prog 24 #[.agg #[v], .int .i64 k] w fun e w' => e = .returned (.int .i64 (k + total t)) ∧ OwnV lo hi w' v (markTo t k t.length) ∧ Touch lo hi w w' := by
  obtain ⟨hs, a1, c1, rfl, h1⟩ := id hv
  clear h1
  have hx0 := ext_box w (.slice a1 t.length c1) 37
  go_enter Try.func24, Try.ntmps24
  go_wp2_with fail
  refine (markInt64SS_any lo hi t _ _ _ (hv.ext hx0 hh) h0 (by omega)).mono ?_
  rintro e w1 ⟨rfl, ho, hm⟩
  go_wp2
  go_ret
  exact ⟨rfl, ho, (Touch.of_ext hx0).trans (Touch.of_marked hm)⟩

theorem heldGroup_any (t : List (List Int)) (v : Value) (k : Int) (w : World) (hv : RowsR w v (markTo t k t.length)) (hs : Small t) (h0 : 0 ≤ k) (h1 : k ≤ 562949953421312) :
    Calls Try.prog 25 #[.agg #[v], .int .i64 k] w fun e w' => e = .returned (.int .i64 (k + total t)) ∧ Ext w w' := by
  obtain ⟨a1, c1, rfl, h2⟩ := id hv
  clear h2
  rw [length_markTo] at hv ⊢
  have hx0 := ext_box w (.slice a1 t.length c1) 37
  have ht := total_nonneg t
  go_enter Try.func25, Try.ntmps25
  go_wp2_with fail
  refine (heldInt64SS_any t _ _ _ (hv.ext hx0) hs h0 (by omega)).mono ?_
  rintro e w1 ⟨rfl, hx1⟩
  go_wp2
  go_ret
  exact ⟨rfl, hx0.trans hx1.ext⟩

/-- what a size says: below 0, or all is small -/
def SzPostE (t : List (List Int)) (k : Int) (w : World) (e : Ending) (w' : World) : Prop :=
  ∃ r : Int, e = .returned (.int .i64 r) ∧ -1 ≤ r ∧ r ≤ k ∧ (0 ≤ r → Small t) ∧ Ext w w'
theorem szGroup_any (t : List (List Int)) (v : Value) (k : Int) (w : World) (hv : RowsR w v t) (hl : t.length ≤ maxLen) (hr : ∀ i, (row t i).length ≤ maxLen) (h0 : 0 ≤ k) (h1 : k ≤ 1048576) :
    Calls Try.prog 31 #[.agg #[v], .int .i64 k] w (SzPostE t k w) := by
  obtain ⟨a1, c1, rfl, h2⟩ := id hv
  clear h2
  have HR := Lib.hid hr
  clear hr
  have hx0 := ext_box w (.slice a1 t.length c1) 51
  go_enter Try.func31, Try.ntmps31
  go_wp2_with fail
  refine (szInt64SS_any t _ _ _ (hv.ext hx0) hl HR.out h0 (by omega)).mono ?_
  rintro e w1 ⟨r, rfl, g1, g2, g3, rfl⟩
  have G3 := Lib.hid g3
  clear g3
  by_cases hr : r < 0
  · go_wp2
    go_ret
    exact ⟨-1, rfl, by omega, by omega, by omega, hx0⟩
  · go_wp2
    go_ret
    exact ⟨r, rfl, by omega, by omega, G3.out, hx0⟩

/-- a new struct of one table is returned -/
def NewG (t : List (List Int)) (w : World) (e : Ending) (w' : World) : Prop :=
  ∃ b c, e = .returned (.agg #[.slice (some ⟨b, 0, none⟩) t.length c]) ∧ OwnT w.heap.size w'.heap.size w' b 0 t ∧ Ext w w'
theorem toGroup_any (t : List (List Int)) (v : Value) (w : World) (hv : RowsR w v t) (hs : Small t) :
    Calls Try.prog 33 #[.agg #[v]] w (NewG t w) := by
  obtain ⟨a1, c1, rfl, h2⟩ := id hv
  clear h2
  go_enter Try.func33, Try.ntmps33
  go_wp2_with fail
  have hx0 : Ext w (((w.alloc (Obj.cells #[Value.slice a1 t.length c1] 51)).alloc (Obj.cells #[Value.slice none 0 0] 37)).alloc (Obj.cells #[Value.slice none 0 0] 37)) := (((Ext.refl _).alloc _).alloc _).alloc _
  refine (toInt64SS_any t _ _ (hv.ext hx0) hs).mono ?_
  rintro e w1 ⟨b, c, rfl, ho, hx1⟩
  have f1 := hx1.cell (p := ⟨w.heap.size + 1 + 1, 0, none⟩) (v := .slice none 0 0) (by simp [go_sem])
  have f2 := hx1.free (p := ⟨w.heap.size + 1 + 1, 0, none⟩) (by simp [go_sem]) (by simp)
  have f3 := hx1.cell (p := ⟨w.heap.size + 1, 0, none⟩) (v := .slice none 0 0) (by simp [go_sem])
  have f4 := hx1.free (p := ⟨w.heap.size + 1, 0, none⟩) (by simp [go_sem]) (by simp)
  go_wp2
  refine bodyPost_ret (v := .agg #[.slice (some ⟨b, 0, none⟩) t.length c]) (by simp [results, Try.results33, go_sem, f3]) rfl ⟨b, c, rfl, ?_, ((hx0.trans hx1).setNew (by simp; omega) _).setNew (by simp) _⟩
  have hsz := hx1.size
  simp at hsz
  exact (((ho.setOther (.inl (by simp)) _).setOther (.inl (by simp)) _).mono (by simp; omega) (by simp))
end Go.Proofs.Ytjhfieegkgndfaa

/-
  Contracts of the laws' own helpers, in the form in which the laws use them.
-/
namespace Go.Proofs.Ytjhfieegkgndfaa
set_option linter.unusedVariables false
set_option linter.unusedSimpArgs false
open Go.RowKit

theorem OwnV.small {lo hi : Nat} {w : World} {v : Value} {t : List (List Int)} (h : OwnV lo hi w v t) : Small t := h.1
theorem OwnIV.small {lo hi : Nat} {w : World} {v : Value} {l : List Int} (h : OwnIV lo hi w v l) : l.length ≤ 1048576 := h.1

theorem toGroup_new (t : List (List Int)) (v : Value) (w : World) (hv : RowsR w v t) (hs : Small t) :
    Calls Try.prog 33 #[.agg #[v]] w fun e w' => ∃ u, e = .returned (.agg #[u]) ∧ OwnV w.heap.size w'.heap.size w' u t ∧ Rows w' u t ∧ Ext w w' :=
  (toGroup_any t v w hv hs).mono fun _ _ ⟨b, c, h1, h2, h3⟩ => ⟨_, h1, h2.v hs c, (h2.rowsAt hs).rows hs.1 c, h3⟩
end Go.Proofs.Ytjhfieegkgndfaa

/-
  Contracts of the laws' own helpers at braces.
-/
namespace Go.Proofs.Ytjhfieegkgndfaa
set_option linter.unusedVariables false
set_option linter.unusedSimpArgs false
open Go.RowKit

/-- two slices hold two tables -/
def RowsB (w : World) (v y : Value) (t u : List (List Int)) : Prop := RowsR w v t ∧ RowsR w y u
theorem RowsB.ext {w w' : World} {v y : Value} {t u : List (List Int)} (h : RowsB w v y t u) (hx : Ext w w') : RowsB w' v y t u := ⟨h.1.ext hx, h.2.ext hx⟩
/-- two tables of the call's own, apart from each other -/
def OwnB (lo hi : Nat) (w : World) (v y : Value) (t u : List (List Int)) : Prop :=
  ∃ a b c d : Nat, lo ≤ a ∧ b ≤ hi ∧ lo ≤ c ∧ d ≤ hi ∧ (b ≤ c ∨ d ≤ a) ∧ OwnV a b w v t ∧ OwnV c d w y u
theorem OwnB.toR {lo hi : Nat} {w : World} {v y : Value} {t u : List (List Int)} (h : OwnB lo hi w v y t u) : RowsR w v t ∧ RowsR w y u := by
  obtain ⟨a, b, c, d, -, -, -, -, -, h1, h2⟩ := h
  exact ⟨h1.toR, h2.toR⟩
theorem OwnB.small {lo hi : Nat} {w : World} {v y : Value} {t u : List (List Int)} (h : OwnB lo hi w v y t u) : Small t ∧ Small u := by
  obtain ⟨a, b, c, d, -, -, -, -, -, h1, h2⟩ := h
  exact ⟨h1.1, h2.1⟩
theorem OwnB.open {lo hi : Nat} {w : World} {v y : Value} {t u : List (List Int)} (h : OwnB lo hi w v y t u) :
    (Small t ∧ ∃ a c, v = .slice a t.length c ∧ True) ∧ (Small u ∧ ∃ a c, y = .slice a u.length c ∧ True) := by
  obtain ⟨a, b, c, d, -, -, -, -, -, ⟨h1, a1, c1, rfl, -⟩, ⟨h2, a2, c2, rfl, -⟩⟩ := h
  exact ⟨⟨h1, a1, c1, rfl, trivial⟩, ⟨h2, a2, c2, rfl, trivial⟩⟩
theorem OwnB.keep {lo hi : Nat} {w w' : World} {v y : Value} {t u : List (List Int)} (h : OwnB lo hi w v y t u) (e : ∀ k, lo ≤ k → k < hi → w'.heap[k]? = w.heap[k]?) : OwnB lo hi w' v y t u := by
  obtain ⟨a, b, c, d, k1, k2, k3, k4, k5, h1, h2⟩ := h
  exact ⟨a, b, c, d, k1, k2, k3, k4, k5, h1.keep fun k q1 q2 => e k (by omega) (by omega), h2.keep fun k q1 q2 => e k (by omega) (by omega)⟩
theorem OwnB.ext {lo hi : Nat} {w w' : World} {v y : Value} {t u : List (List Int)} (h : OwnB lo hi w v y t u) (hx : Ext w w') (hh : hi ≤ w.heap.size) : OwnB lo hi w' v y t u := h.keep fun k _ hk => hx.block k (by omega)
theorem OwnB.touch {lo hi lo' hi' : Nat} {w w' : World} {v y : Value} {t u : List (List Int)} (h : OwnB lo hi w v y t u) (m : Touch lo' hi' w w') (hd : hi ≤ lo' ∨ hi' ≤ lo) (hw : hi ≤ w.heap.size) : OwnB lo hi w' v y t u :=
  h.keep fun k h1 h2 => m.block k (by omega) (by omega)
theorem OwnB.mono {lo hi lo' hi' : Nat} {w : World} {v y : Value} {t u : List (List Int)} (h : OwnB lo hi w v y t u) (h1 : lo' ≤ lo) (h2 : hi ≤ hi') : OwnB lo' hi' w v y t u := by
  obtain ⟨a, b, c, d, k1, k2, k3, k4, k5, g1, g2⟩ := h
  exact ⟨a, b, c, d, by omega, by omega, by omega, by omega, k5, g1, g2⟩
theorem OwnB.nil (lo hi : Nat) (w : World) (h : lo ≤ hi) : OwnB lo hi w (.slice none 0 0) (.slice none 0 0) [] [] := ⟨lo, lo, lo, lo, by omega, by omega, by omega, by omega, by omega, OwnV.nil _ _ _, OwnV.nil _ _ _⟩
theorem RowsB.nil (w : World) (c d : Nat) : RowsB w (.slice none 0 c) (.slice none 0 d) [] [] := ⟨RowsR.nil _ _, RowsR.nil _ _⟩

/-- a struct of two tables and a code are returned (reference) -/
def RetB (t u : List (List Int)) (c : Int) (w : World) (e : Ending) (w' : World) : Prop := ∃ v y, e = .returned (.tuple #[.agg #[v, y], .int .i64 c]) ∧ RowsB w' v y t u ∧ Ext w w'
/-- a struct of two tables, in new memory, and a code are returned (program) -/
def NewBC (t u : List (List Int)) (c : Int) (w : World) (e : Ending) (w' : World) : Prop := ∃ v y, e = .returned (.tuple #[.agg #[v, y], .int .i64 c]) ∧ OwnB w.heap.size w'.heap.size w' v y t u ∧ Ext w w'

theorem cell_new2a (w : World) (v u : Value) (T : Nat) : (w.alloc (.cells #[v, u] T)).cell? ⟨w.heap.size, 0, none⟩ = some v := by simp [go_sem]
theorem cell_new2b (w : World) (v u : Value) (T : Nat) : (w.alloc (.cells #[v, u] T)).cell? ⟨w.heap.size, 1, none⟩ = some u := by simp [go_sem]
theorem ext_boxB (w : World) (v u : Value) (T : Nat) : Ext w (w.alloc (.cells #[v, u] T)) := (Ext.refl _).alloc _

theorem eqBrace_any (s s' t t' : List (List Int)) (v v' u u' : Value) (w : World) (hv : RowsR w v s) (hv' : RowsR w v' s') (hu : RowsR w u t) (hu' : RowsR w u' t') (hs : Small s) (hs' : Small s') :
    Calls Try.prog 10 #[.agg #[v, v'], .agg #[u, u']] w fun e w' => e = .returned (.bool (eqTB s t && eqTB s' t')) ∧ Ext w w' := by
  obtain ⟨a1, c1, rfl, -⟩ := id hv
  obtain ⟨a2, c2, rfl, -⟩ := id hu
  obtain ⟨a3, c3, rfl, -⟩ := id hv'
  obtain ⟨a4, c4, rfl, -⟩ := id hu'
  have hx0 : Ext w ((w.alloc (.cells #[.slice a1 s.length c1, .slice a3 s'.length c3] 24)).alloc (.cells #[.slice a2 t.length c2, .slice a4 t'.length c4] 24)) := ((Ext.refl _).alloc _).alloc _
  have b0 : ((w.alloc (.cells #[.slice a1 s.length c1, .slice a3 s'.length c3] 24)).alloc (.cells #[.slice a2 t.length c2, .slice a4 t'.length c4] 24)).cell? ⟨w.heap.size, 1, none⟩ = some (.slice a3 s'.length c3) := by simp [go_sem]
  have b1 : ((w.alloc (.cells #[.slice a1 s.length c1, .slice a3 s'.length c3] 24)).alloc (.cells #[.slice a2 t.length c2, .slice a4 t'.length c4] 24)).cell? ⟨w.heap.size + 1, 1, none⟩ = some (.slice a4 t'.length c4) := by simp [go_sem]
  cases he : eqTB s t with
  | true =>
    go_enter Try.func10, Try.ntmps10
    go_wp2_with fail
    generalize (w.alloc (.cells #[.slice a1 s.length c1, .slice a3 s'.length c3] 24)).alloc (.cells #[.slice a2 t.length c2, .slice a4 t'.length c4] 24) = A at *
    refine (eqInt64SS_any s t _ _ _ (hv.ext hx0) (hu.ext hx0) hs).mono ?_
    rintro e w1 ⟨rfl, hd⟩
    have hx1 := hd.ext
    have b2 := hx1.cell b0
    have b3 := hx1.cell b1
    rw [he]
    have hX := hx0.trans hx1
    cases he' : eqTB s' t' with
    | true =>
      go_wp2_with fail
      refine (eqInt64SS_any s' t' _ _ _ (hv'.ext hX) (hu'.ext hX) hs').mono ?_
      rintro e w2 ⟨rfl, hd2⟩
      rw [he']
      go_wp2
      go_ret
      exact ⟨ret_bool (by rw [he']; rfl), hX.trans hd2.ext⟩
    | false =>
      go_wp2_with fail
      refine (eqInt64SS_any s' t' _ _ _ (hv'.ext hX) (hu'.ext hX) hs').mono ?_
      rintro e w2 ⟨rfl, hd2⟩
      rw [he']
      go_wp2
      go_ret
      exact ⟨ret_bool (by rw [he']; rfl), hX.trans hd2.ext⟩
  | false =>
    go_enter Try.func10, Try.ntmps10
    go_wp2_with fail
    refine (eqInt64SS_any s t _ _ _ (hv.ext hx0) (hu.ext hx0) hs).mono ?_
    rintro e w1 ⟨rfl, hx1⟩
    rw [he]
    go_wp2
    go_ret
    exact ⟨rfl, hx0.trans hx1.ext⟩

theorem markBrace_any (lo hi : Nat) (t u : List (List Int)) (v y : Value) (k : Int) (w : World) (hv : OwnB lo hi w v y t u) (hh : hi ≤ w.heap.size) (h0 : 0 ≤ k) (h1 : k ≤ 281474976710656) :
    Calls Try.prog 11 #[.agg #[v, y], .int .i64 k] w fun e w' => e = .returned (.int .i64 (k + total t + total u)) ∧ OwnB lo hi w' v y (markTo t k t.length) (markTo u (k + total t) u.length) ∧ Touch lo hi w w' := by
  obtain ⟨⟨hs, a1, c1, rfl, -⟩, ⟨hs', a2, c2, rfl, -⟩⟩ := hv.open
  have hx0 := ext_boxB w (.slice a1 t.length c1) (.slice a2 u.length c2) 24
  have b0 := cell_new2b w (.slice a1 t.length c1) (.slice a2 u.length c2) 24
  have ht := total_nonneg t
  have htl := total_le t hs
  have hu := total_nonneg u
  have hul := total_le u hs'
  obtain ⟨a, b, c, d, k1, k2, k3, k4, k5, g1, g2⟩ := hv
  go_enter Try.func11, Try.ntmps11
  go_wp2_with fail
  generalize (w.alloc (.cells #[.slice a1 t.length c1, .slice a2 u.length c2] 24)) = A at *
  refine (markInt64SS_any a b t _ _ _ (g1.ext hx0 (by omega)) h0 (by omega)).mono ?_
  rintro e w1 ⟨rfl, ho, hm⟩
  have b1 := (Touch.of_marked hm).cell b0 (by simp only []; omega)
  have g3 := (g2.ext hx0 (by omega)).touch (Touch.of_marked hm) (by omega) (by have := hx0.size; omega)
  go_wp2_with fail
  refine (markInt64SS_any c d u _ _ _ g3 (by omega) (by omega)).mono ?_
  rintro e w2 ⟨rfl, ho2, hm2⟩
  go_wp2
  go_ret
  exact ⟨rfl, ⟨a, b, c, d, k1, k2, k3, k4, k5, ho.touch (Touch.of_marked hm2) (by omega) (by have := hx0.size; have := hm.size; omega), ho2⟩,
    ((Touch.of_ext hx0).trans ((Touch.of_marked hm).mono k1 k2)).trans ((Touch.of_marked hm2).mono k3 k4)⟩

theorem heldBrace_any (t u : List (List Int)) (v y : Value) (k : Int) (w : World) (hv : RowsR w v (markTo t k t.length)) (hy : RowsR w y (markTo u (k + total t) u.length)) (hs : Small t) (hs' : Small u) (h0 : 0 ≤ k) (h1 : k ≤ 281474976710656) :
    Calls Try.prog 12 #[.agg #[v, y], .int .i64 k] w fun e w' => e = .returned (.int .i64 (k + total t + total u)) ∧ Ext w w' := by
  obtain ⟨a1, c1, rfl, -⟩ := id hv
  obtain ⟨a2, c2, rfl, -⟩ := id hy
  have hl := length_markTo t k t.length
  have hl' := length_markTo u (k + total t) u.length
  rw [hl] at hv ⊢
  rw [hl'] at hy ⊢
  clear hl hl'
  have hx0 := ext_boxB w (.slice a1 t.length c1) (.slice a2 u.length c2) 24
  have b0 := cell_new2b w (.slice a1 t.length c1) (.slice a2 u.length c2) 24
  have ht := total_nonneg t
  have htl := total_le t hs
  have hu := total_nonneg u
  have hul := total_le u hs'
  go_enter Try.func12, Try.ntmps12
  go_wp2_with fail
  generalize (w.alloc (.cells #[.slice a1 t.length c1, .slice a2 u.length c2] 24)) = A at *
  refine (heldInt64SS_any t _ _ _ (hv.ext hx0) hs h0 (by omega)).mono ?_
  rintro e w1 ⟨rfl, hd1⟩
  have hx1 := hd1.ext
  have b1 := hx1.cell b0
  clear b0
  go_wp2_with fail
  refine (heldInt64SS_any u _ _ _ (hy.ext (hx0.trans hx1)) hs' (by omega) (by omega)).mono ?_
  rintro e w2 ⟨rfl, hd2⟩
  go_wp2
  go_ret
  exact ⟨rfl, (hx0.trans hx1).trans hd2.ext⟩

/-- what a size says: below 0, or all is small -/
def SzPostB (t u : List (List Int)) (k : Int) (w : World) (e : Ending) (w' : World) : Prop :=
  ∃ r : Int, e = .returned (.int .i64 r) ∧ -1 ≤ r ∧ r ≤ k ∧ (0 ≤ r → Small t ∧ Small u) ∧ Ext w w'

theorem szBrace_any (t u : List (List Int)) (v y : Value) (k : Int) (w : World) (hv : RowsR w v t) (hy : RowsR w y u) (hl : t.length ≤ maxLen) (hr : ∀ i, (row t i).length ≤ maxLen) (hl' : u.length ≤ maxLen) (hr' : ∀ i, (row u i).length ≤ maxLen) (h0 : 0 ≤ k) (h1 : k ≤ 1048576) :
    Calls Try.prog 13 #[.agg #[v, y], .int .i64 k] w (SzPostB t u k w) := by
  obtain ⟨a1, c1, rfl, -⟩ := id hv
  obtain ⟨a2, c2, rfl, -⟩ := id hy
  have HR := Lib.hid hr
  have HR' := Lib.hid hr'
  clear hr hr'
  have hx0 := ext_boxB w (.slice a1 t.length c1) (.slice a2 u.length c2) 30
  have b0 := cell_new2b w (.slice a1 t.length c1) (.slice a2 u.length c2) 30
  go_enter Try.func13, Try.ntmps13
  go_wp2_with fail
  generalize (w.alloc (.cells #[.slice a1 t.length c1, .slice a2 u.length c2] 30)) = A at *
  refine (szInt64SS_any t _ _ _ (hv.ext hx0) hl HR.out h0 (by omega)).mono ?_
  rintro e w1 ⟨r, rfl, g1, g2, g3, rfl⟩
  have G3 := Lib.hid g3
  clear g3
  by_cases hr : r < 0
  · go_wp2
    go_ret
    exact ⟨-1, rfl, by omega, by omega, by omega, hx0⟩
  · go_wp2_with fail
    refine (szInt64SS_any u _ _ _ (hy.ext hx0) hl' HR'.out (by omega) (by omega)).mono ?_
    rintro e w2 ⟨q, rfl, p1, p2, p3, rfl⟩
    have P3 := Lib.hid p3
    clear p3
    by_cases hq : q < 0
    · go_wp2
      go_ret
      exact ⟨-1, rfl, by omega, by omega, by omega, hx0⟩
    · go_wp2
      go_ret
      exact ⟨q, rfl, by omega, by omega, fun h => ⟨G3.out (by omega), P3.out h⟩, hx0⟩

theorem toBrace_new (t u : List (List Int)) (v y : Value) (w : World) (hv : RowsR w v t) (hy : RowsR w y u) (hs : Small t) (hs' : Small u) :
    Calls Try.prog 15 #[.agg #[v, y]] w fun e w' => ∃ v y, e = .returned (.agg #[v, y]) ∧ OwnB w.heap.size w'.heap.size w' v y t u ∧ Rows w' v t ∧ Rows w' y u ∧ Ext w w' := by
  obtain ⟨a1, c1, rfl, -⟩ := id hv
  obtain ⟨a2, c2, rfl, -⟩ := id hy
  have hx0 : Ext w (((w.alloc (.cells #[.slice a1 t.length c1, .slice a2 u.length c2] 30)).alloc (.cells #[.slice none 0 0, .slice none 0 0] 24)).alloc (.cells #[.slice none 0 0, .slice none 0 0] 24)) := (((Ext.refl _).alloc _).alloc _).alloc _
  have z0 : w.heap.size + 3 = (((w.alloc (.cells #[.slice a1 t.length c1, .slice a2 u.length c2] 30)).alloc (.cells #[.slice none 0 0, .slice none 0 0] 24)).alloc (.cells #[.slice none 0 0, .slice none 0 0] 24)).heap.size := by simp
  have b1 : (((w.alloc (.cells #[.slice a1 t.length c1, .slice a2 u.length c2] 30)).alloc (.cells #[.slice none 0 0, .slice none 0 0] 24)).alloc (.cells #[.slice none 0 0, .slice none 0 0] 24)).cell? ⟨w.heap.size, 1, none⟩ = some (.slice a2 u.length c2) := by simp [go_sem]
  have m0 : (((w.alloc (.cells #[.slice a1 t.length c1, .slice a2 u.length c2] 30)).alloc (.cells #[.slice none 0 0, .slice none 0 0] 24)).alloc (.cells #[.slice none 0 0, .slice none 0 0] 24)).cell? ⟨w.heap.size + 1, 0, none⟩ = some (.slice none 0 0) := by simp [go_sem]
  have m1 : (((w.alloc (.cells #[.slice a1 t.length c1, .slice a2 u.length c2] 30)).alloc (.cells #[.slice none 0 0, .slice none 0 0] 24)).alloc (.cells #[.slice none 0 0, .slice none 0 0] 24)).cell? ⟨w.heap.size + 1, 1, none⟩ = some (.slice none 0 0) := by simp [go_sem]
  have q0 : (((w.alloc (.cells #[.slice a1 t.length c1, .slice a2 u.length c2] 30)).alloc (.cells #[.slice none 0 0, .slice none 0 0] 24)).alloc (.cells #[.slice none 0 0, .slice none 0 0] 24)).frozen? ⟨w.heap.size + 1, 0, none⟩ = false := by simp [go_sem]
  have q1 : (((w.alloc (.cells #[.slice a1 t.length c1, .slice a2 u.length c2] 30)).alloc (.cells #[.slice none 0 0, .slice none 0 0] 24)).alloc (.cells #[.slice none 0 0, .slice none 0 0] 24)).frozen? ⟨w.heap.size + 1, 1, none⟩ = false := by simp [go_sem]
  have n0 : (((w.alloc (.cells #[.slice a1 t.length c1, .slice a2 u.length c2] 30)).alloc (.cells #[.slice none 0 0, .slice none 0 0] 24)).alloc (.cells #[.slice none 0 0, .slice none 0 0] 24)).cell? ⟨w.heap.size + 1 + 1, 0, none⟩ = some (.slice none 0 0) := by simp [go_sem]
  have n1 : (((w.alloc (.cells #[.slice a1 t.length c1, .slice a2 u.length c2] 30)).alloc (.cells #[.slice none 0 0, .slice none 0 0] 24)).alloc (.cells #[.slice none 0 0, .slice none 0 0] 24)).cell? ⟨w.heap.size + 1 + 1, 1, none⟩ = some (.slice none 0 0) := by simp [go_sem]
  have p0 : (((w.alloc (.cells #[.slice a1 t.length c1, .slice a2 u.length c2] 30)).alloc (.cells #[.slice none 0 0, .slice none 0 0] 24)).alloc (.cells #[.slice none 0 0, .slice none 0 0] 24)).frozen? ⟨w.heap.size + 1 + 1, 0, none⟩ = false := by simp [go_sem]
  have p1 : (((w.alloc (.cells #[.slice a1 t.length c1, .slice a2 u.length c2] 30)).alloc (.cells #[.slice none 0 0, .slice none 0 0] 24)).alloc (.cells #[.slice none 0 0, .slice none 0 0] 24)).frozen? ⟨w.heap.size + 1 + 1, 1, none⟩ = false := by simp [go_sem]
  go_enter Try.func15, Try.ntmps15
  go_wp2_with fail
  generalize (((w.alloc (.cells #[.slice a1 t.length c1, .slice a2 u.length c2] 30)).alloc (.cells #[.slice none 0 0, .slice none 0 0] 24)).alloc (.cells #[.slice none 0 0, .slice none 0 0] 24)) = A at *
  refine (toInt64SS_any t _ _ (hv.ext hx0) hs).mono ?_
  rintro e w1 ⟨b, c, rfl, ho, hx1⟩
  have hX1 := hx0.trans hx1
  have zz1 := hx1.size
  replace b1 := hx1.cell b1
  replace m0 := hx1.cell m0
  replace m1 := hx1.cell m1
  replace n0 := hx1.cell n0
  replace n1 := hx1.cell n1
  replace q0 := hx1.free q0 (by simp only []; omega)
  replace q1 := hx1.free q1 (by simp only []; omega)
  replace p0 := hx1.free p0 (by simp only []; omega)
  replace p1 := hx1.free p1 (by simp only []; omega)
  have hxs : Ext w (w1.setCell ⟨w.heap.size + 1 + 1, 0, none⟩ (.slice (some ⟨b, 0, none⟩) t.length c)) := hX1.setNew (by simp only []; omega) _
  have hos := ho.setOther (a := ⟨w.heap.size + 1 + 1, 0, none⟩) (.inl (by simp only []; omega)) (.slice (some ⟨b, 0, none⟩) t.length c)
  have hzs : (w1.setCell ⟨w.heap.size + 1 + 1, 0, none⟩ (.slice (some ⟨b, 0, none⟩) t.length c)).heap.size = w1.heap.size := by simp
  have s0 := World.cell?_setCell_same w1 ⟨w.heap.size + 1 + 1, 0, none⟩ (.slice (some ⟨b, 0, none⟩) t.length c) n0
  have s1 : (w1.setCell ⟨w.heap.size + 1 + 1, 0, none⟩ (.slice (some ⟨b, 0, none⟩) t.length c)).cell? ⟨w.heap.size + 1 + 1, 1, none⟩ = some (.slice none 0 0) := by rw [World.cell?_setCell_other _ _ _ _ (by simp)]; exact n1
  have s2 : (w1.setCell ⟨w.heap.size + 1 + 1, 0, none⟩ (.slice (some ⟨b, 0, none⟩) t.length c)).cell? ⟨w.heap.size, 1, none⟩ = some (.slice a2 u.length c2) := by rw [World.cell?_setCell_other _ _ _ _ (by simp)]; exact b1
  have s3 : (w1.setCell ⟨w.heap.size + 1 + 1, 0, none⟩ (.slice (some ⟨b, 0, none⟩) t.length c)).cell? ⟨w.heap.size + 1, 0, none⟩ = some (.slice none 0 0) := by rw [World.cell?_setCell_other _ _ _ _ (by simp)]; exact m0
  have s4 : (w1.setCell ⟨w.heap.size + 1 + 1, 0, none⟩ (.slice (some ⟨b, 0, none⟩) t.length c)).cell? ⟨w.heap.size + 1, 1, none⟩ = some (.slice none 0 0) := by rw [World.cell?_setCell_other _ _ _ _ (by simp)]; exact m1
  have s5 : (w1.setCell ⟨w.heap.size + 1 + 1, 0, none⟩ (.slice (some ⟨b, 0, none⟩) t.length c)).frozen? ⟨w.heap.size + 1 + 1, 1, none⟩ = false := by rw [World.frozen?_setCell]; exact p1
  have s6 : (w1.setCell ⟨w.heap.size + 1 + 1, 0, none⟩ (.slice (some ⟨b, 0, none⟩) t.length c)).frozen? ⟨w.heap.size + 1, 0, none⟩ = false := by rw [World.frozen?_setCell]; exact q0
  have s7 : (w1.setCell ⟨w.heap.size + 1 + 1, 0, none⟩ (.slice (some ⟨b, 0, none⟩) t.length c)).frozen? ⟨w.heap.size + 1, 1, none⟩ = false := by rw [World.frozen?_setCell]; exact q1
  clear b1 m0 m1 q0 q1 n1 p1 ho
  go_wp2_with fail
  generalize w1.setCell ⟨w.heap.size + 1 + 1, 0, none⟩ (.slice (some ⟨b, 0, none⟩) t.length c) = W2 at *
  refine (toInt64SS_any u _ _ (hy.ext hxs) hs').mono ?_
  rintro e w3 ⟨b3, c3, rfl, ho3, hx3⟩
  have zz3 := hx3.size
  replace s0 := hx3.cell s0
  replace s1 := hx3.cell s1
  replace s3 := hx3.cell s3
  replace s4 := hx3.cell s4
  replace s5 := hx3.free s5 (by simp only []; omega)
  replace s6 := hx3.free s6 (by simp only []; omega)
  replace s7 := hx3.free s7 (by simp only []; omega)
  have k1 : OwnV A.heap.size w1.heap.size w3 (.slice (some ⟨b, 0, none⟩) t.length c) t := OwnV.ext (hos.v hs c) hx3 (by omega)
  have k3 : OwnV w1.heap.size w3.heap.size w3 (.slice (some ⟨b3, 0, none⟩) u.length c3) u := (ho3.v hs' c3).mono (by omega) (Nat.le_refl _)
  go_wp2
  have key : ∀ W : World, W.heap.size = w3.heap.size → (∀ k, A.heap.size ≤ k → W.heap[k]? = w3.heap[k]?) → OwnB w.heap.size W.heap.size W (.slice (some ⟨b, 0, none⟩) t.length c) (.slice (some ⟨b3, 0, none⟩) u.length c3) t u ∧ Rows W (.slice (some ⟨b, 0, none⟩) t.length c) t ∧ Rows W (.slice (some ⟨b3, 0, none⟩) u.length c3) u := by
    intro W hW hk
    have j1 := k1.keep (w' := W) fun k q1 _ => hk k q1
    have j3 := k3.keep (w' := W) fun k q1 _ => hk k (by omega)
    have r1 := (hos.keep (w' := W) fun k q1 q2 => (hk k q1).trans (hx3.block k (by omega))).rowsAt hs
    have r3 := (ho3.keep (w' := W) fun k q1 q2 => hk k (by omega)).rowsAt hs'
    exact ⟨⟨A.heap.size, w1.heap.size, w1.heap.size, w3.heap.size, by omega, by omega, by omega, by omega, by omega, j1, j3⟩, r1.rows hs.1 c, r3.rows hs'.1 c3⟩
  refine bodyPost_ret (v := .agg #[.slice (some ⟨b, 0, none⟩) t.length c, .slice (some ⟨b3, 0, none⟩) u.length c3]) (by simp [results, Try.results15, go_sem, s3, s4]) rfl ⟨_, _, rfl, ?_⟩
  obtain ⟨e1, e2, e3⟩ := key (((w3.setCell ⟨w.heap.size + 1 + 1, 1, none⟩ (.slice (some ⟨b3, 0, none⟩) u.length c3)).setCell ⟨w.heap.size + 1, 0, none⟩ (.slice (some ⟨b, 0, none⟩) t.length c)).setCell ⟨w.heap.size + 1, 1, none⟩ (.slice (some ⟨b3, 0, none⟩) u.length c3)) (by simp) (fun k hk => by
    rw [Below.heap_setCell _ _ _ _ (by simp only []; omega), Below.heap_setCell _ _ _ _ (by simp only []; omega), Below.heap_setCell _ _ _ _ (by simp only []; omega)])
  exact ⟨e1, e2, e3, (((hxs.trans hx3).setNew (by simp only []; omega) _).setNew (by simp only []; omega) _).setNew (by simp only []; omega) _⟩

theorem rows_set2 {w : World} {v : Value} {t : List (List Int)} (h : Rows w v t) {B : Nat} (h0 : w.cell? ⟨B, 0, none⟩ = some (.slice none 0 0)) (h1 : w.cell? ⟨B, 1, none⟩ = some (.slice none 0 0)) (p q : Value) :
    Rows ((w.setCell ⟨B, 0, none⟩ p).setCell ⟨B, 1, none⟩ q) v t :=
  (h.setNil h0 p).setNil (by rw [World.cell?_setCell_other _ _ _ _ (by simp)]; exact h1) q
theorem OwnV.set2 {lo hi : Nat} {w : World} {v : Value} {t : List (List Int)} (h : OwnV lo hi w v t) {B : Nat} (hB : B < lo) (p q : Value) :
    OwnV lo hi ((w.setCell ⟨B, 0, none⟩ p).setCell ⟨B, 1, none⟩ q) v t :=
  h.keep fun k h1 h2 => by rw [Below.heap_setCell _ _ _ _ (by simp only []; omega), Below.heap_setCell _ _ _ _ (by simp only []; omega)]
end Go.Proofs.Ytjhfieegkgndfaa

/-
  Contracts: is it a table, by the reference and by the program.
-/
namespace Go.Proofs.Ytjhfieegkgndfaa
set_option linter.unusedVariables false
set_option linter.unusedSimpArgs false
open Go.RowKit

theorem l01Table_any (t : List (List Int)) (v : Value) (w : World) (hv : Rows w v t) :
    Calls Try.prog 92 #[v] w fun e w' => e = .returned (.bool (tableB t)) ∧ w = w' := by
  obtain ⟨hlen, b, o, c, rfl, hc⟩ := hv
  cases hin : inR t.length 1 12 with
  | false =>
    go_enter Try.func92, Try.ntmps92
    go_wp2_with (go_at_call 35; refine (l01In_any _ _ _ _).mono ?_; rintro e w' ⟨rfl, rfl⟩)
    go_ret
    have := inR_false.1 hin
    exact ⟨ret_bool (tableB_no (fun h => this ⟨by have := h.1; omega, by have := h.2.1; omega⟩)).symm, rfl⟩
  | true =>
    have hb := inR_iff.1 hin
    go_enter Try.func92, Try.ntmps92
    go_wp2_with (go_at_call 35; refine (l01In_any _ _ _ _).mono ?_; rintro e w' ⟨rfl, rfl⟩)
    clear hin
    go_loop [4] (fun x => ∃ k : Nat, k ≤ t.length ∧ x = .int .i64 k ∧ RowsOk t t.length k) (fun x => t.length - (intOf x).toNat)
    case atStart => exact ⟨0, Nat.zero_le _, rfl, RowsOk.zero _ _⟩
    case round =>
      obtain ⟨k, hk, rfl, hok⟩ := hrel
      by_cases hlt : k < t.length
      · obtain ⟨b1, o1, c1, hr, hc1, hrl⟩ := hc.get hlt
        by_cases hw : (row t k).length = t.length
        · go_wp2
          go_loop [5] (fun y => ∃ j : Nat, j ≤ t.length ∧ y = .int .i64 j ∧ RowTo t t.length k j) (fun y => t.length - (intOf y).toNat)
          case atStart => exact ⟨0, Nat.zero_le _, rfl, RowTo.zero _ _ _⟩
          case round =>
            obtain ⟨j, hj, rfl, hto⟩ := hrel
            by_cases hjl : j < t.length
            · have hcell := hc1.ent hw hjl
              cases hin : inR (ent t k j) 0 (t.length - 1) with
              | false =>
                go_wp2_with (go_at_call 35; refine (l01In_any _ _ _ _).mono ?_; rintro e w' ⟨rfl, rfl⟩)
                go_ret
                exact ⟨ret_bool (tableB_no (fun h => inR_false.1 hin ((h.2.2 k hlt).2 j hjl))).symm, rfl⟩
              | true =>
                go_wp2_with (go_at_call 35; refine (l01In_any _ _ _ _).mono ?_; rintro e w' ⟨rfl, rfl⟩)
                go_round
                case rel => exact ⟨j + 1, by omega, by go_num, hto.succ (inR_iff.1 hin)⟩
                case measure => simp [intOf]; omega
            · have hjn : t.length ≤ j := by omega
              go_wp2
              go_round
              case rel => exact ⟨k + 1, by omega, by go_num, hok.succ ⟨hw, hto.mono hjn⟩⟩
              case measure => simp [intOf]; omega
        · go_wp2
          go_ret
          exact ⟨ret_bool (tableB_no (fun h => hw (h.2.2 k hlt).1)).symm, rfl⟩
      · go_wp2
        go_ret
        exact ⟨ret_bool (tableB_yes ⟨by omega, by omega, hok.mono (by omega)⟩).symm, rfl⟩
end Go.Proofs.Ytjhfieegkgndfaa

/-
  Contracts of the reference: is it a permutation, is it the table of a group.
-/
namespace Go.Proofs.Ytjhfieegkgndfaa
set_option linter.unusedVariables false
set_option linter.unusedSimpArgs false
open Go.RowKit

theorem l01Perm_any (l : List Int) (v : Value) (w : World) (hv : Ints w v l) (h1 : 1 ≤ l.length) (h2 : l.length ≤ 12) :
    Calls Try.prog 74 #[v] w fun e w' => e = .returned (.bool (permB l)) ∧ w = w' := by
  have hin : inR l.length 1 12 = true := inR_iff.2 ⟨by omega, by omega⟩
  have hv' := hv
  obtain ⟨hlen, b, o, c, rfl, hc⟩ := hv
  clear hc
  go_enter Try.func74, Try.ntmps74
  go_wp2_with (go_at_call 35; refine (l01In_any _ _ _ _).mono ?_; rintro e w' ⟨rfl, rfl⟩)
  go_loop [4] (fun x => ∃ k : Nat, k ≤ l.length ∧ x = .int .i64 k ∧ HasTo l k) (fun x => l.length - (intOf x).toNat)
  case atStart => exact ⟨0, Nat.zero_le _, rfl, HasTo.zero _⟩
  case round =>
    obtain ⟨k, hk, rfl, hto⟩ := hrel
    by_cases hlt : k < l.length
    · cases hi : hasB l k with
      | true =>
        go_wp2_with (go_at_call 111; refine (l01Has_any l _ _ _ hv').mono ?_; rintro e w' ⟨rfl, rfl⟩)
        go_round
        case rel => exact ⟨k + 1, by omega, by go_num, hto.succ (hasB_iff.1 hi)⟩
        case measure => simp [intOf]; omega
      | false =>
        go_wp2_with (go_at_call 111; refine (l01Has_any l _ _ _ hv').mono ?_; rintro e w' ⟨rfl, rfl⟩)
        go_ret
        exact ⟨ret_bool (permB_no (fun h => hasB_no.1 hi ((permOk_iff_has l).1 h k hlt))).symm, rfl⟩
    · go_wp2
      go_ret
      exact ⟨ret_bool (permB_yes ((permOk_iff_has l).2 (hto.mono (by omega)))).symm, rfl⟩

set_option maxRecDepth 100000 in
theorem l10Is_any (t : List (List Int)) (v : Value) (w : World) (hv : Rows w v t) :
    Calls Try.prog 59 #[v] w fun e w' => e = .returned (.bool (groupB t)) ∧ Ext w w' := by
  by_cases hT : TableOk t
  case neg =>
    have hB := tableB_no hT
    go_enter Try.func59, Try.ntmps59
    go_wp2_with (go_at_call 92; refine (l01Table_any t _ _ hv).mono ?_; rintro e w' ⟨rfl, rfl⟩)
    go_ret
    exact ⟨ret_bool (groupB_no (fun h => hT h.1)).symm, Ext.refl _⟩
  case pos =>
    have hB := tableB_yes hT
    have hv' := hv
    obtain ⟨hlen, b, o, c, rfl, hc⟩ := hv
    have HT := Lib.hid hT
    have h1 := hT.1
    have h2 := hT.2.1
    clear hT
    go_enter Try.func59, Try.ntmps59
    go_wp2_with (go_at_call 92; refine (l01Table_any t _ _ hv').mono ?_; rintro e w' ⟨rfl, rfl⟩)
    clear hB
    go_loopw [3] (fun x wr => ∃ k : Nat, k ≤ t.length ∧ x = .int .i64 k ∧ PermRows t k ∧ UnitAssocTo t t.length k ∧ Ext w wr) (fun x _ => t.length - (intOf x).toNat)
    case atStart => exact ⟨0, Nat.zero_le _, rfl, PermRows.zero _, UnitAssocTo.zero _ _, Ext.refl _⟩
    case round =>
      obtain ⟨k, hk, rfl, hpr, hua, hx⟩ := hrel
      by_cases hlt : k < t.length
      case neg =>
        go_wp2
        go_ret
        exact ⟨ret_bool (groupB_yes ⟨HT.out, hpr.mono (by omega), hua.mono (by omega)⟩).symm, hx⟩
      case pos =>
        obtain ⟨b0, o0, c0, hr0, hc0, -⟩ := (hc.ext hx).head (by omega)
        obtain ⟨b1, o1, c1, hr, hc1, hl⟩ := (hc.ext hx).get hlt
        have hl0 := HT.out.len (x := 0) (by omega)
        have hl1 := HT.out.len hlt
        have e0 := hc0.ent hl0 hlt
        have e1 := hc1.ent0 hl1 (by omega)
        have hri' := hc1.ints hl c1
        rw [hl0] at hr0
        rw [hl1] at hr hri'
        clear hl0 hc0
        cases hu0 : (ent t 0 k != (k : Int)) with
        | true =>
          go_wp2
          go_ret
          exact ⟨ret_bool (groupB_no (fun h => absurd (h.2.2 k hlt).1.1 (by simpa using hu0))).symm, hx⟩
        | false =>
          cases hu1 : (ent t k 0 != (k : Int)) with
          | true =>
            go_wp2
            go_ret
            exact ⟨ret_bool (groupB_no (fun h => absurd (h.2.2 k hlt).1.2 (by simpa using hu1))).symm, hx⟩
          | false =>
            have hun : UnitAt t k := ⟨by simpa using hu0, by simpa using hu1⟩
            cases hp : permB (row t k) with
            | false =>
              go_wp2_with (go_at_call 74; refine (l01Perm_any (row t k) _ _ hri' (by omega) (by omega)).mono ?_; rintro e w' ⟨rfl, rfl⟩)
              go_ret
              exact ⟨ret_bool (groupB_no (fun h => absurd (permB_yes (h.2.1 k hlt)) (by rw [hp]; simp))).symm, hx⟩
            | true =>
              go_wp2_with (go_at_call 74; refine (l01Perm_any (row t k) _ _ hri' (by omega) (by omega)).mono ?_; rintro e w' ⟨rfl, rfl⟩)
              have hpk := permB_iff.1 hp
              clear hp hu0 hu1 e0 e1 hr0 hr hc1 hri'
              obtain ⟨w1, rfl⟩ : ∃ w1 : World, w1 = wr := ⟨_, rfl⟩
              go_loopw [4] (fun y wr => ∃ m : Nat, m ≤ t.length ∧ y = .int .i64 m ∧ AssocY t t.length k m ∧ Ext w wr) (fun y _ => t.length - (intOf y).toNat)
              case atStart => exact ⟨0, Nat.zero_le _, rfl, AssocY.zero _ _ _, hx⟩
              case round =>
                clear hx
                obtain ⟨m, hm, rfl, hay, hx⟩ := hrel
                by_cases hml : m < t.length
                case neg =>
                  go_wp2
                  go_roundw
                  case rel => exact ⟨k + 1, by omega, by go_num, hpr.succ hpk, hua.succ hun (hay.mono (by omega)), hx⟩
                  case measure => simp [intOf]; omega
                case pos =>
                  go_wp2
                  obtain ⟨w2, rfl⟩ : ∃ w1 : World, w1 = wr := ⟨_, rfl⟩
                  go_loopw [5] (fun z wr => ∃ j : Nat, j ≤ t.length ∧ z = .int .i64 j ∧ AssocTo t k m j ∧ Ext w wr) (fun z _ => t.length - (intOf z).toNat)
                  case atStart => exact ⟨0, Nat.zero_le _, rfl, AssocTo.zero _ _ _, hx⟩
                  case round =>
                    clear hx
                    obtain ⟨j, hj, rfl, hato, hx⟩ := hrel
                    by_cases hjl : j < t.length
                    case neg =>
                      go_wp2
                      go_roundw
                      case rel => exact ⟨m + 1, by omega, by go_num, hay.succ (hato.mono (by omega)), hx⟩
                      case measure => simp [intOf]; omega
                    case pos =>
                      have bxy := HT.out.bd hlt hml
                      have byz := HT.out.bd hml hjl
                      have hcw := hc.ext hx
                      obtain ⟨b1, o1, c1, hr, hc1, -⟩ := hcw.get hlt
                      obtain ⟨b2, o2, c2, hrm, hc2, -⟩ := hcw.get hml
                      obtain ⟨b3, o3, c3, hrx, hc3, -⟩ := hcw.get (i := (ent t k m).toNat) (by omega)
                      have f1 := hc1.ent hl1 hml
                      have f2 := hc2.ent (HT.out.len hml) hjl
                      have f3 := hc1.ent (y := (ent t m j).toNat) hl1 (by omega)
                      have f4 := hc3.ent (HT.out.len (by omega)) hjl
                      clear hc1 hc2 hc3 hcw
                      rw [HT.out.len hml] at hrm
                      rw [HT.out.len hlt] at hr
                      rw [HT.out.len (x := (ent t k m).toNat) (by omega)] at hrx
                      cases ha : (ent t (ent t k m).toNat j != ent t k (ent t m j).toNat) with
                      | true =>
                        go_wp2
                        go_quiet (fail)
                        go_wp2
                        go_ret
                        exact ⟨ret_bool (groupB_no (fun h => absurd ((h.2.2 k hlt).2 m hml j hjl) (by simpa using ha))).symm, hx.drewN _⟩
                      | false =>
                        go_wp2
                        go_quiet (fail)
                        go_wp2
                        go_roundw
                        case rel => exact ⟨j + 1, by omega, by go_num, hato.succ (by simpa using ha), hx.drewN _⟩
                        case measure => simp [intOf]; omega
end Go.Proofs.Ytjhfieegkgndfaa

/-
  Contracts of the program: is it a table, are the rows permutations, is it the table of a group.
-/
namespace Go.Proofs.Ytjhfieegkgndfaa
set_option linter.unusedVariables false
set_option linter.unusedSimpArgs false
open Go.RowKit

/-- all entries of l are in lo .. hi -/
theorem allWithin_any (l : List Int) (v : Value) (lo hi : Int) (w : World) (hv : Ints w v l) :
    Calls Try.prog 141 #[v, .int .i64 lo, .int .i64 hi] w fun e w' => e = .returned (.bool (allInB l lo hi)) ∧ w = w' := by
  obtain ⟨hlen, b, o, c, rfl, hc⟩ := hv
  go_enter Try.func141, Try.ntmps141
  go_wp2
  go_loop [11] (fun i => ∃ k : Nat, k ≤ l.length ∧ i = .int .i64 k ∧ AllInTo l lo hi k) (fun i => l.length - (intOf i).toNat)
  case atStart => exact ⟨0, Nat.zero_le _, rfl, AllInTo.zero _ _ _⟩
  case round =>
    obtain ⟨k, hk, rfl, hto⟩ := hrel
    by_cases hlt : k < l.length
    · have hcell := hc k hlt
      cases hin : inR (ix l k) lo hi with
      | true =>
        go_wp2_with (go_at_call 38; refine (within_any _ _ _ _).mono ?_; rintro e w' ⟨rfl, rfl⟩)
        go_round
        case rel => exact ⟨k + 1, by omega, by go_num, hto.succ (inR_iff.1 hin)⟩
        case measure => simp [intOf]; omega
      | false =>
        go_wp2_with (go_at_call 38; refine (within_any _ _ _ _).mono ?_; rintro e w' ⟨rfl, rfl⟩)
        go_ret
        exact ⟨ret_bool (allInB_no (fun h => inR_false.1 hin (h k hlt))).symm, rfl⟩
    · go_wp2
      go_ret
      exact ⟨ret_bool (allInB_yes (hto.mono (by omega))).symm, rfl⟩

theorem IndexFunc_any (t : List (List Int)) (p : List Int → Bool) (F : Nat) (cap : Array Value) (v : Value) (w : World) (hv : Rows w v t)
    (hcall : ∀ (args : Array Value) (w : World), (callFunc F args).run Try.prog w = .ok (.enter F args) w)
    (hf : ∀ w1 r i, Ext w w1 → i < t.length → Ints w1 r (row t i) → Calls Try.prog F (#[r] ++ cap) w1 fun e w' => e = .returned (.bool (p (row t i))) ∧ Ext w1 w') :
    Calls Try.prog 112 #[v, .func (.func F) #[] cap] w fun e w' => e = .returned (.int .i64 (findIx p t)) ∧ Ext w w' := by
  obtain ⟨hlen, b, o, c, rfl, hc⟩ := hv
  have HF := Lib.hid hf
  clear hf
  go_enter Try.func112, Try.ntmps112
  go_wp2
  go_loopw [8] (fun i wr => ∃ k : Nat, k ≤ t.length ∧ i = .int .i64 k ∧ findIx p t = findFrom p (t.drop k) k ∧ Ext w wr) (fun i _ => t.length - (intOf i).toNat)
  case atStart => exact ⟨0, Nat.zero_le _, rfl, by unfold findIx; rfl, Ext.refl _⟩
  case round =>
    obtain ⟨k, hk, rfl, hr, hx⟩ := hrel
    have Hr := Lib.hid hr
    clear hr
    by_cases hlt : k < t.length
    · obtain ⟨b1, o1, c1, hrow, hc1, hl⟩ := (hc.ext hx).get hlt
      have hri := hc1.ints hl c1
      cases hp : p (row t k) with
      | true =>
        go_wp2_with fail
        refine (HF.out _ _ k hx hlt hri).mono ?_
        rintro e w1 ⟨rfl, hx1⟩
        rw [hp]
        go_wp2
        go_ret
        exact ⟨ret_int (by rw [Hr.out, findFrom_hit p t k hlt hp]), hx.trans hx1⟩
      | false =>
        go_wp2_with fail
        refine (HF.out _ _ k hx hlt hri).mono ?_
        rintro e w1 ⟨rfl, hx1⟩
        rw [hp]
        go_wp2
        go_roundw
        case rel => exact ⟨k + 1, by omega, by go_num, by rw [Hr.out, findFrom_miss p t k hlt hp], hx.trans hx1⟩
        case measure => simp [intOf]; omega
    · go_wp2
      go_ret
      exact ⟨ret_int (by rw [Hr.out, findFrom_end p t k (by omega)]), hx⟩

theorem ContainsFunc_any (t : List (List Int)) (p : List Int → Bool) (F : Nat) (cap : Array Value) (v : Value) (w : World) (hv : Rows w v t)
    (hcall : ∀ (args : Array Value) (w : World), (callFunc F args).run Try.prog w = .ok (.enter F args) w)
    (hf : ∀ w1 r i, Ext w w1 → i < t.length → Ints w1 r (row t i) → Calls Try.prog F (#[r] ++ cap) w1 fun e w' => e = .returned (.bool (p (row t i))) ∧ Ext w1 w') :
    Calls Try.prog 79 #[v, .func (.func F) #[] cap] w fun e w' => e = .returned (.bool (anyB p t)) ∧ Ext w w' := by
  go_enter Try.func79, Try.ntmps79
  go_wp2_with fail
  refine (IndexFunc_any t p F cap v _ hv hcall hf).mono ?_
  rintro e w1 ⟨rfl, hx1⟩
  clear hcall hf
  go_wp2
  go_ret
  exact ⟨ret_bool (anyB_find p t).symm, hx1⟩
end Go.Proofs.Ytjhfieegkgndfaa
