/-
  Contracts of the laws' own helpers: marks.
-/
import Derived.Test.YtjcpeenalbgacaaProg
import Derived.Test.YtjcpeenalbgacaaBase
import Derived.Test.YtjcpeenalbgacaaBase2
namespace Go.Proofs.Ytjcpeenalbgacaa
set_option linter.unusedVariables false
set_option linter.unusedSimpArgs false
open Go.RowKit

/-- behind marking a slice of integers -/
def MarkI (lo hi : Nat) (l : List Int) (k : Int) (v : Value) (w : World) (e : Ending) (w' : World) : Prop :=
  e = .returned (.int .i64 (k + l.length)) ∧ OwnIV lo hi w' v (numRow k l.length) ∧ Marked lo hi w w'
theorem markInt64S_own (lo hi : Nat) (l : List Int) (b o c : Nat) (k : Int) (w : World) (hv : l ≠ [] → OwnI lo hi w b o l) (hl : l.length ≤ 1048576) (h0 : 0 ≤ k) (h1 : k ≤ 1125899906842624) :
    Calls Try.prog 22 #[.slice (some ⟨b, o, none⟩) l.length c, .int .i64 k] w fun e w' =>
      e = .returned (.int .i64 (k + l.length)) ∧ (l ≠ [] → OwnI lo hi w' b o (numRow k l.length)) ∧ (l = [] → w = w') ∧ Marked b (b + 1) w w' := by
  have HV := Lib.hid hv
  clear hv
  go_enter Try.func22, Try.ntmps22
  go_wp2
  go_loopw [1, 5] (fun q i wr => ∃ m : Nat, m ≤ l.length ∧ i = .int .i64 m ∧ q = .int .i64 (k + m) ∧ IntsAt wr b o (numTo l k m) ∧ FreeAt wr b o l.length ∧ Marked b (b + 1) w wr ∧ (l = [] → w = wr)) (fun _ i _ => l.length - (intOf i).toNat)
  case atStart => exact ⟨0, Nat.zero_le _, rfl, by go_num, by
    rw [numTo_zero]
    intro i hi
    exact (HV.out (ne_nil_of_lt hi)).2.2.1 i hi, fun i hi => (HV.out (ne_nil_of_lt hi)).2.2.2 i hi, Marked.refl _ _ _, fun _ => rfl⟩
  case round =>
    obtain ⟨m, hm, rfl, rfl, hi, hf, hM, hN⟩ := hrel
    have HN := Lib.hid hN
    clear hN
    by_cases hlt : m < l.length
    · have e1 := hi m (by simpa using hlt)
      have e2 := hf m hlt
      go_wp2
      go_roundw
      case rel => exact ⟨m + 1, by omega, by go_num, by go_num, hi.set m _ (by simpa using hlt) (by simp) (fun j hj hj' => by
          have hj'' : j < l.length := by simpa using hj'
          rw [ix_numTo _ _ _ _ hj'', ix_numTo _ _ _ _ hj'']
          by_cases h : j < m
          · rw [if_pos h, if_pos (by omega)]
          · rw [if_neg h, if_neg (by omega)]) (by rw [ix_numTo _ _ _ _ hlt, if_pos (by omega)]), hf.set _ _, hM.setCell (Nat.le_refl _) (by simp) _, fun h => absurd h (ne_nil_of_lt hlt)⟩
      case measure => simp [intOf]; omega
    · go_wp2
      go_ret
      have hmm : m = l.length := by omega
      refine ⟨ret_int (by rw [hmm]), fun hne => ?_, HN.out, hM⟩
      rw [numTo_all _ _ _ (by omega)] at hi
      exact ⟨(HV.out hne).1, (HV.out hne).2.1, hi, by simpa using hf⟩

theorem heldInt64S_any (l : List Int) (n : Nat) (v : Value) (k : Int) (w : World) (hv : IntsR w v l) (he : l = numRow k n) (hl : n ≤ 1048576) (h0 : 0 ≤ k) (h1 : k ≤ 1125899906842624) :
    Calls Try.prog 23 #[v, .int .i64 k] w fun e w' => e = .returned (.int .i64 (k + n)) ∧ Drawn w w' := by
  obtain ⟨a, c, rfl, hc⟩ := hv
  have HC := Lib.hid hc
  have hn : l.length = n := by rw [he]; simp
  have HE := Lib.hid he
  clear hc he
  rw [hn]
  have HN := Lib.hid hn
  clear hn
  go_enter Try.func23, Try.ntmps23
  go_wp2
  go_loopw [1, 5] (fun q i wr => ∃ m : Nat, m ≤ n ∧ i = .int .i64 m ∧ q = .int .i64 (k + m) ∧ Drawn w wr) (fun _ i _ => n - (intOf i).toNat)
  case atStart => exact ⟨0, Nat.zero_le _, rfl, by go_num, Drawn.refl _⟩
  case round =>
    obtain ⟨m, hm, rfl, rfl, hx⟩ := hrel
    by_cases hlt : m < n
    · obtain ⟨b, o, rfl, hc⟩ := HC.out (ne_nil_of_lt (k := m) (by rw [HN.out]; exact hlt))
      have e1 := hc.ext hx.ext m (by rw [HN.out]; exact hlt)
      rw [HE.out, ix_numRow _ _ _ hlt] at e1
      have hb : (k + (m : Int) != k + (m : Int)) = false := by simp
      clear hc
      go_wp2
      go_roundw
      case rel => exact ⟨m + 1, by omega, by go_num, by go_num, hx⟩
      case measure => simp [intOf]; omega
    · go_wp2
      go_ret
      have hmm : m = n := by omega
      exact ⟨ret_int (by rw [hmm]), hx⟩

/-- all the entries of a table -/
def total (t : List (List Int)) : Int := startAt t 0 t.length
theorem startAt_add (t : List (List Int)) (k : Int) : ∀ i : Nat, startAt t k i = k + startAt t 0 i
  | 0 => by simp [startAt]
  | i + 1 => by simp only [startAt]; rw [startAt_add t k i]; omega
theorem total_nonneg (t : List (List Int)) : 0 ≤ total t := by
  unfold total
  have : ∀ i : Nat, 0 ≤ startAt t 0 i := by
    intro i
    induction i with
    | zero => simp [startAt]
    | succ i ih => simp only [startAt]; omega
  exact this _
theorem total_le (t : List (List Int)) (hs : Small t) : total t ≤ 1099511627776 := by
  have := startAt_le t 0 hs.2 t.length
  have := hs.1
  unfold total
  omega

/-- behind marking a table -/
def MarkT (lo hi : Nat) (t : List (List Int)) (k : Int) (v : Value) (w : World) (e : Ending) (w' : World) : Prop :=
  e = .returned (.int .i64 (k + total t)) ∧ OwnV lo hi w' v (markTo t k t.length) ∧ Marked lo hi w w'

set_option maxRecDepth 100000 in
theorem markInt64SS_any (lo hi : Nat) (t : List (List Int)) (v : Value) (k : Int) (w : World) (hv : OwnV lo hi w v t) (h0 : 0 ≤ k) (h1 : k ≤ 562949953421312) :
    Calls Try.prog 52 #[v, .int .i64 k] w (MarkT lo hi t k v w) := by
  have HV := Lib.hid hv
  obtain ⟨hs, a, c, rfl, hc⟩ := hv
  have hs0 := hs.1
  have HS := Lib.hid hs.2
  have HC := Lib.hid hc
  clear hc hs
  have HB := Lib.hid (fun i => startAt_le t k HS.out i)
  go_enter Try.func52, Try.ntmps52
  go_wp2
  go_loopw [1, 5] (fun q i wr => ∃ m : Nat, m ≤ t.length ∧ i = .int .i64 m ∧ q = .int .i64 (startAt t k m) ∧ OwnV lo hi wr (.slice a t.length c) (markTo t k m) ∧ Marked lo hi w wr) (fun _ i _ => t.length - (intOf i).toNat)
  case atStart => exact ⟨0, Nat.zero_le _, rfl, by rfl, by rw [markTo_zero]; exact HV.out, Marked.refl _ _ _⟩
  case round =>
    obtain ⟨m, hm, rfl, rfl, hO, hM⟩ := hrel
    by_cases hlt : m < t.length
    · have HO := Lib.hid hO
      obtain ⟨hsm, a', c', hv', hc⟩ := hO
      obtain ⟨b, o, rfl, hb1, hb2, B, O, C, g1, g2⟩ := hc (ne_nil_of_lt (k := m) (by simpa using hlt))
      have ha : a = some ⟨b, o, none⟩ := by
        simp only [Value.slice.injEq] at hv'
        exact hv'.1
      subst ha
      clear hv' hc
      obtain ⟨e1, i1, n1⟩ := g1 m (by simpa using hlt)
      have hrm : row (markTo t k m) m = row t m := by rw [row_markTo _ _ _ _ hlt, if_neg (by omega)]
      rw [hrm] at e1 i1
      have G1 := Lib.hid g1
      have G2 := Lib.hid g2
      clear g1 g2 hrm hsm
      have hbd := HB.out m
      have hbd' := HB.out (m + 1)
      have hst : startAt t k (m + 1) = startAt t k m + (row t m).length := rfl
      have HST := Lib.hid hst
      clear hst
      go_wp2_with fail
      refine (markInt64S_own lo hi (row t m) (B m) (O m) (C m) _ _ (fun _ => i1) (HS.out m) (by omega) (by omega)).mono ?_
      rintro e w1 ⟨rfl, hO1, hE1, hM1⟩
      rw [← HST.out]
      have hM2 := hM1.mono (lo' := lo) (hi' := hi) i1.1 (by have := i1.2.1; omega)
      have HM1 := Lib.hid hM1
      have HO1 := Lib.hid hO1
      have HE1 := Lib.hid hE1
      clear hM1 hO1 hE1
      clear HB
      go_wp2
      go_roundw
      case rel =>
        refine ⟨m + 1, by omega, by go_num, rfl, ⟨small_markTo ⟨hs0, HS.out⟩ _ _, some ⟨b, o, none⟩, c, by simp, fun _ => ⟨b, o, rfl, hb1, hb2, B, O, C, fun i hi => ?_, fun i j hi hj e => G2.out i j (by simpa using hi) (by simpa using hj) e⟩⟩, hM.trans hM2⟩
        have hi' : i < t.length := by simpa using hi
        obtain ⟨f1, f2, f3⟩ := G1.out i (by simpa using hi)
        refine ⟨?_, ?_, f3⟩
        · rw [World.cell?_of_block (w := wr) (a := ⟨b, o + i, none⟩) (HM1.out.block b (by omega)), f1, length_row_markTo, length_row_markTo]
        · by_cases ei : i = m
          · subst ei
            rw [row_markTo _ _ _ _ hi', if_pos (by omega)]
            by_cases hne : row t i = []
            · have := HE1.out hne
              subst this
              rw [hne]
              exact ⟨i1.1, i1.2.1, fun j hj => by simp at hj, fun j hj => by simp at hj⟩
            · exact HO1.out hne
          · have hBi : B i ≠ B m := fun e => ei (G2.out i m (by simpa using hi) (by simpa using hlt) e)
            have := f2.block (HM1.out.block (B i) (by omega))
            rw [row_markTo _ _ _ _ hi'] at this ⊢
            by_cases h : i < m
            · rw [if_pos h] at this; rw [if_pos (by omega)]; exact this
            · rw [if_neg h] at this; rw [if_neg (by omega)]; exact this
      case measure => simp [intOf]; omega
    · go_wp2
      go_ret
      have hmm : m = t.length := by omega
      subst hmm
      exact ⟨ret_int (startAt_add t k _), hO, hM⟩

theorem heldInt64SS_any (t : List (List Int)) (v : Value) (k : Int) (w : World) (hv : RowsR w v (markTo t k t.length)) (hs : Small t) (h0 : 0 ≤ k) (h1 : k ≤ 562949953421312) :
    Calls Try.prog 53 #[v, .int .i64 k] w fun e w' => e = .returned (.int .i64 (k + total t)) ∧ Drawn w w' := by
  obtain ⟨a, c, rfl, hc⟩ := hv
  have HC := Lib.hid hc
  rw [length_markTo]
  have hs0 := hs.1
  have HS := Lib.hid hs.2
  clear hc hs
  have HB := Lib.hid (fun i => startAt_le t k HS.out i)
  go_enter Try.func53, Try.ntmps53
  go_wp2
  go_loopw [1, 5] (fun q i wr => ∃ m : Nat, m ≤ t.length ∧ i = .int .i64 m ∧ q = .int .i64 (startAt t k m) ∧ Drawn w wr) (fun _ i _ => t.length - (intOf i).toNat)
  case atStart => exact ⟨0, Nat.zero_le _, rfl, by rfl, Drawn.refl _⟩
  case round =>
    obtain ⟨m, hm, rfl, rfl, hx⟩ := hrel
    by_cases hlt : m < t.length
    · obtain ⟨b, o, rfl, hc⟩ := HC.out (ne_nil_of_lt (k := m) (by simpa using hlt))
      obtain ⟨r, e1, i1⟩ := hc m (by simpa using hlt)
      have e1' := hx.ext.cell e1
      clear hc e1
      have hrm := row_markTo t k t.length m hlt
      rw [if_pos hlt] at hrm
      have HR := Lib.hid hrm
      clear hrm
      have hbd := HB.out m
      have hst : startAt t k (m + 1) = startAt t k m + (row t m).length := rfl
      have HST := Lib.hid hst
      have hnn : ¬ startAt t k m + (row t m).length < 0 := by omega
      rw [← hst] at hnn
      clear hst
      go_wp2_with fail
      refine (heldInt64S_any _ (row t m).length _ _ _ (i1.ext hx.ext) HR.out (HS.out m) (by omega) (by omega)).mono ?_
      rintro e w1 ⟨rfl, hx1⟩
      rw [← HST.out]
      clear HB
      go_wp2
      go_roundw
      case rel => exact ⟨m + 1, by omega, by go_num, rfl, hx.trans hx1⟩
      case measure => simp [intOf]; omega
    · go_wp2
      go_ret
      have hmm : m = t.length := by omega
      subst hmm
      exact ⟨ret_int (startAt_add t k _), hx⟩
end Go.Proofs.Ytjcpeenalbgacaa
