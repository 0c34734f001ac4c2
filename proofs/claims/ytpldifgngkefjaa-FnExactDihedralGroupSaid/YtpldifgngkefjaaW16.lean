/-
  Contracts of CyclicGroup, DihedralGroup, DicyclicGroup: reference and program.
-/
import Derived.Test.YtpldifgngkefjaaProg
import Derived.Test.YtpldifgngkefjaaBase
import Derived.Test.YtpldifgngkefjaaBase2
import Derived.Test.YtpldifgngkefjaaPure1
import Derived.Test.YtpldifgngkefjaaGrow
import Derived.Test.YtpldifgngkefjaaW1
import Derived.Test.YtpldifgngkefjaaW8
import Derived.Test.YtpldifgngkefjaaW10
import Derived.Test.YtpldifgngkefjaaW12
import Derived.Test.YtpldifgngkefjaaW13
import Derived.Test.YtpldifgngkefjaaW14
import Derived.Test.YtpldifgngkefjaaW15
import Derived.Test.YtpldifgngkefjaaRet
namespace Go.Proofs.Ytpldifgngkefjaa
set_option linter.unusedVariables false
set_option linter.unusedSimpArgs false
open Go.RowKit

/-- what CyclicGroup gives -/
@[irreducible] def cyclicGroupT (a : Int) : List (List Int) := if 1 ≤ a ∧ a ≤ 12 then (fun n : Nat => mkT n (cycF n)) a.toNat else []
@[irreducible] def cyclicGroupC (a : Int) : Int := if 1 ≤ a ∧ a ≤ 12 then 0 else 2
theorem cyclicGroup_in {n : Nat} (h0 : 1 ≤ n) (h1 : n ≤ 12) : cyclicGroupT n = mkT n (cycF n) ∧ cyclicGroupC n = 0 := by
  unfold cyclicGroupT cyclicGroupC
  rw [if_pos ⟨by omega, by omega⟩, if_pos ⟨by omega, by omega⟩, Int.toNat_natCast]
  exact ⟨rfl, rfl⟩
theorem cyclicGroup_out {a : Int} (h : ¬ (1 ≤ a ∧ a ≤ 12)) : cyclicGroupT a = [] ∧ cyclicGroupC a = 2 := by
  unfold cyclicGroupT cyclicGroupC
  rw [if_neg h, if_neg h]
  exact ⟨rfl, rfl⟩
theorem CyclicGroup_spec (a : Int) (w : World) : Calls Try.prog 9 #[.int .i64 a] w (RetG (cyclicGroupT a) (cyclicGroupC a) w) := by
  cases hin : inR a 1 12 with
  | false =>
    obtain ⟨eT, eC⟩ := cyclicGroup_out (inR_false.1 hin)
    rw [eT, eC]
    go_enter Try.func9, Try.ntmps9
    go_wp2_with (go_at_call 29; refine (l01In_any _ _ _ _).mono ?_; rintro e w' ⟨rfl, rfl⟩)
    exact bodyPost_ret (v := .tuple #[.agg #[.slice none 0 0], .int .i64 2]) (by simp [results, Try.results9, go_sem]) rfl ⟨_, rfl, RowsR.nil _ _, ext_box _ _ _⟩
  | true =>
    have hb := inR_iff.1 hin
    obtain ⟨n, rfl⟩ := Int.eq_ofNat_of_zero_le (a := a) (by omega)
    obtain ⟨eT, eC⟩ := cyclicGroup_in (n := n) (by omega) (by omega)
    rw [eT, eC]
    have hx0 := ext_box w (.slice none 0 0) 24
    have b0 := cell_new w (.slice none 0 0) 24
    have q0 : (w.alloc (.cells #[.slice none 0 0] 24)).frozen? ⟨w.heap.size, 0, none⟩ = false := by simp
    go_enter Try.func9, Try.ntmps9
    go_wp2_with (go_at_call 29; refine (l01In_any _ _ _ _).mono ?_; rintro e w' ⟨rfl, rfl⟩)
    refine (l10Cyclic_any n _ (by omega) (by omega)).mono ?_
    rintro e w1 ⟨v, rfl, hr, hx1⟩
    obtain ⟨-, rb, ro, rc, rfl, -⟩ := id hr
    rw [length_mkT] at *
    have f1 := hx1.cell b0
    have f2 := hx1.free q0 (by simp)
    go_wp2
    refine bodyPost_ret (v := .tuple #[.agg #[.slice (some ⟨rb, ro, none⟩) (n) rc], .int .i64 0]) (by simp [results, Try.results9, go_sem, f1]) rfl ⟨_, rfl, ?_, (hx0.trans hx1).setNew (Nat.le_refl _) _⟩
    have := Rows.toR (hr.setNil f1 (.slice (some ⟨rb, ro, none⟩) (n) rc))
    exact this
theorem CyclicGroup_impl (a : Int) (w : World) : Calls Try.prog 10 #[.int .i64 a] w (NewGC (cyclicGroupT a) (cyclicGroupC a) w) := by
  cases hin : inR a 1 12 with
  | false =>
    obtain ⟨eT, eC⟩ := cyclicGroup_out (inR_false.1 hin)
    rw [eT, eC]
    go_enter Try.func10, Try.ntmps10
    go_wp2_with (go_at_call 31; refine (within_any _ _ _ _).mono ?_; rintro e w' ⟨rfl, rfl⟩)
    exact bodyPost_ret (v := .tuple #[.agg #[.slice none 0 0], .int .i64 2]) (by simp [results, Try.results10, go_sem]) rfl ⟨_, rfl, OwnV.nil _ _ _, ext_box _ _ _⟩
  | true =>
    have hb := inR_iff.1 hin
    obtain ⟨n, rfl⟩ := Int.eq_ofNat_of_zero_le (a := a) (by omega)
    obtain ⟨eT, eC⟩ := cyclicGroup_in (n := n) (by omega) (by omega)
    rw [eT, eC]
    have hx0 := ext_box w (.slice none 0 0) 24
    have b0 := cell_new w (.slice none 0 0) 24
    have q0 : (w.alloc (.cells #[.slice none 0 0] 24)).frozen? ⟨w.heap.size, 0, none⟩ = false := by simp
    go_enter Try.func10, Try.ntmps10
    go_wp2_with (go_at_call 31; refine (within_any _ _ _ _).mono ?_; rintro e w' ⟨rfl, rfl⟩)
    refine (cyclic_any n _ (by omega) (by omega)).mono ?_
    rintro e w1 ⟨rb, rc, rfl, ho, hx1⟩
    rw [length_mkT] at *
    have f1 := hx1.cell b0
    have f2 := hx1.free q0 (by simp)
    have hsz := hx1.size
    simp at hsz
    go_wp2
    refine bodyPost_ret (v := .tuple #[.agg #[.slice (some ⟨rb, 0, none⟩) (n) rc], .int .i64 0]) (by simp [results, Try.results10, go_sem, f1]) rfl ⟨_, rfl, ?_, (hx0.trans hx1).setNew (Nat.le_refl _) _⟩
    have := ((ho.setOther (a := ⟨w.heap.size, 0, none⟩) (.inl (by simp)) (.slice (some ⟨rb, 0, none⟩) (n) rc)).mono (lo' := w.heap.size) (hi' := w1.heap.size) (by simp <;> omega) (by simp)).v (small_mkT (by omega) _) rc
    rw [length_mkT] at this
    simpa using this
/-- what DihedralGroup gives -/
@[irreducible] def dihedralGroupT (a : Int) : List (List Int) := if 1 ≤ a ∧ a ≤ 6 then (fun n : Nat => mkT (2 * n) (dblF n 0)) a.toNat else []
@[irreducible] def dihedralGroupC (a : Int) : Int := if 1 ≤ a ∧ a ≤ 6 then 0 else 2
theorem dihedralGroup_in {n : Nat} (h0 : 1 ≤ n) (h1 : n ≤ 6) : dihedralGroupT n = mkT (2 * n) (dblF n 0) ∧ dihedralGroupC n = 0 := by
  unfold dihedralGroupT dihedralGroupC
  rw [if_pos ⟨by omega, by omega⟩, if_pos ⟨by omega, by omega⟩, Int.toNat_natCast]
  exact ⟨rfl, rfl⟩
theorem dihedralGroup_out {a : Int} (h : ¬ (1 ≤ a ∧ a ≤ 6)) : dihedralGroupT a = [] ∧ dihedralGroupC a = 2 := by
  unfold dihedralGroupT dihedralGroupC
  rw [if_neg h, if_neg h]
  exact ⟨rfl, rfl⟩
theorem DihedralGroup_spec (a : Int) (w : World) : Calls Try.prog 16 #[.int .i64 a] w (RetG (dihedralGroupT a) (dihedralGroupC a) w) := by
  cases hin : inR a 1 6 with
  | false =>
    obtain ⟨eT, eC⟩ := dihedralGroup_out (inR_false.1 hin)
    rw [eT, eC]
    go_enter Try.func16, Try.ntmps16
    go_wp2_with (go_at_call 29; refine (l01In_any _ _ _ _).mono ?_; rintro e w' ⟨rfl, rfl⟩)
    exact bodyPost_ret (v := .tuple #[.agg #[.slice none 0 0], .int .i64 2]) (by simp [results, Try.results16, go_sem]) rfl ⟨_, rfl, RowsR.nil _ _, ext_box _ _ _⟩
  | true =>
    have hb := inR_iff.1 hin
    obtain ⟨n, rfl⟩ := Int.eq_ofNat_of_zero_le (a := a) (by omega)
    obtain ⟨eT, eC⟩ := dihedralGroup_in (n := n) (by omega) (by omega)
    rw [eT, eC]
    have hx0 := ext_box w (.slice none 0 0) 24
    have b0 := cell_new w (.slice none 0 0) 24
    have q0 : (w.alloc (.cells #[.slice none 0 0] 24)).frozen? ⟨w.heap.size, 0, none⟩ = false := by simp
    go_enter Try.func16, Try.ntmps16
    go_wp2_with (go_at_call 29; refine (l01In_any _ _ _ _).mono ?_; rintro e w' ⟨rfl, rfl⟩)
    refine (l10Double_any n 0 _ (by omega) (by omega) (by omega)).mono ?_
    rintro e w1 ⟨v, rfl, hr, hx1⟩
    obtain ⟨-, rb, ro, rc, rfl, -⟩ := id hr
    rw [length_mkT] at *
    have f1 := hx1.cell b0
    have f2 := hx1.free q0 (by simp)
    go_wp2
    refine bodyPost_ret (v := .tuple #[.agg #[.slice (some ⟨rb, ro, none⟩) (2 * n) rc], .int .i64 0]) (by simp [results, Try.results16, go_sem, f1]) rfl ⟨_, rfl, ?_, (hx0.trans hx1).setNew (Nat.le_refl _) _⟩
    have := Rows.toR (hr.setNil f1 (.slice (some ⟨rb, ro, none⟩) (2 * n) rc))
    exact this
theorem DihedralGroup_impl (a : Int) (w : World) : Calls Try.prog 17 #[.int .i64 a] w (NewGC (dihedralGroupT a) (dihedralGroupC a) w) := by
  cases hin : inR a 1 6 with
  | false =>
    obtain ⟨eT, eC⟩ := dihedralGroup_out (inR_false.1 hin)
    rw [eT, eC]
    go_enter Try.func17, Try.ntmps17
    go_wp2_with (go_at_call 31; refine (within_any _ _ _ _).mono ?_; rintro e w' ⟨rfl, rfl⟩)
    exact bodyPost_ret (v := .tuple #[.agg #[.slice none 0 0], .int .i64 2]) (by simp [results, Try.results17, go_sem]) rfl ⟨_, rfl, OwnV.nil _ _ _, ext_box _ _ _⟩
  | true =>
    have hb := inR_iff.1 hin
    obtain ⟨n, rfl⟩ := Int.eq_ofNat_of_zero_le (a := a) (by omega)
    obtain ⟨eT, eC⟩ := dihedralGroup_in (n := n) (by omega) (by omega)
    rw [eT, eC]
    have hx0 := ext_box w (.slice none 0 0) 24
    have b0 := cell_new w (.slice none 0 0) 24
    have q0 : (w.alloc (.cells #[.slice none 0 0] 24)).frozen? ⟨w.heap.size, 0, none⟩ = false := by simp
    go_enter Try.func17, Try.ntmps17
    go_wp2_with (go_at_call 31; refine (within_any _ _ _ _).mono ?_; rintro e w' ⟨rfl, rfl⟩)
    refine (twoHalves_any n 0 _ (by omega) (by omega) (by omega)).mono ?_
    rintro e w1 ⟨rb, rc, rfl, ho, hx1⟩
    rw [length_mkT] at *
    have f1 := hx1.cell b0
    have f2 := hx1.free q0 (by simp)
    have hsz := hx1.size
    simp at hsz
    go_wp2
    refine bodyPost_ret (v := .tuple #[.agg #[.slice (some ⟨rb, 0, none⟩) (2 * n) rc], .int .i64 0]) (by simp [results, Try.results17, go_sem, f1]) rfl ⟨_, rfl, ?_, (hx0.trans hx1).setNew (Nat.le_refl _) _⟩
    have := ((ho.setOther (a := ⟨w.heap.size, 0, none⟩) (.inl (by simp)) (.slice (some ⟨rb, 0, none⟩) (2 * n) rc)).mono (lo' := w.heap.size) (hi' := w1.heap.size) (by simp <;> omega) (by simp)).v (small_mkT (by omega) _) rc
    rw [length_mkT] at this
    simpa using this
/-- what DicyclicGroup gives -/
@[irreducible] def dicyclicGroupT (a : Int) : List (List Int) := if 2 ≤ a ∧ a ≤ 3 then (fun n : Nat => mkT (2 * (2 * n)) (dblF (2 * n) n)) a.toNat else []
@[irreducible] def dicyclicGroupC (a : Int) : Int := if 2 ≤ a ∧ a ≤ 3 then 0 else 2
theorem dicyclicGroup_in {n : Nat} (h0 : 2 ≤ n) (h1 : n ≤ 3) : dicyclicGroupT n = mkT (2 * (2 * n)) (dblF (2 * n) n) ∧ dicyclicGroupC n = 0 := by
  unfold dicyclicGroupT dicyclicGroupC
  rw [if_pos ⟨by omega, by omega⟩, if_pos ⟨by omega, by omega⟩, Int.toNat_natCast]
  exact ⟨rfl, rfl⟩
theorem dicyclicGroup_out {a : Int} (h : ¬ (2 ≤ a ∧ a ≤ 3)) : dicyclicGroupT a = [] ∧ dicyclicGroupC a = 2 := by
  unfold dicyclicGroupT dicyclicGroupC
  rw [if_neg h, if_neg h]
  exact ⟨rfl, rfl⟩
theorem DicyclicGroup_spec (a : Int) (w : World) : Calls Try.prog 14 #[.int .i64 a] w (RetG (dicyclicGroupT a) (dicyclicGroupC a) w) := by
  cases hin : inR a 2 3 with
  | false =>
    obtain ⟨eT, eC⟩ := dicyclicGroup_out (inR_false.1 hin)
    rw [eT, eC]
    go_enter Try.func14, Try.ntmps14
    go_wp2_with (go_at_call 29; refine (l01In_any _ _ _ _).mono ?_; rintro e w' ⟨rfl, rfl⟩)
    exact bodyPost_ret (v := .tuple #[.agg #[.slice none 0 0], .int .i64 2]) (by simp [results, Try.results14, go_sem]) rfl ⟨_, rfl, RowsR.nil _ _, ext_box _ _ _⟩
  | true =>
    have hb := inR_iff.1 hin
    obtain ⟨n, rfl⟩ := Int.eq_ofNat_of_zero_le (a := a) (by omega)
    obtain ⟨eT, eC⟩ := dicyclicGroup_in (n := n) (by omega) (by omega)
    rw [eT, eC]
    have hx0 := ext_box w (.slice none 0 0) 24
    have b0 := cell_new w (.slice none 0 0) 24
    have q0 : (w.alloc (.cells #[.slice none 0 0] 24)).frozen? ⟨w.heap.size, 0, none⟩ = false := by simp
    go_enter Try.func14, Try.ntmps14
    go_wp2_with (go_at_call 29; refine (l01In_any _ _ _ _).mono ?_; rintro e w' ⟨rfl, rfl⟩)
    rw [show (2 * (n : Int)) = ((2 * n : Nat) : Int) by omega]
    refine (l10Double_any (2 * n) n _ (by omega) (by omega) (by omega)).mono ?_
    rintro e w1 ⟨v, rfl, hr, hx1⟩
    obtain ⟨-, rb, ro, rc, rfl, -⟩ := id hr
    rw [length_mkT] at *
    have f1 := hx1.cell b0
    have f2 := hx1.free q0 (by simp)
    go_wp2
    refine bodyPost_ret (v := .tuple #[.agg #[.slice (some ⟨rb, ro, none⟩) (2 * (2 * n)) rc], .int .i64 0]) (by simp [results, Try.results14, go_sem, f1]) rfl ⟨_, rfl, ?_, (hx0.trans hx1).setNew (Nat.le_refl _) _⟩
    have := Rows.toR (hr.setNil f1 (.slice (some ⟨rb, ro, none⟩) (2 * (2 * n)) rc))
    exact this
theorem DicyclicGroup_impl (a : Int) (w : World) : Calls Try.prog 15 #[.int .i64 a] w (NewGC (dicyclicGroupT a) (dicyclicGroupC a) w) := by
  cases hin : inR a 2 3 with
  | false =>
    obtain ⟨eT, eC⟩ := dicyclicGroup_out (inR_false.1 hin)
    rw [eT, eC]
    go_enter Try.func15, Try.ntmps15
    go_wp2_with (go_at_call 31; refine (within_any _ _ _ _).mono ?_; rintro e w' ⟨rfl, rfl⟩)
    exact bodyPost_ret (v := .tuple #[.agg #[.slice none 0 0], .int .i64 2]) (by simp [results, Try.results15, go_sem]) rfl ⟨_, rfl, OwnV.nil _ _ _, ext_box _ _ _⟩
  | true =>
    have hb := inR_iff.1 hin
    obtain ⟨n, rfl⟩ := Int.eq_ofNat_of_zero_le (a := a) (by omega)
    obtain ⟨eT, eC⟩ := dicyclicGroup_in (n := n) (by omega) (by omega)
    rw [eT, eC]
    have hx0 := ext_box w (.slice none 0 0) 24
    have b0 := cell_new w (.slice none 0 0) 24
    have q0 : (w.alloc (.cells #[.slice none 0 0] 24)).frozen? ⟨w.heap.size, 0, none⟩ = false := by simp
    go_enter Try.func15, Try.ntmps15
    go_wp2_with (go_at_call 31; refine (within_any _ _ _ _).mono ?_; rintro e w' ⟨rfl, rfl⟩)
    rw [show (2 * (n : Int)) = ((2 * n : Nat) : Int) by omega]
    refine (twoHalves_any (2 * n) n _ (by omega) (by omega) (by omega)).mono ?_
    rintro e w1 ⟨rb, rc, rfl, ho, hx1⟩
    rw [length_mkT] at *
    have f1 := hx1.cell b0
    have f2 := hx1.free q0 (by simp)
    have hsz := hx1.size
    simp at hsz
    go_wp2
    refine bodyPost_ret (v := .tuple #[.agg #[.slice (some ⟨rb, 0, none⟩) (2 * (2 * n)) rc], .int .i64 0]) (by simp [results, Try.results15, go_sem, f1]) rfl ⟨_, rfl, ?_, (hx0.trans hx1).setNew (Nat.le_refl _) _⟩
    have := ((ho.setOther (a := ⟨w.heap.size, 0, none⟩) (.inl (by simp)) (.slice (some ⟨rb, 0, none⟩) (2 * (2 * n)) rc)).mono (lo' := w.heap.size) (hi' := w1.heap.size) (by simp <;> omega) (by simp)).v (small_mkT (by omega) _) rc
    rw [length_mkT] at this
    simpa using this
end Go.Proofs.Ytpldifgngkefjaa
