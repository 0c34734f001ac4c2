/-
  Contracts of OrderIn: reference and program.
-/
import Derived.Test.YtnkbdnimpcipfaaProg
import Derived.Test.YtnkbdnimpcipfaaBase
import Derived.Test.YtnkbdnimpcipfaaBase2
import Derived.Test.YtnkbdnimpcipfaaRet
import Derived.Test.YtnkbdnimpcipfaaPure1
import Derived.Test.YtnkbdnimpcipfaaPureOrd
import Derived.Test.YtnkbdnimpcipfaaW1
import Derived.Test.YtnkbdnimpcipfaaW3
import Derived.Test.YtnkbdnimpcipfaaW4
import Derived.Test.YtnkbdnimpcipfaaW6
import Derived.Test.YtnkbdnimpcipfaaW11
namespace Go.Proofs.Ytnkbdnimpcipfaa
set_option linter.unusedVariables false
set_option linter.unusedSimpArgs false
open Go.RowKit

theorem l10Code_any (t : List (List Int)) (v : Value) (a : Int) (w : World) (hv : Rows w v t) :
    Calls Try.prog 56 #[.agg #[v], .int .i64 a] w fun e w' => e = .returned (.int .i64 (elemC t a)) ∧ Ext w w' := by
  obtain ⟨hlen, b, o, c, rfl, -⟩ := id hv
  have hx0 := ext_box w (.slice (some ⟨b, o, none⟩) t.length c) 28
  have b0 := cell_new w (.slice (some ⟨b, o, none⟩) t.length c) 28
  cases hg : groupB t with
  | false =>
    rw [elemC_1 hg]
    go_enter Try.func56, Try.ntmps56
    go_wp2_with fail
    refine (l10Is_any t _ _ (hv.ext hx0)).mono ?_
    rintro e w1 ⟨rfl, hx1⟩
    go_wp2
    go_ret
    exact ⟨rfl, hx0.trans hx1⟩
  | true =>
    cases hin : inR a 0 (t.length - 1) with
    | false =>
      rw [elemC_2 hg (inR_false.1 hin)]
      go_enter Try.func56, Try.ntmps56
      go_wp2_with fail
      refine (l10Is_any t _ _ (hv.ext hx0)).mono ?_
      rintro e w1 ⟨rfl, hx1⟩
      have b1 := hx1.cell b0
      go_wp2_with (go_at_call 85; refine (l01In_any _ _ _ _).mono ?_; rintro e w' ⟨rfl, rfl⟩)
      go_ret
      exact ⟨rfl, hx0.trans hx1⟩
    | true =>
      rw [elemC_0 hg (inR_iff.1 hin)]
      go_enter Try.func56, Try.ntmps56
      go_wp2_with fail
      refine (l10Is_any t _ _ (hv.ext hx0)).mono ?_
      rintro e w1 ⟨rfl, hx1⟩
      have b1 := hx1.cell b0
      go_wp2_with (go_at_call 85; refine (l01In_any _ _ _ _).mono ?_; rintro e w' ⟨rfl, rfl⟩)
      go_ret
      exact ⟨rfl, hx0.trans hx1⟩

theorem areElements_any (n : Nat) (l : List Int) (v : Value) (w : World) (hv : Ints w v l) (hn : n ≤ 1048576) :
    Calls Try.prog 60 #[.int .i64 n, v] w fun e w' => e = .returned (.bool (allInB l 0 (n - 1))) ∧ w = w' := by
  go_enter Try.func60, Try.ntmps60
  go_wp2_with (go_at_call 89; refine (allWithin_any l _ _ _ _ hv).mono ?_; rintro e w' ⟨rfl, rfl⟩)
  go_ret
  exact ⟨rfl, rfl⟩

theorem allInB_one (a lo hi : Int) : allInB [a] lo hi = inR a lo hi := by
  rw [Bool.eq_iff_iff, allInB_iff, inR_iff]
  have h0 : ix [a] 0 = a := by rw [ix_eq]; rfl
  constructor
  · intro h; have := h 0 (by simp); rwa [h0] at this
  · intro h i hi
    have : i = 0 := by simp at hi; omega
    subst this; rw [h0]; exact h

end Go.Proofs.Ytnkbdnimpcipfaa