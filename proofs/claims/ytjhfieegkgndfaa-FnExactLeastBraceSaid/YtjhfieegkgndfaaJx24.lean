/-
  Contracts of IsBrace (reference), BraceFault, IsBiSkewBrace.
-/
import Derived.Test.YtjhfieegkgndfaaProg
import Derived.Test.YtjhfieegkgndfaaJx0
import Derived.Test.YtjhfieegkgndfaaJx1
import Derived.Test.YtjhfieegkgndfaaJx3
import Derived.Test.YtjhfieegkgndfaaJx5
import Derived.Test.YtjhfieegkgndfaaJx8
import Derived.Test.YtjhfieegkgndfaaJx15
import Derived.Test.YtjhfieegkgndfaaJx6
import Derived.Test.YtjhfieegkgndfaaJx11
import Derived.Test.YtjhfieegkgndfaaJx9
namespace Go.Proofs.Ytjhfieegkgndfaa
set_option linter.unusedVariables false
set_option linter.unusedSimpArgs false
open Go.RowKit

theorem braceB_swap {t u : List (List Int)} (h : twoB t u = true) : braceB u t = noFaultB u t := by
  obtain ⟨hG, hU, hL⟩ := twoB_iff.1 h
  have h2 : twoB u t = true := twoB_iff.2 ⟨hU, hG, hL.symm⟩
  by_cases hf : faultL u t = []
  · rw [braceB_yes h2 hf, noFault_yes hf]
  · rw [braceB_2 hf, noFault_no hf]
theorem len_fault {t u : List (List Int)} (h : faultL t u ≠ []) : (((faultL t u).length : Int) == 0) = false := by
  rw [beq_eq_false_iff_ne]
  intro h2
  exact h (List.length_eq_zero_iff.1 (by omega))

set_option maxRecDepth 100000 in
theorem l11Is_any (t u : List (List Int)) (v y : Value) (w : World) (hv : Rows w v t) (hy : Rows w y u) :
    Calls Try.prog 37 #[.agg #[v, y]] w fun e w' => e = .returned (.bool (braceB t u)) ∧ Ext w w' := by
  obtain ⟨hlen, b, o, c, rfl, hc⟩ := id hv
  obtain ⟨hlen2, b2, o2, c2, rfl, hc2⟩ := id hy
  have hX := ext_boxB w (.slice (some ⟨b, o, none⟩) t.length c) (.slice (some ⟨b2, o2, none⟩) u.length c2) 24
  have k0 := cell_new2a w (.slice (some ⟨b, o, none⟩) t.length c) (.slice (some ⟨b2, o2, none⟩) u.length c2) 24
  have k1 := cell_new2b w (.slice (some ⟨b, o, none⟩) t.length c) (.slice (some ⟨b2, o2, none⟩) u.length c2) 24
  clear hc hc2
  cases hg : groupB t with
  | false =>
    have h2 : twoB t u = false := twoB_1 hg
    rw [braceB_1 h2]
    go_enter Try.func37, Try.ntmps37
    go_wp2_with fail
    refine (l10Is_any t _ _ (hv.ext hX)).mono ?_
    rintro e wn ⟨rfl, hx⟩
    replace hX := hX.trans hx
    replace k0 := hx.cell k0
    replace k1 := hx.cell k1
    clear hx
    rw [hg]
    go_wp2
    go_ret
    exact ⟨rfl, hX⟩
  | true =>
    cases hg2 : groupB u with
    | false =>
      have h2 : twoB t u = false := twoB_2 hg2
      rw [braceB_1 h2]
      go_enter Try.func37, Try.ntmps37
      go_wp2_with fail
      refine (l10Is_any t _ _ (hv.ext hX)).mono ?_
      rintro e wn ⟨rfl, hx⟩
      replace hX := hX.trans hx
      replace k0 := hx.cell k0
      replace k1 := hx.cell k1
      clear hx
      rw [hg]
      go_wp2_with fail
      refine (l10Is_any u _ _ (hy.ext hX)).mono ?_
      rintro e wn ⟨rfl, hx⟩
      replace hX := hX.trans hx
      replace k0 := hx.cell k0
      replace k1 := hx.cell k1
      clear hx
      rw [hg2]
      go_wp2
      go_ret
      exact ⟨rfl, hX⟩
    | true =>
      cases hl : ((t.length : Int) == (u.length : Int)) with
      | false =>
        have h2 : twoB t u = false := twoB_3 (fun h => by rw [h] at hl; simp at hl)
        have hln : ((t.length : Int) != (u.length : Int)) = true := by rw [bne, hl]; rfl
        rw [braceB_1 h2]
        go_enter Try.func37, Try.ntmps37
        go_wp2_with fail
        refine (l10Is_any t _ _ (hv.ext hX)).mono ?_
        rintro e wn ⟨rfl, hx⟩
        replace hX := hX.trans hx
        replace k0 := hx.cell k0
        replace k1 := hx.cell k1
        clear hx
        rw [hg]
        go_wp2_with fail
        refine (l10Is_any u _ _ (hy.ext hX)).mono ?_
        rintro e wn ⟨rfl, hx⟩
        replace hX := hX.trans hx
        replace k0 := hx.cell k0
        replace k1 := hx.cell k1
        clear hx
        rw [hg2]
        go_wp2
        go_ret
        exact ⟨rfl, hX⟩
      | true =>
        have h2 : twoB t u = true := twoB_yes hg hg2 (by have := eq_of_beq hl; omega)
        obtain ⟨hG, hU, hL⟩ := twoB_iff.1 h2
        have HL := Lib.hid hL
        clear hL
        have hln : ((t.length : Int) != (u.length : Int)) = false := by rw [bne, hl]; rfl
        by_cases hf : faultL t u = []
        · rw [braceB_yes h2 hf]
          have HF := Lib.hid hf
          have hz : (((faultL t u).length : Int) == 0) = true := by rw [hf]; rfl
          clear hf
          go_enter Try.func37, Try.ntmps37
          go_wp2_with fail
          refine (l10Is_any t _ _ (hv.ext hX)).mono ?_
          rintro e wn ⟨rfl, hx⟩
          replace hX := hX.trans hx
          replace k0 := hx.cell k0
          replace k1 := hx.cell k1
          clear hx
          rw [hg]
          go_wp2_with fail
          refine (l10Is_any u _ _ (hy.ext hX)).mono ?_
          rintro e wn ⟨rfl, hx⟩
          replace hX := hX.trans hx
          replace k0 := hx.cell k0
          replace k1 := hx.cell k1
          clear hx
          rw [hg2]
          go_wp2_with fail
          refine (l11Fault_any t u _ _ _ (hv.ext hX) (hy.ext hX) hG hU HL.out).mono ?_
          rintro e wn ⟨r, rfl, ⟨ra, rc, rfl⟩, hr, hx⟩
          replace hX := hX.trans hx
          replace k0 := hx.cell k0
          replace k1 := hx.cell k1
          clear hx
          go_wp2
          go_ret
          exact ⟨rfl, hX⟩
        · rw [braceB_2 hf]
          have HF := Lib.hid hf
          have hz := len_fault hf
          clear hf
          go_enter Try.func37, Try.ntmps37
          go_wp2_with fail
          refine (l10Is_any t _ _ (hv.ext hX)).mono ?_
          rintro e wn ⟨rfl, hx⟩
          replace hX := hX.trans hx
          replace k0 := hx.cell k0
          replace k1 := hx.cell k1
          clear hx
          rw [hg]
          go_wp2_with fail
          refine (l10Is_any u _ _ (hy.ext hX)).mono ?_
          rintro e wn ⟨rfl, hx⟩
          replace hX := hX.trans hx
          replace k0 := hx.cell k0
          replace k1 := hx.cell k1
          clear hx
          rw [hg2]
          go_wp2_with fail
          refine (l11Fault_any t u _ _ _ (hv.ext hX) (hy.ext hX) hG hU HL.out).mono ?_
          rintro e wn ⟨r, rfl, ⟨ra, rc, rfl⟩, hr, hx⟩
          replace hX := hX.trans hx
          replace k0 := hx.cell k0
          replace k1 := hx.cell k1
          clear hx
          go_wp2
          go_ret
          exact ⟨rfl, hX⟩

end Go.Proofs.Ytjhfieegkgndfaa

/-
  Contracts of the laws' own helpers at racks (the same as at groups).
-/
namespace Go.Proofs.Ytjhfieegkgndfaa
set_option linter.unusedVariables false
set_option linter.unusedSimpArgs false
open Go.RowKit

end Go.Proofs.Ytjhfieegkgndfaa
