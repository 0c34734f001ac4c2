/-
  Contracts of IsBrace, BraceFault, IsBiSkewBrace: reference and program.
-/
import Derived.Test.YtjcpeenalbgacaaProg
import Derived.Test.YtjcpeenalbgacaaBase
import Derived.Test.YtjcpeenalbgacaaBase2
import Derived.Test.YtjcpeenalbgacaaRet
import Derived.Test.YtjcpeenalbgacaaPure1
import Derived.Test.YtjcpeenalbgacaaPureOrd
import Derived.Test.YtjcpeenalbgacaaPureInv
import Derived.Test.YtjcpeenalbgacaaPureTurn
import Derived.Test.YtjcpeenalbgacaaPureBr
import Derived.Test.YtjcpeenalbgacaaW1
import Derived.Test.YtjcpeenalbgacaaW3
import Derived.Test.YtjcpeenalbgacaaW6
import Derived.Test.YtjcpeenalbgacaaW8
import Derived.Test.YtjcpeenalbgacaaW11
import Derived.Test.YtjcpeenalbgacaaW20
import Derived.Test.YtjcpeenalbgacaaW26
import Derived.Test.YtjcpeenalbgacaaK2
import Derived.Test.YtjcpeenalbgacaaK3
namespace Go.Proofs.Ytjcpeenalbgacaa
set_option linter.unusedVariables false
set_option linter.unusedSimpArgs false
open Go.RowKit

/-- what BraceFault returns -/
@[irreducible] noncomputable def bfL (t u : List (List Int)) : List Int := if twoB t u = true then faultL t u else []
@[irreducible] noncomputable def bfC (t u : List (List Int)) : Int := if twoB t u = true then (if faultL t u = [] then 4 else 0) else 1
theorem bf_no {t u} (h : twoB t u = false) : bfL t u = [] ∧ bfC t u = 1 := by unfold bfL bfC; rw [if_neg (by rw [h]; simp), if_neg (by rw [h]; simp)]; exact ⟨rfl, rfl⟩
theorem bf_none {t u} (h : twoB t u = true) (h2 : faultL t u = []) : bfL t u = [] ∧ bfC t u = 4 := by unfold bfL bfC; rw [if_pos h, if_pos h, if_pos h2]; exact ⟨h2, rfl⟩
theorem bf_yes {t u} (h : twoB t u = true) (h2 : faultL t u ≠ []) : bfL t u = faultL t u ∧ bfC t u = 0 := by unfold bfL bfC; rw [if_pos h, if_pos h, if_neg h2]; exact ⟨rfl, rfl⟩
@[irreducible] noncomputable def noFaultB (t u : List (List Int)) : Bool := (faultL t u).isEmpty
theorem noFault_yes {t u} (h : faultL t u = []) : noFaultB t u = true := by unfold noFaultB; simp [h]
theorem noFault_no {t u} (h : faultL t u ≠ []) : noFaultB t u = false := by unfold noFaultB; simp [h]
set_option maxRecDepth 1000000 in
theorem eqNil0 (w : World) : (binOp .eql 26 (.slice none 0 0) (.slice none 0 0)).run Try.prog w = .ok (.bool true) w := rfl
set_option maxRecDepth 1000000 in
theorem eqNil1 (b n c : Nat) (w : World) : (binOp .eql 26 (.slice (some ⟨b, 0, none⟩) n c) (.slice none 0 0)).run Try.prog w = .ok (.bool false) w := rfl

set_option maxRecDepth 100000 in
theorem areBraceTables_any (t u : List (List Int)) (v y : Value) (w : World) (hv : Rows w v t) (hy : Rows w y u) :
    Calls Try.prog 104 #[.agg #[v, y]] w fun e w' => e = .returned (.bool (twoB t u)) ∧ Ext w w' := by
  obtain ⟨hlen, b, o, c, rfl, hc⟩ := id hv
  obtain ⟨hlen2, b2, o2, c2, rfl, hc2⟩ := id hy
  have hx0 := ext_boxB w (.slice (some ⟨b, o, none⟩) t.length c) (.slice (some ⟨b2, o2, none⟩) u.length c2) 29
  have k0 := cell_new2a w (.slice (some ⟨b, o, none⟩) t.length c) (.slice (some ⟨b2, o2, none⟩) u.length c2) 29
  have k1 := cell_new2b w (.slice (some ⟨b, o, none⟩) t.length c) (.slice (some ⟨b2, o2, none⟩) u.length c2) 29
  cases hg : groupB t with
  | false =>
    rw [twoB_1 hg]
    go_enter Try.func104, Try.ntmps104
    go_wp2_with fail
    refine (isGroupTable_any t _ _ (hv.ext hx0)).mono ?_
    rintro e w1 ⟨rfl, hx1⟩
    rw [hg]
    go_wp2
    go_ret
    exact ⟨rfl, hx0.trans hx1⟩
  | true =>
    cases hg2 : groupB u with
    | false =>
      rw [twoB_2 hg2]
      go_enter Try.func104, Try.ntmps104
      go_wp2_with fail
      refine (isGroupTable_any t _ _ (hv.ext hx0)).mono ?_
      rintro e w1 ⟨rfl, hx1⟩
      rw [hg]
      have j1 := hx1.cell k1
      go_wp2_with fail
      refine (isGroupTable_any u _ _ (hy.ext (hx0.trans hx1))).mono ?_
      rintro e w2 ⟨rfl, hx2⟩
      rw [hg2]
      go_wp2
      go_ret
      exact ⟨rfl, (hx0.trans hx1).trans hx2⟩
    | true =>
      cases hl : ((t.length : Int) == (u.length : Int)) with
      | false =>
        rw [twoB_3 (fun h => by rw [h] at hl; simp at hl)]
        go_enter Try.func104, Try.ntmps104
        go_wp2_with fail
        refine (isGroupTable_any t _ _ (hv.ext hx0)).mono ?_
        rintro e w1 ⟨rfl, hx1⟩
        rw [hg]
        have j0 := hx1.cell k0
        have j1 := hx1.cell k1
        go_wp2_with fail
        refine (isGroupTable_any u _ _ (hy.ext (hx0.trans hx1))).mono ?_
        rintro e w2 ⟨rfl, hx2⟩
        rw [hg2]
        have i0 := hx2.cell j0
        have i1 := hx2.cell j1
        go_wp2
        go_ret
        exact ⟨rfl, (hx0.trans hx1).trans hx2⟩
      | true =>
        rw [twoB_yes hg hg2 (by have := eq_of_beq hl; omega)]
        go_enter Try.func104, Try.ntmps104
        go_wp2_with fail
        refine (isGroupTable_any t _ _ (hv.ext hx0)).mono ?_
        rintro e w1 ⟨rfl, hx1⟩
        rw [hg]
        have j0 := hx1.cell k0
        have j1 := hx1.cell k1
        go_wp2_with fail
        refine (isGroupTable_any u _ _ (hy.ext (hx0.trans hx1))).mono ?_
        rintro e w2 ⟨rfl, hx2⟩
        rw [hg2]
        have i0 := hx2.cell j0
        have i1 := hx2.cell j1
        go_wp2
        go_ret
        exact ⟨rfl, (hx0.trans hx1).trans hx2⟩

set_option maxRecDepth 100000 in
theorem IsBrace_impl (t u : List (List Int)) (v y : Value) (w : World) (hv : Rows w v t) (hy : Rows w y u) :
    Calls Try.prog 63 #[.agg #[v, y]] w fun e w' => e = .returned (.bool (braceB t u)) ∧ Ext w w' := by
  obtain ⟨hlen, b, o, c, rfl, hc⟩ := id hv
  obtain ⟨hlen2, b2, o2, c2, rfl, hc2⟩ := id hy
  have hx0 := ext_boxB w (.slice (some ⟨b, o, none⟩) t.length c) (.slice (some ⟨b2, o2, none⟩) u.length c2) 29
  have k0 := cell_new2a w (.slice (some ⟨b, o, none⟩) t.length c) (.slice (some ⟨b2, o2, none⟩) u.length c2) 29
  have k1 := cell_new2b w (.slice (some ⟨b, o, none⟩) t.length c) (.slice (some ⟨b2, o2, none⟩) u.length c2) 29
  cases hg : twoB t u with
  | false =>
    rw [braceB_1 hg]
    go_enter Try.func63, Try.ntmps63
    go_wp2_with fail
    refine (areBraceTables_any t u _ _ _ (hv.ext hx0) (hy.ext hx0)).mono ?_
    rintro e w1 ⟨rfl, hx1⟩
    rw [hg]
    go_wp2
    go_ret
    exact ⟨rfl, hx0.trans hx1⟩
  | true =>
    obtain ⟨hG, hU, hl⟩ := twoB_iff.1 hg
    have HL := Lib.hid hl
    clear hl
    have e0 := eqNil0
    have e1 := eqNil1
    by_cases hf : faultL t u = []
    · rw [braceB_yes hg hf]
      have HF := Lib.hid hf
      clear hf
      go_enter Try.func63, Try.ntmps63
      go_wp2_with fail
      refine (areBraceTables_any t u _ _ _ (hv.ext hx0) (hy.ext hx0)).mono ?_
      rintro e w1 ⟨rfl, hx1⟩
      rw [hg]
      have j0 := hx1.cell k0
      have j1 := hx1.cell k1
      go_wp2_with fail
      refine (braceFault_any t u _ _ _ (hv.ext (hx0.trans hx1)) (hy.ext (hx0.trans hx1)) hG hU HL.out).mono ?_
      rintro e w2 ⟨r, rfl, -, hr, hx2⟩
      rcases hr with ⟨-, rfl⟩ | ⟨h3, -⟩
      · go_wp2
        go_ret
        exact ⟨rfl, (hx0.trans hx1).trans hx2⟩
      · rw [HF.out] at h3; simp at h3
    · rw [braceB_2 hf]
      have HF := Lib.hid hf
      clear hf
      go_enter Try.func63, Try.ntmps63
      go_wp2_with fail
      refine (areBraceTables_any t u _ _ _ (hv.ext hx0) (hy.ext hx0)).mono ?_
      rintro e w1 ⟨rfl, hx1⟩
      rw [hg]
      have j0 := hx1.cell k0
      have j1 := hx1.cell k1
      go_wp2_with fail
      refine (braceFault_any t u _ _ _ (hv.ext (hx0.trans hx1)) (hy.ext (hx0.trans hx1)) hG hU HL.out).mono ?_
      rintro e w2 ⟨r, rfl, -, hr, hx2⟩
      rcases hr with ⟨h3, -⟩ | ⟨-, rb, rc, rfl⟩
      · exact absurd h3 HF.out
      · go_wp2
        go_ret
        exact ⟨rfl, (hx0.trans hx1).trans hx2⟩
end Go.Proofs.Ytjcpeenalbgacaa
