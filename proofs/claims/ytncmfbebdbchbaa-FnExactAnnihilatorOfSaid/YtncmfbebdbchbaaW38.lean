/-
  Contracts: equality (reference), the socle, trivial and classical braces, the annihilator.
-/
import Derived.Test.YtncmfbebdbchbaaProg
import Derived.Deep.DeepCutAuto
import Derived.Deep.RegionWith
import Derived.Deep.RegionHeld3
import Derived.Deep.DrawnRows
import Derived.Test.YtncmfbebdbchbaaBase
import Derived.Test.YtncmfbebdbchbaaBase2
import Derived.Test.YtncmfbebdbchbaaRet
import Derived.Test.YtncmfbebdbchbaaSteps
import Derived.Test.YtncmfbebdbchbaaGrow
import Derived.Test.YtncmfbebdbchbaaGrowR
import Derived.Test.YtncmfbebdbchbaaPure1
import Derived.Test.YtncmfbebdbchbaaPureOrd
import Derived.Test.YtncmfbebdbchbaaPureInv
import Derived.Test.YtncmfbebdbchbaaPureTurn
import Derived.Test.YtncmfbebdbchbaaPureConj
import Derived.Test.YtncmfbebdbchbaaPureSet
import Derived.Test.YtncmfbebdbchbaaPureBr
import Derived.Test.YtncmfbebdbchbaaPureSoc
import Derived.Test.YtncmfbebdbchbaaW1
import Derived.Test.YtncmfbebdbchbaaW3
import Derived.Test.YtncmfbebdbchbaaW6
import Derived.Test.YtncmfbebdbchbaaW7
import Derived.Test.YtncmfbebdbchbaaW8
import Derived.Test.YtncmfbebdbchbaaW11
import Derived.Test.YtncmfbebdbchbaaW12
import Derived.Test.YtncmfbebdbchbaaW20
import Derived.Test.YtncmfbebdbchbaaW21
import Derived.Test.YtncmfbebdbchbaaW22
import Derived.Test.YtncmfbebdbchbaaW23
import Derived.Test.YtncmfbebdbchbaaW24
import Derived.Test.YtncmfbebdbchbaaW25
import Derived.Test.YtncmfbebdbchbaaW26
import Derived.Test.YtncmfbebdbchbaaW28
import Derived.Test.YtncmfbebdbchbaaW29
import Derived.Test.YtncmfbebdbchbaaW33
import Derived.Test.YtncmfbebdbchbaaK2
import Derived.Test.YtncmfbebdbchbaaK3
namespace Go.Proofs.Ytncmfbebdbchbaa
set_option linter.unusedVariables false
set_option linter.unusedSimpArgs false
open Go.RowKit
attribute [local go_sem ↓] Go.wp_at_zero Go.wp_at_succ

theorem l01Same_any (l m : List Int) (v u : Value) (w : World) (hv : IntsR w v l) (hu : IntsR w u m) (hs : l.length ≤ 1048576) :
    Calls Try.prog 124 #[v, u] w fun e w' => e = .returned (.bool (eqIB l m)) ∧ Drawn w w' := by
  obtain ⟨a1, c1, rfl, h1⟩ := hv
  obtain ⟨a2, c2, rfl, h2⟩ := hu
  have H1 := Lib.hid h1
  have H2 := Lib.hid h2
  clear h1 h2
  by_cases hl : l.length = m.length
  case neg =>
    have hb : ((l.length : Int) != (m.length : Int)) = true := by simp; omega
    go_enter Try.func124, Try.ntmps124
    go_wp2
    go_ret
    exact ⟨ret_bool (eqIB_no (fun e => hl (by rw [e]))).symm, Drawn.refl _⟩
  case pos =>
    rw [← hl]
    have Hl := Lib.hid hl
    clear hl
    go_enter Try.func124, Try.ntmps124
    go_wp2
    go_loopw [5] (fun i wr => ∃ k : Nat, k ≤ l.length ∧ i = .int .i64 k ∧ SameTo l m k ∧ Drawn w wr) (fun i _ => l.length - (intOf i).toNat)
    case atStart => exact ⟨0, Nat.zero_le _, rfl, fun i hi => by omega, Drawn.refl _⟩
    case round =>
      obtain ⟨k, hk, rfl, hto, hx⟩ := hrel
      by_cases hlt : k < l.length
      · obtain ⟨b1, o1, rfl, hc1⟩ := H1.out (ne_nil_of_lt hlt)
        obtain ⟨b2, o2, rfl, hc2⟩ := H2.out (ne_nil_of_lt (k := k) (by have := Hl.out; omega))
        have e1 := hc1.ext hx.ext k hlt
        have e2 := hc2.ext hx.ext k (by have := Hl.out; omega)
        cases he : (ix l k != ix m k) with
        | true =>
          go_wp2
          go_quiet (fail)
          go_wp2
          go_ret
          exact ⟨ret_bool (eqIB_no (fun e => by rw [e] at he; simp at he)).symm, hx.drewN _⟩
        | false =>
          go_wp2
          go_quiet (fail)
          go_wp2
          go_roundw
          case rel => exact ⟨k + 1, by omega, by go_num, fun i hi => by
            by_cases e : i = k
            · rw [e]; simpa using he
            · exact hto i (by omega), hx.drewN _⟩
          case measure => simp [intOf]; omega
      · go_wp2
        go_ret
        exact ⟨ret_bool (eqIB_yes (ix_ext Hl.out (fun i hi => hto i (by omega)))).symm, hx⟩

theorem l01Same2_any (s t : List (List Int)) (v u : Value) (w : World) (hv : RowsR w v s) (hu : RowsR w u t) (hs : Small s) :
    Calls Try.prog 92 #[v, u] w fun e w' => e = .returned (.bool (eqTB s t)) ∧ Drawn w w' := by
  obtain ⟨a1, c1, rfl, h1⟩ := hv
  obtain ⟨a2, c2, rfl, h2⟩ := hu
  obtain ⟨hs0, hs1⟩ := hs
  have HS := Lib.hid hs1
  have H1 := Lib.hid h1
  have H2 := Lib.hid h2
  clear h1 h2 hs1
  by_cases hl : s.length = t.length
  case neg =>
    have hb : ((s.length : Int) != (t.length : Int)) = true := by simp; omega
    go_enter Try.func92, Try.ntmps92
    go_wp2
    go_ret
    exact ⟨ret_bool (eqTB_no (fun e => hl (by rw [e]))).symm, Drawn.refl _⟩
  case pos =>
    rw [← hl]
    have Hl := Lib.hid hl
    clear hl
    go_enter Try.func92, Try.ntmps92
    go_wp2
    go_loopw [5] (fun i wr => ∃ k : Nat, k ≤ s.length ∧ i = .int .i64 k ∧ SameRows s t k ∧ Drawn w wr) (fun i _ => s.length - (intOf i).toNat)
    case atStart => exact ⟨0, Nat.zero_le _, rfl, fun i hi => by omega, Drawn.refl _⟩
    case round =>
      obtain ⟨k, hk, rfl, hto, hx⟩ := hrel
      by_cases hlt : k < s.length
      · obtain ⟨b1, o1, rfl, hc1⟩ := H1.out (ne_nil_of_lt hlt)
        obtain ⟨b2, o2, rfl, hc2⟩ := H2.out (ne_nil_of_lt (k := k) (by have := Hl.out; omega))
        obtain ⟨r1, e1, i1⟩ := hc1 k hlt
        obtain ⟨r2, e2, i2⟩ := hc2 k (by have := Hl.out; omega)
        have e1' := hx.ext.cell e1
        have e2' := hx.ext.cell e2
        clear e1 e2
        have i1' := i1.ext hx.ext
        have i2' := i2.ext hx.ext
        clear i1 i2 hc1 hc2
        have hls := HS.out k
        cases he : eqIB (row s k) (row t k) with
        | true =>
          go_wp2
          go_quiet ((go_at_call 124; exact Calls.quiet_of (l01Same_any _ _ _ _ _ (i1'.ext ((Ext.refl _).drewN _)) (i2'.ext ((Ext.refl _).drewN _)) hls)))
          go_wp2
          go_roundw
          case rel => exact ⟨k + 1, by omega, by go_num, fun i hi => by
            by_cases e : i = k
            · rw [e]; exact eqIB_iff.1 he
            · exact hto i (by omega), hx.drewN _⟩
          case measure => simp [intOf]; omega
        | false =>
          go_wp2
          go_quiet ((go_at_call 124; exact Calls.quiet_of (l01Same_any _ _ _ _ _ (i1'.ext ((Ext.refl _).drewN _)) (i2'.ext ((Ext.refl _).drewN _)) hls)))
          go_wp2
          go_ret
          exact ⟨ret_bool (eqTB_no (fun e => by rw [e, eqIB_yes rfl] at he; cases he)).symm, hx.drewN _⟩
      · go_wp2
        go_ret
        exact ⟨ret_bool (eqTB_yes (row_ext Hl.out (fun i hi => hto i (by omega)))).symm, hx⟩

theorem slicesEqual_dr (l m : List Int) (v u : Value) (w : World) (hv : Ints w v l) (hu : Ints w u m) :
    Calls Try.prog 91 #[v, u] w fun e w' => e = .returned (.bool (eqIB l m)) ∧ Drawn w w' := by
  obtain ⟨hl1, b1, o1, c1, rfl, hc1⟩ := hv
  obtain ⟨hl2, b2, o2, c2, rfl, hc2⟩ := hu
  by_cases hl : l.length = m.length
  case neg =>
    have hb : ((l.length : Int) != (m.length : Int)) = true := by simp; omega
    go_enter Try.func91, Try.ntmps91
    go_wp2
    go_ret
    exact ⟨ret_bool (eqIB_no (fun e => hl (by rw [e]))).symm, Drawn.refl _⟩
  case pos =>
    rw [← hl]
    have Hl := Lib.hid hl
    clear hl
    go_enter Try.func91, Try.ntmps91
    go_wp2
    go_loopw [13] (fun i wr => ∃ k : Nat, k ≤ l.length ∧ i = .int .i64 k ∧ SameTo l m k ∧ Drawn w wr) (fun i _ => l.length - (intOf i).toNat)
    case atStart => exact ⟨0, Nat.zero_le _, rfl, fun i hi => by omega, Drawn.refl _⟩
    case round =>
      obtain ⟨k, hk, rfl, hto, hx⟩ := hrel
      by_cases hlt : k < l.length
      · have e1 := hc1.ext hx.ext k hlt
        have e2 := hc2.ext hx.ext k (by have := Hl.out; omega)
        cases he : (ix l k != ix m k) with
        | true =>
          go_wp2
          go_quiet (fail)
          go_wp2
          go_ret
          exact ⟨ret_bool (eqIB_no (fun e => by rw [e] at he; simp at he)).symm, hx.drewN _⟩
        | false =>
          go_wp2
          go_quiet (fail)
          go_wp2
          go_roundw
          case rel => exact ⟨k + 1, by omega, by go_num, all_succ hto (by simpa using he), hx.drewN _⟩
          case measure => simp [intOf]; omega
      · go_wp2
        go_ret
        exact ⟨ret_bool (eqIB_yes (ix_ext Hl.out (fun i hi => hto i (by omega)))).symm, hx⟩

set_option maxRecDepth 100000 in
theorem IsTrivialBrace_spec (t u : List (List Int)) (v y : Value) (w : World) (hv : Rows w v t) (hy : Rows w y u) :
    Calls Try.prog 51 #[.agg #[v, y]] w (RetBI (ifB t u (eqTB t u) false) (codeB t u) w) := by
  obtain ⟨hlen, b, o, c, rfl, hc⟩ := id hv
  obtain ⟨hlen2, b2, o2, c2, rfl, hc2⟩ := id hy
  have hX := ext_boxB w (.slice (some ⟨b, o, none⟩) t.length c) (.slice (some ⟨b2, o2, none⟩) u.length c2) 41
  have k0 := cell_new2a w (.slice (some ⟨b, o, none⟩) t.length c) (.slice (some ⟨b2, o2, none⟩) u.length c2) 41
  have k1 := cell_new2b w (.slice (some ⟨b, o, none⟩) t.length c) (.slice (some ⟨b2, o2, none⟩) u.length c2) 41
  cases hb : braceB t u with
  | false =>
    rw [ifB_no hb, codeB_no hb]
    clear hc hc2
    go_enter Try.func51, Try.ntmps51
    go_wp2_with fail
    refine (l11Is_any t u _ _ _ (hv.ext hX) (hy.ext hX)).mono ?_
    rintro e wn ⟨rfl, hx⟩
    replace hX := hX.trans hx
    replace k0 := hx.cell k0
    replace k1 := hx.cell k1
    clear hx
    rw [hb]
    go_wp2
    go_ret2
    exact ⟨rfl, hX⟩
  | true =>
    rw [ifB_yes hb, codeB_yes hb]
    obtain ⟨hG, hU, hL⟩ := braceB_ok hb
    have HL := Lib.hid hL
    have HG := Lib.hid hG
    have HU := Lib.hid hU
    have h12 := hG.1.2.1
    have HBR := Lib.hid hb
    clear hL hG hU
    go_enter Try.func51, Try.ntmps51
    go_wp2_with fail
    refine (l11Is_any t u _ _ _ (hv.ext hX) (hy.ext hX)).mono ?_
    rintro e wn ⟨rfl, hx⟩
    replace hX := hX.trans hx
    replace k0 := hx.cell k0
    replace k1 := hx.cell k1
    clear hx
    rw [hb]
    clear hb
    have hs1 := hv.small
    go_wp2_with fail
    refine (l01Same2_any t u _ _ _ (hv.ext hX).toR (hy.ext hX).toR hs1).mono ?_
    rintro e w3 ⟨rfl, hx⟩
    go_wp2
    go_ret2
    exact ⟨rfl, hX.trans hx.ext⟩

set_option maxRecDepth 100000 in
theorem IsTrivialBrace_impl (t u : List (List Int)) (v y : Value) (w : World) (hv : Rows w v t) (hy : Rows w y u) :
    Calls Try.prog 52 #[.agg #[v, y]] w (RetBI (ifB t u (eqTB t u) false) (codeB t u) w) := by
  obtain ⟨hlen, b, o, c, rfl, hc⟩ := id hv
  obtain ⟨hlen2, b2, o2, c2, rfl, hc2⟩ := id hy
  have hX := ext_boxB w (.slice (some ⟨b, o, none⟩) t.length c) (.slice (some ⟨b2, o2, none⟩) u.length c2) 41
  have k0 := cell_new2a w (.slice (some ⟨b, o, none⟩) t.length c) (.slice (some ⟨b2, o2, none⟩) u.length c2) 41
  have k1 := cell_new2b w (.slice (some ⟨b, o, none⟩) t.length c) (.slice (some ⟨b2, o2, none⟩) u.length c2) 41
  cases hb : braceB t u with
  | false =>
    rw [ifB_no hb, codeB_no hb]
    clear hc hc2
    go_enter Try.func52, Try.ntmps52
    go_wp2_with fail
    refine (IsBrace_impl t u _ _ _ (hv.ext hX) (hy.ext hX)).mono ?_
    rintro e wn ⟨rfl, hx⟩
    replace hX := hX.trans hx
    replace k0 := hx.cell k0
    replace k1 := hx.cell k1
    clear hx
    rw [hb]
    go_wp2
    go_ret2
    exact ⟨rfl, hX⟩
  | true =>
    rw [ifB_yes hb, codeB_yes hb]
    obtain ⟨hG, hU, hL⟩ := braceB_ok hb
    have HL := Lib.hid hL
    have HG := Lib.hid hG
    have HU := Lib.hid hU
    have h12 := hG.1.2.1
    have HBR := Lib.hid hb
    clear hL hG hU
    go_enter Try.func52, Try.ntmps52
    go_wp2_with fail
    refine (IsBrace_impl t u _ _ _ (hv.ext hX) (hy.ext hX)).mono ?_
    rintro e wn ⟨rfl, hx⟩
    replace hX := hX.trans hx
    replace k0 := hx.cell k0
    replace k1 := hx.cell k1
    clear hx
    rw [hb]
    clear hb
    have hs1 := hv.small
    go_wp2_with fail
    refine (equalTables_any t u _ _ _ (hv.ext hX) (hy.ext hX)).mono ?_
    rintro e w3 ⟨rfl, rfl⟩
    go_wp2
    go_ret2
    exact ⟨rfl, hX⟩

set_option maxRecDepth 100000 in
theorem IsClassicalBrace_spec (t u : List (List Int)) (v y : Value) (w : World) (hv : Rows w v t) (hy : Rows w y u) :
    Calls Try.prog 55 #[.agg #[v, y]] w (RetBI (ifB t u (abelB t) false) (codeB t u) w) := by
  obtain ⟨hlen, b, o, c, rfl, hc⟩ := id hv
  obtain ⟨hlen2, b2, o2, c2, rfl, hc2⟩ := id hy
  have hX := ext_boxB w (.slice (some ⟨b, o, none⟩) t.length c) (.slice (some ⟨b2, o2, none⟩) u.length c2) 41
  have k0 := cell_new2a w (.slice (some ⟨b, o, none⟩) t.length c) (.slice (some ⟨b2, o2, none⟩) u.length c2) 41
  have k1 := cell_new2b w (.slice (some ⟨b, o, none⟩) t.length c) (.slice (some ⟨b2, o2, none⟩) u.length c2) 41
  cases hb : braceB t u with
  | false =>
    rw [ifB_no hb, codeB_no hb]
    clear hc hc2
    go_enter Try.func55, Try.ntmps55
    go_wp2_with fail
    refine (l11Is_any t u _ _ _ (hv.ext hX) (hy.ext hX)).mono ?_
    rintro e wn ⟨rfl, hx⟩
    replace hX := hX.trans hx
    replace k0 := hx.cell k0
    replace k1 := hx.cell k1
    clear hx
    rw [hb]
    go_wp2
    go_ret2
    exact ⟨rfl, hX⟩
  | true =>
    rw [ifB_yes hb, codeB_yes hb]
    obtain ⟨hG, hU, hL⟩ := braceB_ok hb
    have HL := Lib.hid hL
    have HG := Lib.hid hG
    have HU := Lib.hid hU
    have h12 := hG.1.2.1
    have HBR := Lib.hid hb
    clear hL hG hU
    go_enter Try.func55, Try.ntmps55
    go_wp2_with fail
    refine (l11Is_any t u _ _ _ (hv.ext hX) (hy.ext hX)).mono ?_
    rintro e wn ⟨rfl, hx⟩
    replace hX := hX.trans hx
    replace k0 := hx.cell k0
    replace k1 := hx.cell k1
    clear hx
    rw [hb]
    clear hb
    go_wp2_with fail
    refine (l10Abelian_any t _ _ (hv.ext hX) HG.out.1).mono ?_
    rintro e w3 ⟨rfl, hx⟩
    go_wp2
    go_ret2
    exact ⟨rfl, hX.trans hx⟩

set_option maxRecDepth 100000 in
theorem IsClassicalBrace_impl (t u : List (List Int)) (v y : Value) (w : World) (hv : Rows w v t) (hy : Rows w y u) :
    Calls Try.prog 56 #[.agg #[v, y]] w (RetBI (ifB t u (abelB t) false) (codeB t u) w) := by
  obtain ⟨hlen, b, o, c, rfl, hc⟩ := id hv
  obtain ⟨hlen2, b2, o2, c2, rfl, hc2⟩ := id hy
  have hX := ext_boxB w (.slice (some ⟨b, o, none⟩) t.length c) (.slice (some ⟨b2, o2, none⟩) u.length c2) 41
  have k0 := cell_new2a w (.slice (some ⟨b, o, none⟩) t.length c) (.slice (some ⟨b2, o2, none⟩) u.length c2) 41
  have k1 := cell_new2b w (.slice (some ⟨b, o, none⟩) t.length c) (.slice (some ⟨b2, o2, none⟩) u.length c2) 41
  cases hb : braceB t u with
  | false =>
    rw [ifB_no hb, codeB_no hb]
    clear hc hc2
    go_enter Try.func56, Try.ntmps56
    go_wp2_with fail
    refine (IsBrace_impl t u _ _ _ (hv.ext hX) (hy.ext hX)).mono ?_
    rintro e wn ⟨rfl, hx⟩
    replace hX := hX.trans hx
    replace k0 := hx.cell k0
    replace k1 := hx.cell k1
    clear hx
    rw [hb]
    go_wp2
    go_ret2
    exact ⟨rfl, hX⟩
  | true =>
    rw [ifB_yes hb, codeB_yes hb]
    obtain ⟨hG, hU, hL⟩ := braceB_ok hb
    have HL := Lib.hid hL
    have HG := Lib.hid hG
    have HU := Lib.hid hU
    have h12 := hG.1.2.1
    have HBR := Lib.hid hb
    clear hL hG hU
    go_enter Try.func56, Try.ntmps56
    go_wp2_with fail
    refine (IsBrace_impl t u _ _ _ (hv.ext hX) (hy.ext hX)).mono ?_
    rintro e wn ⟨rfl, hx⟩
    replace hX := hX.trans hx
    replace k0 := hx.cell k0
    replace k1 := hx.cell k1
    clear hx
    rw [hb]
    clear hb
    have hab := abelB_def t
    have hsl := hX.size
    obtain ⟨w1, rfl⟩ : ∃ z : World, z = wn := ⟨_, rfl⟩
    go_wp2
    go_region_with (first
      | (go_at_call 88; refine (transposed_any t _ _ (hv.ext hX.drew) HG.out.1).mono ?_; rintro e w2 ⟨rb, rc, rfl, ho, hx2⟩; have d2 := hx2.cell (show w1.drew.cell? _ = some _ from k0))
      | (go_at_call 93; refine (equalTables_any t (turnT t) _ _ _ (hv.ext (hX.drew.trans hx2)) ((ho.rowsAt (small_turnT (by omega))).rows (by rw [length_turnT]; omega) rc)).mono ?_; rintro e w3 ⟨rfl, rfl⟩; rw [hab]))
    all_goals
      go_wp2
      go_ret2
      exact ⟨rfl, hX.drew.trans hx2⟩

set_option maxRecDepth 100000 in
set_option maxHeartbeats 1000000 in
theorem l12Socle_any (t u : List (List Int)) (v y : Value) (w : World) (hv : Rows w v t) (hy : Rows w y u) (hG : TableOk t) (hU : TableOk u) (hl : t.length = u.length) :
    Calls Try.prog 79 #[.agg #[v, y]] w fun e w' => e = .returned (.int .i64 (socI t u)) ∧ Ext w w' := by
  obtain ⟨hlen, b, o, c, rfl, hc⟩ := id hv
  obtain ⟨hlen2, b2, o2, c2, rfl, hc2⟩ := id hy
  have hX := ext_boxB w (.slice (some ⟨b, o, none⟩) t.length c) (.slice (some ⟨b2, o2, none⟩) u.length c2) 41
  have k0 := cell_new2a w (.slice (some ⟨b, o, none⟩) t.length c) (.slice (some ⟨b2, o2, none⟩) u.length c2) 41
  have k1 := cell_new2b w (.slice (some ⟨b, o, none⟩) t.length c) (.slice (some ⟨b2, o2, none⟩) u.length c2) 41
  have h12 := hG.2.1
  have HG := Lib.hid hG
  have HU := Lib.hid hU
  have HL := Lib.hid hl.symm
  rw [socI_def]
  generalize hp : (fun x => socB t u x t.length) = p
  have HP := Lib.hid (fun x => congrFun hp x)
  clear hG hU hl hp
  go_enter Try.func79, Try.ntmps79
  go_wp2
  generalize (w.alloc (.cells #[.slice (some ⟨b, o, none⟩) t.length c, .slice (some ⟨b2, o2, none⟩) u.length c2] 41)) = A at *
  go_loopw [3, 4] (fun s i wr => ∃ k : Nat, k ≤ t.length ∧ i = .int .i64 k ∧ s = .int .i64 (setOf p k) ∧ Ext A wr) (fun _ i _ => t.length - (intOf i).toNat)
  case atStart => exact ⟨0, Nat.zero_le _, rfl, by rw [setOf_zero], Ext.refl _⟩
  case round =>
    obtain ⟨k, hk, rfl, rfl, hx⟩ := hrel
    have j0 := hx.cell k0
    have j1 := hx.cell k1
    by_cases hlt : k < t.length
    · obtain ⟨w2, rfl⟩ : ∃ w2 : World, w2 = wr := ⟨_, rfl⟩
      go_wp2
      go_loopw [5, 6] (fun s i wr => ∃ j : Nat, j ≤ t.length ∧ i = .int .i64 j ∧ s = .bool (socB t u k j) ∧ Ext w2 wr) (fun _ i _ => t.length - (intOf i).toNat)
      case atStart => exact ⟨0, Nat.zero_le _, rfl, by rw [socB_zero], Ext.refl _⟩
      case round =>
        obtain ⟨j, hj, rfl, rfl, hx2⟩ := hrel
        have m0 := hx2.cell j0
        have m1 := hx2.cell j1
        by_cases hjk : j < t.length
        · have hXX := hX.trans (hx.trans hx2)
          have iu : (k : Int) < (u.length : Int) := by have := HL.out; omega
          obtain ⟨d1, s1, n1, r1, l1⟩ := (hc2.ext hXX).read HU.out HL.out hlt
          obtain ⟨e1, i1, i2⟩ := l1 j hjk
          obtain ⟨d2, s2, n2, r2, l2⟩ := (hc.ext hXX).read HG.out rfl hlt
          obtain ⟨e2, i3, i4⟩ := l2 j hjk
          obtain ⟨d3, s3, n3, r3, l3⟩ := (hc.ext hXX).read HG.out rfl hjk
          obtain ⟨e3, i5, i6⟩ := l3 k hlt
          clear l1 l2 l3
          have HS := Lib.hid (socB_succ t u k j)
          cases hcb : socB t u k j with
          | true =>
            cases hA : (ent u k j == ent t k j) with
            | true =>
              go_wp2
              go_quiet (fail)
              go_wp2
              go_roundw
              case rel => exact ⟨j + 1, by omega, by go_num, by rw [HS.out, hcb, hA]; simp, hx2.drewN _⟩
              case measure => simp [intOf]; omega
            | false =>
              go_wp2
              go_quiet (fail)
              go_wp2
              go_roundw
              case rel => exact ⟨j + 1, by omega, by go_num, by rw [HS.out, hcb, hA]; simp, hx2.drewN _⟩
              case measure => simp [intOf]; omega
          | false =>
            go_wp2
            go_quiet (fail)
            go_wp2
            go_roundw
            case rel => exact ⟨j + 1, by omega, by go_num, by rw [HS.out, hcb]; simp, hx2.drewN _⟩
            case measure => simp [intOf]; omega
        · have hjj : j = t.length := by omega
          subst hjj
          have hpk := HP.out k
          cases hcb : socB t u k t.length with
          | true =>
            have HY := Lib.hid (setOf_yes (p := p) (k := k) (by rw [← hpk]; exact hcb))
            clear hpk
            go_wp2
            go_roundw
            case rel => exact ⟨k + 1, by omega, by go_num, by rw [HY.out], hx.trans hx2⟩
            case measure => simp [intOf]; omega
          | false =>
            have HY := Lib.hid (setOf_no (p := p) (k := k) (by rw [← hpk]; exact hcb))
            clear hpk
            go_wp2
            go_roundw
            case rel => exact ⟨k + 1, by omega, by go_num, by rw [HY.out], hx.trans hx2⟩
            case measure => simp [intOf]; omega
    · go_wp2
      go_ret
      have hkk : k = t.length := by omega
      exact ⟨ret_int (by rw [hkk]), hX.trans hx⟩

set_option maxRecDepth 100000 in
set_option maxHeartbeats 1000000 in
theorem socleOf_any (t u : List (List Int)) (v y : Value) (w : World) (hv : Rows w v t) (hy : Rows w y u) (hG : TableOk t) (hU : TableOk u) (hl : t.length = u.length) :
    Calls Try.prog 80 #[.agg #[v, y]] w fun e w' => e = .returned (.int .i64 (socI t u)) ∧ Ext w w' := by
  obtain ⟨hlen, b, o, c, rfl, hc⟩ := id hv
  obtain ⟨hlen2, b2, o2, c2, rfl, hc2⟩ := id hy
  have hX := ext_boxB w (.slice (some ⟨b, o, none⟩) t.length c) (.slice (some ⟨b2, o2, none⟩) u.length c2) 41
  have k0 := cell_new2a w (.slice (some ⟨b, o, none⟩) t.length c) (.slice (some ⟨b2, o2, none⟩) u.length c2) 41
  have k1 := cell_new2b w (.slice (some ⟨b, o, none⟩) t.length c) (.slice (some ⟨b2, o2, none⟩) u.length c2) 41
  have h12 := hG.2.1
  have HG := Lib.hid hG
  have HU := Lib.hid hU
  have HL := Lib.hid hl.symm
  have HCR := Lib.hid (fun x (hx : x < t.length) => socB_row hG hU hl hx)
  rw [socI_def]
  generalize hp : (fun x => socB t u x t.length) = p
  have HP := Lib.hid (fun x => congrFun hp x)
  clear hG hU hl hp
  go_enter Try.func80, Try.ntmps80
  go_wp2_with fail
  generalize (w.alloc (.cells #[.slice (some ⟨b, o, none⟩) t.length c, .slice (some ⟨b2, o2, none⟩) u.length c2] 41)) = A at *
  refine (transposed_any t _ _ (hv.ext hX) HG.out).mono ?_
  rintro e w2 ⟨rb, rc, rfl, ho, hx2⟩
  replace k0 := hx2.cell k0
  replace k1 := hx2.cell k1
  replace hX := hX.trans hx2
  have hra := ho.rowsAt (small_turnT (by omega))
  rw [length_turnT]
  clear ho hx2
  go_wp2
  go_loopw [4, 13] (fun s i wr => ∃ k : Nat, k ≤ t.length ∧ i = .int .i64 k ∧ s = .int .i64 (setOf p k) ∧ Ext w2 wr) (fun _ i _ => t.length - (intOf i).toNat)
  case atStart => exact ⟨0, Nat.zero_le _, rfl, by rw [setOf_zero], Ext.refl _⟩
  case round =>
    obtain ⟨k, hk, rfl, rfl, hx⟩ := hrel
    have j0 := hx.cell k0
    have j1 := hx.cell k1
    by_cases hlt : k < t.length
    · have iu : (k : Int) < (u.length : Int) := by have := HL.out; omega
      obtain ⟨b4, o4, c4, r4, i4, m4⟩ := (hc.ext (hX.trans hx)).get hlt
      obtain ⟨b6, o6, c6, r6, i6, m6⟩ := (hc2.ext (hX.trans hx)).get (i := k) (by omega)
      obtain ⟨b5, o5, c5, r5, i5, m5⟩ := (hra.ext hx).get (i := k) (by rw [length_turnT]; exact hlt)
      rw [Nat.zero_add] at r5
      have e4 := i4.ints m4 c4
      have e5 := i5.ints m5 c5
      have e6 := i6.ints m6 c6
      have hpk := HP.out k
      have HR := Lib.hid (HCR.out k hlt)
      clear i4 i5 i6
      have E5 := Lib.hid e5
      have E4 := Lib.hid e4
      have E6 := Lib.hid e6
      clear e4 e5 e6
      cases hA : eqIB (row t k) (row u k) with
      | false =>
        have hcb : socB t u k t.length = false := by rw [← HR.out, hA]; rfl
        have HY := Lib.hid (setOf_no (p := p) (k := k) (by rw [← hpk]; exact hcb))
        clear hpk hcb
        go_wp2_with fail
        refine (slicesEqual_any _ _ _ _ _ E4.out E6.out).mono ?_
        rintro e w5 ⟨rfl, hx5⟩
        rw [hA]
        go_wp2
        go_roundw
        case rel => exact ⟨k + 1, by omega, by go_num, by rw [HY.out], hx.trans hx5⟩
        case measure => simp [intOf]; omega
      | true =>
        cases hB : eqIB (row t k) (row (turnT t) k) with
        | false =>
          have hcb : socB t u k t.length = false := by rw [← HR.out, hA, hB]; rfl
          have HY := Lib.hid (setOf_no (p := p) (k := k) (by rw [← hpk]; exact hcb))
          clear hpk hcb
          go_wp2_with fail
          refine (slicesEqual_any _ _ _ _ _ E4.out E6.out).mono ?_
          rintro e w5 ⟨rfl, hx5⟩
          rw [hA]
          replace r5 := hx5.cell r5
          go_wp2_with fail
          refine (slicesEqual_any _ _ _ _ _ (E4.out.ext hx5) (E5.out.ext hx5)).mono ?_
          rintro e w6 ⟨rfl, hx6⟩
          rw [hB]
          go_wp2
          go_roundw
          case rel => exact ⟨k + 1, by omega, by go_num, by rw [HY.out], hx.trans (hx5.trans hx6)⟩
          case measure => simp [intOf]; omega
        | true =>
          have hcb : socB t u k t.length = true := by rw [← HR.out, hA, hB]; rfl
          have HY := Lib.hid (setOf_yes (p := p) (k := k) (by rw [← hpk]; exact hcb))
          clear hpk hcb
          go_wp2_with fail
          refine (slicesEqual_any _ _ _ _ _ E4.out E6.out).mono ?_
          rintro e w5 ⟨rfl, hx5⟩
          rw [hA]
          replace r5 := hx5.cell r5
          go_wp2_with fail
          refine (slicesEqual_any _ _ _ _ _ (E4.out.ext hx5) (E5.out.ext hx5)).mono ?_
          rintro e w6 ⟨rfl, hx6⟩
          rw [hB]
          go_wp2
          go_roundw
          case rel => exact ⟨k + 1, by omega, by go_num, by rw [HY.out], hx.trans (hx5.trans hx6)⟩
          case measure => simp [intOf]; omega
    · go_wp2
      go_ret
      have hkk : k = t.length := by omega
      exact ⟨ret_int (by rw [hkk]), hX.trans hx⟩

set_option maxRecDepth 100000 in
theorem SocleOf_spec (t u : List (List Int)) (v y : Value) (w : World) (hv : Rows w v t) (hy : Rows w y u) :
    Calls Try.prog 33 #[.agg #[v, y]] w (RetII (ifB t u (socI t u) 0) (codeB t u) w) := by
  obtain ⟨hlen, b, o, c, rfl, hc⟩ := id hv
  obtain ⟨hlen2, b2, o2, c2, rfl, hc2⟩ := id hy
  have hX := ext_boxB w (.slice (some ⟨b, o, none⟩) t.length c) (.slice (some ⟨b2, o2, none⟩) u.length c2) 41
  have k0 := cell_new2a w (.slice (some ⟨b, o, none⟩) t.length c) (.slice (some ⟨b2, o2, none⟩) u.length c2) 41
  have k1 := cell_new2b w (.slice (some ⟨b, o, none⟩) t.length c) (.slice (some ⟨b2, o2, none⟩) u.length c2) 41
  cases hb : braceB t u with
  | false =>
    rw [ifB_no hb, codeB_no hb]
    clear hc hc2
    go_enter Try.func33, Try.ntmps33
    go_wp2_with fail
    refine (l11Is_any t u _ _ _ (hv.ext hX) (hy.ext hX)).mono ?_
    rintro e wn ⟨rfl, hx⟩
    replace hX := hX.trans hx
    replace k0 := hx.cell k0
    replace k1 := hx.cell k1
    clear hx
    rw [hb]
    go_wp2
    go_ret2
    exact ⟨rfl, hX⟩
  | true =>
    rw [ifB_yes hb, codeB_yes hb]
    obtain ⟨hG, hU, hL⟩ := braceB_ok hb
    have HL := Lib.hid hL
    have HG := Lib.hid hG
    have HU := Lib.hid hU
    have h12 := hG.1.2.1
    have HBR := Lib.hid hb
    clear hL hG hU
    go_enter Try.func33, Try.ntmps33
    go_wp2_with fail
    refine (l11Is_any t u _ _ _ (hv.ext hX) (hy.ext hX)).mono ?_
    rintro e wn ⟨rfl, hx⟩
    replace hX := hX.trans hx
    replace k0 := hx.cell k0
    replace k1 := hx.cell k1
    clear hx
    rw [hb]
    clear hb
    go_wp2_with fail
    refine (l12Socle_any t u _ _ _ (hv.ext hX) (hy.ext hX) HG.out.1 HU.out.1 HL.out).mono ?_
    rintro e w3 ⟨rfl, hx⟩
    go_wp2
    go_ret2
    exact ⟨rfl, hX.trans hx⟩

set_option maxRecDepth 100000 in
theorem SocleOf_impl (t u : List (List Int)) (v y : Value) (w : World) (hv : Rows w v t) (hy : Rows w y u) :
    Calls Try.prog 34 #[.agg #[v, y]] w (RetII (ifB t u (socI t u) 0) (codeB t u) w) := by
  obtain ⟨hlen, b, o, c, rfl, hc⟩ := id hv
  obtain ⟨hlen2, b2, o2, c2, rfl, hc2⟩ := id hy
  have hX := ext_boxB w (.slice (some ⟨b, o, none⟩) t.length c) (.slice (some ⟨b2, o2, none⟩) u.length c2) 41
  have k0 := cell_new2a w (.slice (some ⟨b, o, none⟩) t.length c) (.slice (some ⟨b2, o2, none⟩) u.length c2) 41
  have k1 := cell_new2b w (.slice (some ⟨b, o, none⟩) t.length c) (.slice (some ⟨b2, o2, none⟩) u.length c2) 41
  cases hb : braceB t u with
  | false =>
    rw [ifB_no hb, codeB_no hb]
    clear hc hc2
    go_enter Try.func34, Try.ntmps34
    go_wp2_with fail
    refine (IsBrace_impl t u _ _ _ (hv.ext hX) (hy.ext hX)).mono ?_
    rintro e wn ⟨rfl, hx⟩
    replace hX := hX.trans hx
    replace k0 := hx.cell k0
    replace k1 := hx.cell k1
    clear hx
    rw [hb]
    go_wp2
    go_ret2
    exact ⟨rfl, hX⟩
  | true =>
    rw [ifB_yes hb, codeB_yes hb]
    obtain ⟨hG, hU, hL⟩ := braceB_ok hb
    have HL := Lib.hid hL
    have HG := Lib.hid hG
    have HU := Lib.hid hU
    have h12 := hG.1.2.1
    have HBR := Lib.hid hb
    clear hL hG hU
    go_enter Try.func34, Try.ntmps34
    go_wp2_with fail
    refine (IsBrace_impl t u _ _ _ (hv.ext hX) (hy.ext hX)).mono ?_
    rintro e wn ⟨rfl, hx⟩
    replace hX := hX.trans hx
    replace k0 := hx.cell k0
    replace k1 := hx.cell k1
    clear hx
    rw [hb]
    clear hb
    go_wp2_with fail
    refine (socleOf_any t u _ _ _ (hv.ext hX) (hy.ext hX) HG.out.1 HU.out.1 HL.out).mono ?_
    rintro e w3 ⟨rfl, hx⟩
    go_wp2
    go_ret2
    exact ⟨rfl, hX.trans hx⟩

end Go.Proofs.Ytncmfbebdbchbaa
