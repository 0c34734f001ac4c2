/-
  The law FnGroupQuotients, walked.
-/
import Derived.Test.YtbfhecckapgpnaaGreatProg
import Derived.Deep.DeepCutAuto
import Derived.Deep.RegionWith
import Derived.BigQuiet
import Derived.Test.YtbfhecckapgpnaaGreatJx0
import Derived.Test.YtbfhecckapgpnaaGreatJx1
import Derived.Test.YtbfhecckapgpnaaGreatJx2
import Derived.Test.YtbfhecckapgpnaaGreatJx8
import Derived.Test.YtbfhecckapgpnaaGreatJx9
import Derived.Test.YtbfhecckapgpnaaGreatJx7
import Derived.Test.YtbfhecckapgpnaaGreatJx3
import Derived.Test.YtbfhecckapgpnaaGreatJx22
import Derived.Test.YtbfhecckapgpnaaGreatJx41
import Derived.Test.YtbfhecckapgpnaaGreatJx10
import Derived.Test.YtbfhecckapgpnaaGreatJx12
import Derived.Test.YtbfhecckapgpnaaGreatJx49
import Derived.Test.YtbfhecckapgpnaaGreatJx53
import Derived.Test.YtbfhecckapgpnaaGreatJx34
import Derived.Test.YtbfhecckapgpnaaGreatJx50
import Derived.Test.YtbfhecckapgpnaaGreatJx39
import Derived.Test.YtbfhecckapgpnaaGreatJx4
import Derived.Test.YtbfhecckapgpnaaGreatJx40
import Derived.Test.YtbfhecckapgpnaaGreatJx11
namespace Go.Proofs.YtbfhecckapgpnaaGreat
set_option linter.unusedVariables false
set_option linter.unusedSimpArgs false
open Go.RowKit
attribute [local go_sem ↓] Go.wp_at_zero Go.wp_at_succ
open Go.Deep

theorem OwnV.shape {lo hi : Nat} {w : World} {v : Value} {t : List (List Int)} (h : OwnV lo hi w v t) : ∃ a c, v = .slice a t.length c := by
  obtain ⟨-, a, c, e, -⟩ := h
  exact ⟨a, c, e⟩
theorem RowsR.shape {w : World} {v : Value} {t : List (List Int)} (h : RowsR w v t) : ∃ a c, v = .slice a t.length c := by
  obtain ⟨a, c, e, -⟩ := h
  exact ⟨a, c, e⟩
theorem bits9_eq {x : Int} {m : Nat} (h : x = (m : Int)) (hm : m < 2 ^ 62) (w : World) : Calls Tryz.prog 13 #[.int .i64 x] w fun e w' => e = .returned (.int .i64 (popN m)) ∧ w = w' := by
  subst h
  exact bits9_any m w hm
/-- the three ways of a quotient -/
theorem quo_ways (t : List (List Int)) (a : Int) : (subC t a ≠ 0 ∧ quoC t a ≠ 0) ∨ (subC t a = 0 ∧ normV t a = false ∧ quoC t a ≠ 0) ∨ (subC t a = 0 ∧ normV t a = true ∧ quoC t a = 0) := by
  by_cases h : subC t a = 0
  · obtain ⟨hg, m, rfl, hm, hs⟩ := subC_zero h
    rw [normV_good h]
    cases hn : normB t m with
    | true => exact .inr (.inr ⟨h, rfl, (quo_yes h hn).1⟩)
    | false => exact .inr (.inl ⟨h, rfl, by rw [(quo_no h hn).1]; decide⟩)
  · exact .inl ⟨h, by rw [(quo_bad h).1]; exact h⟩
/-- what holds of a quotient -/
theorem quo_facts {t : List (List Int)} {a : Int} (h : quoC t a = 0) : ∃ m : Nat, a = (m : Int) ∧ m < 2 ^ 62 ∧ groupB (quoV t a) = true ∧ ((quoV t a).length : Int) * (popN m : Int) = (t.length : Int) ∧ t.length ≤ 12 := by
  have h0 : subC t a = 0 := by
    apply Classical.byContradiction
    intro hn
    rw [(quo_bad hn).1] at h
    exact hn h
  obtain ⟨hg, m, rfl, hm, hs⟩ := subC_zero h0
  have hn : normB t m = true := by
    apply Classical.byContradiction
    intro hn
    rw [(quo_no h0 (by simpa using hn)).1] at h
    cases h
  have hG := groupB_iff.1 hg
  have h12 := hG.1.2.1
  obtain ⟨q1, q2⟩ := quo_group hG hm hs hn
  rw [(quo_yes h0 hn).2, q2]
  refine ⟨m, rfl, lt62 h12 hm, groupB_iff.2 q1, ?_, h12⟩
  have hq := quo_count hG hm hs
  rw [← popN_bit hm (by omega)] at hq
  rw [← hq]
  simp

set_option maxRecDepth 100000 in
set_option maxHeartbeats 4000000 in
theorem lawGroupQuotients (w : World) (bs : List Int) (v : Value) (hv : BytesR w v bs) :
    Calls Tryz.prog 3 #[v] w fun e w' => e = .returned (.bool true) ∧ Ext w w' := by
  obtain ⟨va, vc, rfl, -⟩ := id hv
  go_enter Tryz.func3, Tryz.ntmps3
  go_wp2_with fail
  refine (big_any va bs.length vc w).mono ?_
  rintro e w1 ⟨rfl, rfl⟩
  by_cases hbig : 4096 < (bs.length : Int)
  case pos =>
    go_wp2
    go_ret
    exact ⟨rfl, Ext.refl _⟩
  case neg =>
    have HV := Lib.hid hv
    have HB := Lib.hid hbig
    clear hv hbig
    have hbig : ¬ 4096 < (bs.length : Int) := by have := HB.out; omega
    go_wp2_with fail
    refine (DrawQuotientGroup_any bs _ _ HV.out (by omega)).mono ?_
    rintro e w1 ⟨v1, T, x, rfl, hr, hl, hX⟩
    obtain ⟨b, o, c, rfl⟩ := hr.shape
    clear hbig
    have hxg := ext_box w1 (.slice (some ⟨b, o, none⟩) T.length c) 26
    have bg := cell_new w1 (.slice (some ⟨b, o, none⟩) T.length c) 26
    replace hX := hX.trans hxg
    replace hr := hr.ext hxg
    go_wp2_with fail
    generalize (w1.alloc (.cells #[.slice (some ⟨b, o, none⟩) T.length c] 26)) = w2 at *
    clear hxg
    refine (QuotientGroup_impl T _ x _ hr).mono ?_
    rintro e w3 ⟨qv, rfl, qo, hx⟩
    have HQ := Lib.hid qo.toR
    have HQS := Lib.hid qo.1
    obtain ⟨qa, qc, rfl⟩ := qo.shape
    clear qo
    replace hX := hX.trans hx
    replace hr := hr.ext hx
    replace bg := hx.cell bg
    clear hx
    have hx := ext_box w3 (.slice qa (quoV T x).length qc) 26
    have bq := cell_new w3 (.slice qa (quoV T x).length qc) 26
    replace hX := hX.trans hx
    replace hr := hr.ext hx
    replace bg := hx.cell bg
    replace HQ := Lib.hid (HQ.out.ext hx)
    clear hx
    go_wp2_with fail
    generalize (w3.alloc (.cells #[.slice qa (quoV T x).length qc] 26)) = w3x at *
    refine (QuotientGroup_spec T _ x _ hr).mono ?_
    rintro e w4 ⟨uv, rfl, hu, hx⟩
    have HU := Lib.hid hu
    obtain ⟨ua, uc, rfl⟩ := hu.shape
    clear hu
    replace hX := hX.trans hx
    replace hr := hr.ext hx
    replace bg := hx.cell bg
    replace bq := hx.cell bq
    replace HQ := Lib.hid (HQ.out.ext hx)
    clear hx
    have hx := ext_box w4 (.slice ua (quoV T x).length uc) 26
    have bu := cell_new w4 (.slice ua (quoV T x).length uc) 26
    replace hX := hX.trans hx
    replace hr := hr.ext hx
    replace bg := hx.cell bg
    replace bq := hx.cell bq
    replace HQ := Lib.hid (HQ.out.ext hx)
    replace HU := Lib.hid (HU.out.ext hx)
    clear hx
    have hsm := eqTB_yes (rfl : quoV T x = quoV T x)
    go_wp2_with fail
    generalize (w4.alloc (.cells #[.slice ua (quoV T x).length uc] 26)) = w4x at *
    refine (same9_any _ _ _ _ _ HQ.out HU.out HQS.out).mono ?_
    rintro e w5 ⟨rfl, hd⟩
    rw [hsm]
    have hx := hd.ext
    replace hX := hX.trans hx
    replace hr := hr.ext hx
    replace bg := hx.cell bg
    replace bq := hx.cell bq
    replace HQ := Lib.hid (HQ.out.ext hx)
    clear hx hd bu HU hsm
    go_wp2_with fail
    refine (IsNormalIn_impl T _ x _ hr).mono ?_
    rintro e w6 ⟨rfl, hx⟩
    replace hX := hX.trans hx
    replace hr := hr.ext hx
    replace bg := hx.cell bg
    replace bq := hx.cell bq
    replace HQ := Lib.hid (HQ.out.ext hx)
    clear hx
    go_wp2_with fail
    refine (IsNormalIn_spec T _ x _ hr).mono ?_
    rintro e w7 ⟨rfl, hx⟩
    replace hX := hX.trans hx
    replace hr := hr.ext hx
    replace bg := hx.cell bg
    replace bq := hx.cell bq
    replace HQ := Lib.hid (HQ.out.ext hx)
    clear hx
    go_upto_region 12 with (fail)
    go_cut [78] (fun v wx => v = .bool false ∧ w7 = wx)
    case first =>
      rcases quo_ways T x with ⟨h1, h2⟩ | ⟨h1, h2, h3⟩ | ⟨h1, h2, h3⟩
      · have h1b : (subC T x == 0) = false := by simpa using h1
        clear h1 h2
        go_wp2
        go_meet
        case rel => exact ⟨rfl, rfl⟩
      · have h1b : (subC T x == 0) = true := by simpa using h1
        have h3b : (quoC T x == 0) = false := by simpa using h3
        have H2 := Lib.hid h2
        clear h1 h2 h3
        go_wp2
        go_meet
        case rel => exact ⟨by rw [H2.out], rfl⟩
      · have h1b : (subC T x == 0) = true := by simpa using h1
        have h3b : (quoC T x == 0) = true := by simpa using h3
        have H2 := Lib.hid h2
        clear h1 h2 h3
        go_wp2
        go_meet
        case rel => exact ⟨by rw [H2.out]; rfl, rfl⟩
    obtain ⟨rfl, rfl⟩ := hcut
    go_upto_region 14 with (fail)
    go_cut [97] (fun v wx => v = .bool false ∧ Ext w7 wx)
    case first =>
      by_cases hq : quoC T x = 0
      case neg =>
        have hqb : (quoC T x == 0) = false := by simpa using hq
        clear hq
        go_quiet (fail)
        go_wp2
        go_meet
        case rel => exact ⟨rfl, by (repeat first | (with_reducible exact Ext.refl _) | (with_reducible assumption) | (with_reducible apply Ext.drew) | (with_reducible apply kx_drewN) | (with_reducible apply kx_alloc) | ((with_reducible refine kx_set ?_ ?_); (first | (simp only []; omega) | (simp; omega) | (focus (simp; done)))) )⟩
      case pos =>
        obtain ⟨m, hm1, hm2, hm3, hm4, hm5⟩ := quo_facts hq
        have hqb : (quoC T x == 0) = true := by simpa using hq
        have hw : IntKind.i64.wrap (((quoV T x).length : Int) * ((popN m : Nat) : Int)) = (T.length : Int) := by rw [hm4, IntKind.wrap_i64]; omega
        have HM2 := Lib.hid hm2
        have HM1 := Lib.hid hm1
        have HQN := Lib.hid (show Rows w7 (.slice qa (quoV T x).length qc) (quoV T x) by
          have hG := groupB_iff.1 hm3
          obtain ⟨a', c', e', h'⟩ := HQ.out
          cases e'
          obtain ⟨b', o', rfl, h2⟩ := h' (ne_nil_of_lt (k := 0) hG.1.1)
          refine ⟨by have := hG.1.2.1; omega, b', o', qc, rfl, fun i hi => ?_⟩
          obtain ⟨r, k1, k2⟩ := h2 i hi
          refine ⟨r, k1, by have := hG.1.len hi; have := hG.1.2.1; omega, ?_⟩
          obtain ⟨a2, c2, e2, k3⟩ := k2
          obtain ⟨b2, o2, rfl, k4⟩ := k3 (ne_nil_of_lt (k := 0) (by rw [hG.1.len hi]; exact hG.1.1))
          exact ⟨b2, o2, c2, e2, k4⟩)
        clear hq hm1 hm2 hm4
        go_region_with (first
          | (go_at_call 13; refine (bits9_eq HM1.out HM2.out _).mono ?_; rintro e wB ⟨rfl, rfl⟩)
          | (go_at_call 12; refine (IsGroup_impl (quoV T x) _ _ (HQN.out.ext (Ext.drew (Ext.refl _)))).mono ?_; rintro e wA ⟨rfl, hxA⟩; rw [hm3]; have bA := hxA.cell (show w7.drew.cell? _ = some _ from bq); have bB := hxA.cell (show w7.drew.cell? _ = some _ from bg)))
        all_goals
          go_wp2_with fail
          go_meet
          case rel => exact ⟨rfl, (Ext.drew (Ext.refl _)).trans hxA⟩
    obtain ⟨rfl, hx⟩ := hcut
    replace hX := hX.trans hx
    clear hx bg bq hr HQ
    have hbig : ¬ 4096 < (bs.length : Int) := by have := HB.out; omega
    go_wp2_with fail
    refine (DrawGroupOfPermutations_any bs _ _ (HV.out.ext hX) (by omega)).mono ?_
    rintro e w8 ⟨n, pv, gens, rfl, hr, hx⟩
    replace hX := hX.trans hx
    clear hx hbig
    go_wp2_with fail
    refine (GroupOfPermutations_impl n gens _ _ hr).mono ?_
    rintro e w9 ⟨xv, rfl, xo, hx⟩
    have HQ := Lib.hid xo.toR
    have HQS2 := Lib.hid xo.1
    obtain ⟨xa, xc, rfl⟩ := xo.shape
    clear xo
    replace hX := hX.trans hx
    replace hr := hr.ext hx
    clear hx
    have hx := ext_box w9 (.slice xa (gopV n gens).length xc) 26
    have bq := cell_new w9 (.slice xa (gopV n gens).length xc) 26
    replace hX := hX.trans hx
    replace hr := hr.ext hx
    replace HQ := Lib.hid (HQ.out.ext hx)
    clear hx
    go_wp2_with fail
    generalize (w9.alloc (.cells #[.slice xa (gopV n gens).length xc] 26)) = w9x at *
    refine (GroupOfPermutations_spec n gens _ _ hr).mono ?_
    rintro e w10 ⟨uv, rfl, hu, hx⟩
    have HU := Lib.hid hu
    obtain ⟨ua2, uc2, rfl⟩ := hu.shape
    clear hu
    replace hX := hX.trans hx
    replace hr := hr.ext hx
    replace bq := hx.cell bq
    replace HQ := Lib.hid (HQ.out.ext hx)
    clear hx
    have hx := ext_box w10 (.slice ua2 (gopV n gens).length uc2) 26
    have bu := cell_new w10 (.slice ua2 (gopV n gens).length uc2) 26
    replace hX := hX.trans hx
    replace hr := hr.ext hx
    replace bq := hx.cell bq
    replace HQ := Lib.hid (HQ.out.ext hx)
    replace HU := Lib.hid (HU.out.ext hx)
    clear hx
    have hsm := eqTB_yes (rfl : gopV n gens = gopV n gens)
    go_wp2_with fail
    generalize (w10.alloc (.cells #[.slice ua2 (gopV n gens).length uc2] 26)) = w10x at *
    refine (same9_any _ _ _ _ _ HQ.out HU.out HQS2.out).mono ?_
    rintro e w11 ⟨rfl, hd⟩
    rw [hsm]
    have hx := hd.ext
    replace hX := hX.trans hx
    replace hr := hr.ext hx
    replace bq := hx.cell bq
    replace HQ := Lib.hid (HQ.out.ext hx)
    clear hx hd bu HU hsm
    by_cases hc : gopC n gens = 0
    case neg =>
      have hcb : (gopC n gens == 0) = false := by simpa using hc
      have hcb2 : (gopC n gens != 0) = true := by simpa using hc
      have hlb : (((gopV n gens).length : Int) == 0) = true := by
        have : gopV n gens = [] := by
          by_cases hs : sysB n gens = true
          · by_cases hl : (genA gens n.toNat).length ≤ 12
            · exact absurd (gop_yes hs hl).2 hc
            · exact (gop_big hs hl).1
          · exact (gop_no (by simpa using hs)).1
        rw [this]; rfl
      clear hc
      go_wp2
      go_ret
      exact ⟨rfl, hX⟩
    case pos =>
      obtain ⟨hG, hlen⟩ := gop_group hc
      have hs : sysB n gens = true := by
        apply Classical.byContradiction
        intro hs
        rw [(gop_no (by simpa using hs)).2] at hc
        cases hc
      have hcb : (gopC n gens == 0) = true := by simpa using hc
      have hcb2 : (gopC n gens != 0) = false := by simpa using hc
      have hl12 : (genA gens n.toNat).length ≤ 12 := by rw [← hlen]; exact hG.1.2.1
      have hgb := groupB_iff.2 hG
      have hll : (((genA gens n.toNat).length : Int) == ((gopV n gens).length : Int)) = true := by rw [hlen]; simp
      have HXN := Lib.hid (show Rows w11 (.slice xa (gopV n gens).length xc) (gopV n gens) by
        obtain ⟨a', c', e', h'⟩ := HQ.out
        cases e'
        obtain ⟨b', o', rfl, h2⟩ := h' (ne_nil_of_lt (k := 0) hG.1.1)
        refine ⟨by have := hG.1.2.1; omega, b', o', xc, rfl, fun i hi => ?_⟩
        obtain ⟨r, k1, k2⟩ := h2 i hi
        refine ⟨r, k1, by have := hG.1.len hi; have := hG.1.2.1; omega, ?_⟩
        obtain ⟨a2, c2, e2, k3⟩ := k2
        obtain ⟨b2, o2, rfl, k4⟩ := k3 (ne_nil_of_lt (k := 0) (by rw [hG.1.len hi]; exact hG.1.1))
        exact ⟨b2, o2, c2, e2, k4⟩)
      have HS := Lib.hid hs
      have HL12 := Lib.hid hl12
      clear hc hs hG hlen hl12
      go_wp2_with fail
      refine (GroupElements_impl n gens _ _ hr HS.out HL12.out).mono ?_
      rintro e w12 ⟨g, cg, rfl, hx⟩
      have bq2 := hx.cell bq
      go_wp2_with fail
      refine (IsGroup_impl (gopV n gens) _ _ (HXN.out.ext hx)).mono ?_
      rintro e w13 ⟨rfl, hx2⟩
      rw [hgb]
      have bq3 := hx2.cell bq2
      go_wp2
      go_ret
      exact ⟨rfl, (hX.trans hx).trans hx2⟩
end Go.Proofs.YtbfhecckapgpnaaGreat
