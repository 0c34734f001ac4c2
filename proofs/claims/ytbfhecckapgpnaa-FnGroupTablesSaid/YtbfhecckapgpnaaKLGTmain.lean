/-
  The law FnGroupTables, walked.
-/
import Derived.Test.YtbfhecckapgpnaaProg
import Derived.Deep.DeepCutAuto
import Derived.Deep.RegionWith
import Derived.BigQuiet
import Derived.Maps.AppendAt
import Derived.Test.YtbfhecckapgpnaaKx0
import Derived.Test.YtbfhecckapgpnaaKx1
import Derived.Test.YtbfhecckapgpnaaKx2
import Derived.Test.YtbfhecckapgpnaaKx8
import Derived.Test.YtbfhecckapgpnaaKx9
import Derived.Test.YtbfhecckapgpnaaKx7
import Derived.Test.YtbfhecckapgpnaaKx3
import Derived.Test.YtbfhecckapgpnaaKx22
import Derived.Test.YtbfhecckapgpnaaKx20
import Derived.Test.YtbfhecckapgpnaaKx40
import Derived.Test.YtbfhecckapgpnaaKx10
import Derived.Test.YtbfhecckapgpnaaKx12
import Derived.Test.YtbfhecckapgpnaaKx13
import Derived.Test.YtbfhecckapgpnaaKx33
import Derived.Test.YtbfhecckapgpnaaKx44
import Derived.Test.YtbfhecckapgpnaaKx27
import Derived.Test.YtbfhecckapgpnaaKx28
import Derived.Test.YtbfhecckapgpnaaKx4
import Derived.Test.YtbfhecckapgpnaaKx39
import Derived.Test.YtbfhecckapgpnaaKx11
import Derived.Test.YtbfhecckapgpnaaKx45
namespace Go.Proofs.Ytbfhecckapgpnaa
set_option linter.unusedVariables false
set_option linter.unusedSimpArgs false
open Go.RowKit
attribute [local go_sem ↓] Go.wp_at_zero Go.wp_at_succ
open Go.Deep

set_option maxRecDepth 100000 in
set_option maxHeartbeats 4000000 in
set_option maxRecDepth 100000 in
set_option maxHeartbeats 4000000 in
theorem lawGroupTables (w : World) (bs : List Int) (v : Value) (hv : BytesR w v bs) :
    Calls Try.prog 4 #[v] w fun e w' => e = .returned (.bool true) ∧ Ext w w' := by
  obtain ⟨va, vc, rfl, -⟩ := id hv
  go_enter Try.func4, Try.ntmps4
  go_wp2_with fail
  refine (big_any va bs.length vc w).mono ?_
  rintro e w1 ⟨rfl, rfl⟩
  by_cases hbig : 4096 < (bs.length : Int)
  case pos =>
    go_wp2
    go_ret
    exact ⟨rfl, Ext.refl _⟩
  case neg =>
    go_wp2_with fail
    refine (DrawOrderIn_any bs _ _ hv (by omega)).mono ?_
    rintro e w1 ⟨v1, T, x, rfl, hr, hl, hX⟩
    obtain ⟨b, o, c, rfl⟩ := hr.shape
    clear hv hbig
    go_wp2_with fail
    have hxg := ext_box w1 (.slice (some ⟨b, o, none⟩) T.length c) 32
    have bg := cell_new w1 (.slice (some ⟨b, o, none⟩) T.length c) 32
    replace hX := hX.trans hxg
    replace hr := hr.ext hxg
    generalize (w1.alloc (.cells #[.slice (some ⟨b, o, none⟩) T.length c] 32)) = w2 at *
    clear hxg
    refine (OrderIn_impl T _ x _ hr).mono ?_
    rintro e w3 ⟨rfl, hx⟩
    replace hX := hX.trans hx
    replace hr := hr.ext hx
    replace bg := hx.cell bg
    clear hx
    go_wp2_with fail
    refine (OrderIn_spec T _ x _ hr).mono ?_
    rintro e w4 ⟨rfl, hx⟩
    replace hX := hX.trans hx
    replace hr := hr.ext hx
    replace bg := hx.cell bg
    clear hx
    go_wp2
    go_cut [66] (fun v wx => v = .bool false ∧ Ext w4 wx)
    case first =>
      go_region_with (first
        | (go_at_call 27; refine (IsGroup_spec T _ _ (hr.ext (Ext.trans (Ext.drew (Ext.refl _)) hxA))).mono ?_; rintro e wB ⟨rfl, hxB⟩)
        | (go_at_call 26; refine (IsGroup_impl T _ _ (hr.ext (Ext.drew (Ext.refl _)))).mono ?_; rintro e wA ⟨rfl, hxA⟩; have bA := hxA.cell (show w4.drew.cell? _ = some _ from bg)))
      all_goals
        go_wp2_with fail
        go_meet
        case rel => exact ⟨rfl, (Ext.trans (Ext.drew (Ext.refl _)) hxA).trans hxB⟩
    obtain ⟨rfl, hx⟩ := hcut
    replace hX := hX.trans hx
    replace hr := hr.ext hx
    replace bg := hx.cell bg
    clear hx
    go_wp2_with fail
    refine (IsGroup_impl T _ _ hr).mono ?_
    rintro e w5 ⟨rfl, hx⟩
    replace hX := hX.trans hx
    replace hr := hr.ext hx
    replace bg := hx.cell bg
    clear hx
    cases hg : groupB T with
    | false =>
      have hec := elemC_1 (a := x) hg
      rw [hec]
      go_wp2
      go_ret
      exact ⟨rfl, hX⟩
    | true =>
      have hG := groupB_iff.1 hg
      have h12 := hG.1.2.1
      have h1 := hG.1.1
      have HG := Lib.hid hG
      clear hG
      go_wp2_with fail
      have hc := SubgroupsOf_impl T _ _ hr
      rw [ifG_yes hg, codeG_yes hg] at hc
      refine hc.mono ?_
      clear hc
      rintro e w6 ⟨sv, rfl, so, hx⟩
      have HSU := Lib.hid so.toR
      have hsl := so.1
      obtain ⟨sa, sc, rfl, -⟩ := so.2
      clear so
      replace hX := hX.trans hx
      replace hr := hr.ext hx
      replace bg := hx.cell bg
      clear hx
      go_wp2_with fail
      have hc := CenterOf_impl T _ _ hr
      rw [ifG_yes hg, codeG_yes hg, center_nat HG.out] at hc
      refine hc.mono ?_
      clear hc
      rintro e w7 ⟨rfl, hx⟩
      replace hX := hX.trans hx
      replace hr := hr.ext hx
      replace bg := hx.cell bg
      replace HSU := Lib.hid (HSU.out.ext hx)
      clear hx
      go_wp2_with fail
      have hc := IsNormalIn_impl T _ (cenM T : Int) _ hr
      rw [normV_good (cen_code HG.out), cen_norm HG.out, cen_code HG.out] at hc
      refine hc.mono ?_
      clear hc
      rintro e w8 ⟨rfl, hx⟩
      replace hX := hX.trans hx
      replace hr := hr.ext hx
      replace bg := hx.cell bg
      replace HSU := Lib.hid (HSU.out.ext hx)
      clear hx
      go_wp2_with fail
      have hc := QuotientGroup_impl T _ (cenM T : Int) _ hr
      rw [(quo_yes (cen_code HG.out) (cen_norm HG.out)).1, (quo_yes (cen_code HG.out) (cen_norm HG.out)).2] at hc
      refine hc.mono ?_
      clear hc
      rintro e w9 ⟨qv, rfl, qo, hx⟩
      have HQ := Lib.hid (qo.rows (quo_group HG.out (cen_lt HG.out) (cen_sub HG.out) (cen_norm HG.out)).1.1.1)
      obtain ⟨qb, qf, qc, rfl⟩ := HQ.out.shape
      clear qo
      replace hX := hX.trans hx
      replace hr := hr.ext hx
      replace bg := hx.cell bg
      replace HSU := Lib.hid (HSU.out.ext hx)
      clear hx
      have hx := ext_box w9 (.slice (some ⟨qb, qf, none⟩) (quoT T (cosL T (cenM T))).length qc) 32
      have bq := cell_new w9 (.slice (some ⟨qb, qf, none⟩) (quoT T (cosL T (cenM T))).length qc) 32
      replace hX := hX.trans hx
      replace hr := hr.ext hx
      replace bg := hx.cell bg
      replace HSU := Lib.hid (HSU.out.ext hx)
      replace HQ := Lib.hid (HQ.out.ext hx)
      clear hx
      go_wp2_with fail
      generalize (w9.alloc (.cells #[.slice (some ⟨qb, qf, none⟩) (quoT T (cosL T (cenM T))).length qc] 32)) = w9x at *
      have hc := GroupConjugation_impl T _ _ hr
      rw [ifG_yes hg, codeG_yes hg] at hc
      refine hc.mono ?_
      clear hc
      rintro e w10 ⟨cv, rfl, co, hx⟩
      have HC := Lib.hid (co.rows (by rw [length_mkT]; exact h1))
      obtain ⟨cb, cf, cc, rfl⟩ := HC.out.shape
      rw [length_mkT]
      clear co
      replace hX := hX.trans hx
      replace hr := hr.ext hx
      replace bg := hx.cell bg
      replace bq := hx.cell bq
      replace HSU := Lib.hid (HSU.out.ext hx)
      replace HQ := Lib.hid (HQ.out.ext hx)
      clear hx
      have hx := ext_box w10 (.slice (some ⟨cb, cf, none⟩) T.length cc) 27
      have bc := cell_new w10 (.slice (some ⟨cb, cf, none⟩) T.length cc) 27
      replace hX := hX.trans hx
      replace hr := hr.ext hx
      replace bg := hx.cell bg
      replace bq := hx.cell bq
      replace HSU := Lib.hid (HSU.out.ext hx)
      replace HQ := Lib.hid (HQ.out.ext hx)
      replace HC := Lib.hid (HC.out.ext hx)
      clear hx
      go_wp2_with fail
      generalize (w10.alloc (.cells #[.slice (some ⟨cb, cf, none⟩) T.length cc] 27)) = w10x at *
      have hc := GroupAutomorphisms_impl T _ _ hr
      rw [ifG_yes hg, codeG_yes hg] at hc
      refine hc.mono ?_
      clear hc
      rintro e w11 ⟨av, rfl, ao, hx⟩
      have HA := Lib.hid ao.toR
      have hal := ao.1.1
      have HAS := Lib.hid ao.1.2
      obtain ⟨aa, ac, rfl, -⟩ := ao.2
      clear ao
      replace hX := hX.trans hx
      replace hr := hr.ext hx
      replace bg := hx.cell bg
      replace bq := hx.cell bq
      replace bc := hx.cell bc
      replace HSU := Lib.hid (HSU.out.ext hx)
      replace HQ := Lib.hid (HQ.out.ext hx)
      replace HC := Lib.hid (HC.out.ext hx)
      clear hx
      go_wp2_with fail
      have hc := OppositeGroup_impl T _ _ hr
      rw [ifG_yes hg, codeG_yes hg] at hc
      refine hc.mono ?_
      clear hc
      rintro e w12 ⟨ov, rfl, oo, hx⟩
      have HO := Lib.hid (oo.rows (opp_group HG.out).1.1)
      obtain ⟨ob, of, oc, rfl⟩ := HO.out.shape
      clear oo
      replace hX := hX.trans hx
      replace hr := hr.ext hx
      replace bg := hx.cell bg
      replace bq := hx.cell bq
      replace bc := hx.cell bc
      replace HSU := Lib.hid (HSU.out.ext hx)
      replace HQ := Lib.hid (HQ.out.ext hx)
      replace HC := Lib.hid (HC.out.ext hx)
      replace HA := Lib.hid (HA.out.ext hx)
      clear hx
      have hx := ext_box w12 (.slice (some ⟨ob, of, none⟩) (turnT T).length oc) 32
      have bo := cell_new w12 (.slice (some ⟨ob, of, none⟩) (turnT T).length oc) 32
      replace hX := hX.trans hx
      replace hr := hr.ext hx
      replace bg := hx.cell bg
      replace bq := hx.cell bq
      replace bc := hx.cell bc
      replace HSU := Lib.hid (HSU.out.ext hx)
      replace HQ := Lib.hid (HQ.out.ext hx)
      replace HC := Lib.hid (HC.out.ext hx)
      replace HA := Lib.hid (HA.out.ext hx)
      replace HO := Lib.hid (HO.out.ext hx)
      clear hx
      go_wp2_with fail
      generalize (w12.alloc (.cells #[.slice (some ⟨ob, of, none⟩) (turnT T).length oc] 32)) = w12x at *
      have hc := GroupIsomorphism_impl T (turnT T) _ _ _ hr HO.out
      rw [opp_iso HG.out] at hc
      refine hc.mono ?_
      clear hc
      rintro e w13 ⟨iv, rfl, io, hx⟩
      clear io
      replace hX := hX.trans hx
      replace hr := hr.ext hx
      replace bg := hx.cell bg
      replace bq := hx.cell bq
      replace bc := hx.cell bc
      replace bo := hx.cell bo
      replace HSU := Lib.hid (HSU.out.ext hx)
      replace HQ := Lib.hid (HQ.out.ext hx)
      replace HC := Lib.hid (HC.out.ext hx)
      replace HA := Lib.hid (HA.out.ext hx)
      replace HO := Lib.hid (HO.out.ext hx)
      clear hx
      have hmem := memB_iff.2 (cen_in HG.out)
      go_upto_region 19 with (fail)
      go_cut [167] (fun v wx => v = .bool false ∧ w13 = wx)
      case first =>
        by_cases hec : elemC T x = 0
        case pos =>
          obtain ⟨k0, k1⟩ := ordInV_div HG.out hec
          have hecb : (elemC T x == 0) = true := by simpa using hec
          have hK0 : ordInV T x ≠ 0 := by omega
          have hKb : (ordInV T x == 0) = false := by simpa using hK0
          clear hec
          go_wp2_with (go_at_call 35; refine (hasInt_any (subsL T) _ _ _ HSU.out hsl).mono ?_; rintro e wz ⟨rfl, rfl⟩; rw [hmem])
          go_meet
          case rel => exact ⟨rfl, rfl⟩
        case neg =>
          have hecb : (elemC T x == 0) = false := by simpa using hec
          clear hec
          go_wp2_with (go_at_call 35; refine (hasInt_any (subsL T) _ _ _ HSU.out hsl).mono ?_; rintro e wz ⟨rfl, rfl⟩; rw [hmem])
          go_meet
          case rel => exact ⟨rfl, rfl⟩
      obtain ⟨rfl, rfl⟩ := hcut
      go_wp2
      go_loop [26] (fun i => ∃ k : Nat, k ≤ (subsL T).length ∧ i = .int .i64 k) (fun i => (subsL T).length - (intOf i).toNat)
      case atStart => exact ⟨0, Nat.zero_le _, rfl⟩
      case round =>
        obtain ⟨k, hk, rfl⟩ := hrel
        by_cases hlt : k < (subsL T).length
        case pos =>
          obtain ⟨m, m1, m2, m3, m4, m5⟩ := subs_pop HG.out hlt
          obtain ⟨sb, so, rfl, sl⟩ := intsR_at HSU.out hlt
          have e1 := sl k hlt
          rw [m1] at e1
          clear sl
          have hm0 : ((popN m : Nat) : Int) ≠ 0 := by omega
          go_wp2_with (go_at_call 36; refine (bits9_any m _ m2).mono ?_; rintro e wz ⟨rfl, rfl⟩)
          go_round
          case rel => exact ⟨k + 1, by omega, by go_num⟩
          case measure => simp [intOf]; omega
        case neg =>
          clear hmem
          obtain ⟨C, hCe⟩ : ∃ C, C = mkT T.length (conjF T) := ⟨_, rfl⟩
          have HCL := Lib.hid (show C.length = T.length by rw [hCe, length_mkT])
          have HRL := Lib.hid (show ∀ k, k < T.length → (row C k).length = T.length from fun k hk => by rw [hCe, row_mkT _ _ _ hk]; exact length_partRow _ _ _ _)
          have HIN := Lib.hid (show ∀ k, k < T.length → row C k ∈ isoL T.length [T] [T] from fun k hk => by rw [hCe]; exact conj_iso HG.out hk)
          have HCN := Lib.hid (show (rowsNew C T.length).length = (quoT T (cosL T (cenM T))).length by rw [hCe, inner_count HG.out, (quo_group HG.out (cen_lt HG.out) (cen_sub HG.out) (cen_norm HG.out)).2])
          have HCA := Lib.hid (show RowsAt w13 cb cf C by
            obtain ⟨-, b', o', c', e', h'⟩ := HC.out
            cases e'
            rw [hCe]
            exact h')
          clear hCe HC HSU HO bo
          go_wp2
          refine gtLoop_ok (n := T.length) (C := C) (A := isoL T.length [T] [T]) (w13 := w13) _ _ _ _ _ _ _ _ _ _ _ _ _ _ _ _ _ _ _ _ _ _ _ _ _ _ _ _ _ _ _ _ _ _ _ _ _ _ _ _ _ _ _ _ _ _ _ _ _ _ _ _ _ _ _ _ _ _ _ _ _ _ _ _ _ _ _ _ _ _ _ _ _ _ _ _ _ _ _ _ _ _ _ _ _ _ _ _ _ _ _ _ _ _ _ _ _ _ _ _ _ _ _ _ _ _ _ _ _ _ _ _ _ _ _ _ _ _ _ _ _ _ _ _ _ _ _ _ _ _ _ _ _ _ _ _ _ _ _ _ _ _ _ _ _ _ _ _ _ _ _ _ _ _ _ _ _ _ _ _ _ _ _ _ _ _ _ _ _ _ _ _ _ _ _ _ _ _ _ _ _ _ _ _ _ _ _ _ _ _ _ _ _ _ _ _ _ _ _ _ _ _ _ _ _ _ _ _ _ _ _ _ _ _ _ _ _ _ _ _ _ _ _ _ _ _ _ _ _ _ _ _ _ _ _ _ _ _ _ _ _ _ _ _ _ _ _ _ _ _ _ _ _ _ _ _ h12 hal HCL HRL HIN HAS HA HCA bc ?_
          intro v2 v28 v29 v30 v31 v32 v183 v184 v185 v186 v187 v188 v189 v190 v191 v192 v193 v194 v195 v196 v197 v198 v199 v200 v201 v202 v203 v204 v205 v206 v207 v208 v209 v210 v211 v212 v213 v214 v215 v216 v217 v218 v219 v220 v221 v222 v223 v224 v225 v226 v227 v228 v229 v230 v231 v232 v233 v234 v235 v236 v237 v238 v239 g cap wr hxw
          have bqw := hxw.cell bq
          obtain ⟨Q, hQe⟩ : ∃ Q, Q = quoT T (cosL T (cenM T)) := ⟨_, rfl⟩
          have hql : Q.length = quoN T (cosL T (cenM T)) := by rw [hQe]; exact (quo_group HG.out (cen_lt HG.out) (cen_sub HG.out) (cen_norm HG.out)).2
          have hgq : groupB Q = true := by rw [hQe]; exact groupB_iff.2 (quo_group HG.out (cen_lt HG.out) (cen_sub HG.out) (cen_norm HG.out)).1
          have hpr : (Q.length : Int) * ((popN (cenM T) : Nat) : Int) = (T.length : Int) := by
            have h := quo_count HG.out (cen_lt HG.out) (cen_sub HG.out)
            rw [← hql, ← popN_bit (cen_lt HG.out) (by omega)] at h
            rw [← h]
            simp
          have heq : (((rowsNew C T.length).length : Int) == (Q.length : Int)) = true := by
            rw [HCN.out, hQe]
            simp
          have HC62 := Lib.hid (lt62 h12 (cen_lt HG.out))
          have hw : IntKind.i64.wrap ((Q.length : Int) * ((popN (cenM T) : Nat) : Int)) = (T.length : Int) := by rw [hpr, IntKind.wrap_i64]; omega
          clear hpr
          rw [← hQe] at bqw
          have HQQ := Lib.hid (show Rows wr (.slice (some ⟨qb, qf, none⟩) Q.length qc) Q by rw [hQe]; exact HQ.out.ext hxw)
          have hXX := hX.trans hxw
          clear hQe hql bq hxw hsl hal
          go_wp2
          go_region_with (first
            | (go_at_call 36; refine (bits9_any (cenM T) _ HC62.out).mono ?_; rintro e wB ⟨rfl, rfl⟩)
            | (go_at_call 26; refine (IsGroup_impl Q _ _ (HQQ.out.ext (Ext.drew (Ext.refl _)))).mono ?_; rintro e wA ⟨rfl, hxA⟩; rw [hgq]; have bA := hxA.cell (show wr.drew.cell? _ = some _ from bqw)))
          all_goals
            go_wp2_with fail
            go_ret
            exact ⟨rfl, hXX.trans ((Ext.drew (Ext.refl _)).trans hxA)⟩
end Go.Proofs.Ytbfhecckapgpnaa
