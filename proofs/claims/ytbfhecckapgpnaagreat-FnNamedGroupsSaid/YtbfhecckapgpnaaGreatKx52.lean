/-
  Contract of the reference's NameOfGroup.
-/
import Derived.Test.YtbfhecckapgpnaaGreatProg
import Derived.Deep.DeepCutAuto
import Derived.Deep.RegionWith
import Derived.Test.YtbfhecckapgpnaaGreatKx0
import Derived.Test.YtbfhecckapgpnaaGreatKx1
import Derived.Test.YtbfhecckapgpnaaGreatKx2
import Derived.Test.YtbfhecckapgpnaaGreatKx8
import Derived.Test.YtbfhecckapgpnaaGreatKx9
import Derived.Test.YtbfhecckapgpnaaGreatKx7
import Derived.Test.YtbfhecckapgpnaaGreatKx22
import Derived.Test.YtbfhecckapgpnaaGreatKx31
import Derived.Test.YtbfhecckapgpnaaGreatKx5
import Derived.Test.YtbfhecckapgpnaaGreatKx10
import Derived.Test.YtbfhecckapgpnaaGreatKx6
import Derived.Test.YtbfhecckapgpnaaGreatKx12
import Derived.Test.YtbfhecckapgpnaaGreatKx14
import Derived.Test.YtbfhecckapgpnaaGreatKx18
import Derived.Test.YtbfhecckapgpnaaGreatKx19
import Derived.Test.YtbfhecckapgpnaaGreatKx51
import Derived.Test.YtbfhecckapgpnaaGreatKx28
import Derived.Test.YtbfhecckapgpnaaGreatKx29
import Derived.Test.YtbfhecckapgpnaaGreatKx35
import Derived.Test.YtbfhecckapgpnaaGreatKx32
import Derived.Test.YtbfhecckapgpnaaGreatKx33
import Derived.Test.YtbfhecckapgpnaaGreatKx34
import Derived.Test.YtbfhecckapgpnaaGreatKx36
namespace Go.Proofs.YtbfhecckapgpnaaGreat
set_option linter.unusedVariables false
set_option linter.unusedSimpArgs false
open Go.RowKit
attribute [local go_sem ↓] Go.wp_at_zero Go.wp_at_succ
open Go.Deep

theorem intsR_len {w : World} {v : Value} {l : List Int} (h : IntsR w v l) : ∃ a c, v = .slice a l.length c := by
  obtain ⟨a, c, rfl, -⟩ := h
  exact ⟨a, c, rfl⟩

set_option maxRecDepth 100000 in
set_option maxHeartbeats 1000000 in
theorem NameOfGroup_spec (t : List (List Int)) (v : Value) (w : World) (hv : Rows w v t) :
    Calls Tryz.prog 20 #[.agg #[v]] w (RetII (nameV t) (nameC t) w) := by
  obtain ⟨hlen, b, o, c, rfl, hc⟩ := id hv
  have hx0 := ext_box w (.slice (some ⟨b, o, none⟩) t.length c) 26
  have b0 := cell_new w (.slice (some ⟨b, o, none⟩) t.length c) 26
  cases hg : groupB t with
  | false =>
    rw [(name_1 hg).1, (name_1 hg).2]
    go_enter Tryz.func20, Tryz.ntmps20
    go_wp2_with fail
    refine (l10Is_any t _ _ (hv.ext hx0)).mono ?_
    rintro e w1 ⟨rfl, hx1⟩
    rw [hg]
    go_wp2
    go_ret2
    exact ⟨rfl, hx0.trans hx1⟩
  | true =>
    have hG := groupB_iff.1 hg
    have HG := Lib.hid hG
    have h1 := hG.1.1
    have h12 := hG.1.2.1
    have HC := Lib.hid (fun w => l10Named_any t.length h1 h12 w)
    have HOK := Lib.hid (fun i hi => namedL_ok (n := t.length) h1 h12 (i := i) hi)
    have hlen := namedL_len0 t.length
    obtain ⟨ts, hts⟩ : ∃ ts, ts = namedL t.length := ⟨_, rfl⟩
    rw [← hts] at HC HOK hlen
    have HNO := Lib.hid (fun hn => name_no hg (ts := ts) hts.symm hn)
    have HYES := Lib.hid (fun m hm hy hn => name_yes hg (ts := ts) hts.symm (m := m) hm hy hn)
    clear hts hG
    go_enter Tryz.func20, Tryz.ntmps20
    go_wp2_with fail
    refine (l10Is_any t _ _ (hv.ext hx0)).mono ?_
    rintro e w1 ⟨rfl, hx1⟩
    rw [hg]
    have b1 := hx1.cell b0
    have HX1 := Lib.hid (hx0.trans hx1)
    clear hx1 b0
    go_wp2_with fail
    refine (HC.out _).mono ?_
    rintro e w2 ⟨v2, rfl, hgd, hx2⟩
    obtain ⟨g, d, rfl⟩ := hgd.slice (by omega)
    have HD := Lib.hid hgd
    have HX2 := Lib.hid (HX1.out.trans hx2)
    have b2 := hx2.cell b1
    have HV2 := Lib.hid (hv.ext HX2.out)
    clear hgd hx2 b1 HC hg hv hx0 hc
    go_wp2_with fail
    go_loopw [5] (fun i wr => ∃ m : Nat, m ≤ ts.length ∧ i = .int .i64 m ∧ (∀ j, j < m → isoF [t] [tab ts j] = []) ∧ Ext w2 wr) (fun i _ => ts.length - (intOf i).toNat)
    case atStart => exact ⟨0, Nat.zero_le _, rfl, fun j hj => by omega, Ext.refl _⟩
    case round =>
      obtain ⟨m, hm, rfl, hn, hx⟩ := hrel
      have HN := Lib.hid hn
      have HX := Lib.hid hx
      clear hn hx
      by_cases hlt : m < ts.length
      · obtain ⟨tb, td, p, e1, k1⟩ := HD.out.cell hlt
        have hr1 := Lib.hid (k1.rows.ext HX.out)
        have e2 := HX.out.cell e1
        have b3 := HX.out.cell b2
        have HT := Lib.hid (HOK.out m hlt)
        clear e1 k1
        go_wp2_with fail
        obtain ⟨L, hL⟩ : ∃ L, L = (isoF [t] [tab ts m]).length := ⟨_, rfl⟩
        have HL := Lib.hid hL
        clear hL
        go_cut [28] (fun p wx => p = .bool (decide (0 < L)) ∧ Ext wr wx)
        case first =>
          go_region_with ((go_at_call 54; refine (l10Isomorphism_any t (tab ts m) _ _ _ (HV2.out.ext (HX.out.trans (by (repeat first | (with_reducible exact Ext.refl _) | (with_reducible assumption) | (with_reducible apply Ext.drew) | (with_reducible apply kx_drewN) | (with_reducible apply kx_alloc) | ((with_reducible refine kx_set ?_ ?_); (first | (simp only []; omega) | (simp; omega) | (focus (simp; done)))) )))) (hr1.out.ext (by (repeat first | (with_reducible exact Ext.refl _) | (with_reducible assumption) | (with_reducible apply Ext.drew) | (with_reducible apply kx_drewN) | (with_reducible apply kx_alloc) | ((with_reducible refine kx_set ?_ ?_); (first | (simp only []; omega) | (simp; omega) | (focus (simp; done)))) ))) HG.out (groupB_iff.1 HT.out.1)).mono ?_; rintro e w3 ⟨v3, rfl, hi3, hx3⟩; obtain ⟨a3, c3, rfl⟩ := intsR_len hi3; rw [← HL.out]))
          all_goals
            go_wp2_with fail
            go_meet
            case rel => exact ⟨rfl, by (repeat first | (with_reducible exact Ext.refl _) | (with_reducible assumption) | (with_reducible apply Ext.drew) | (with_reducible apply kx_drewN) | (with_reducible apply kx_alloc) | ((with_reducible refine kx_set ?_ ?_); (first | (simp only []; omega) | (simp; omega) | (focus (simp; done)))) | (with_reducible refine Ext.trans ?_ hx3) )⟩
        case rest =>
          obtain ⟨rfl, hxc⟩ := hcut
          have HXC := Lib.hid (HX.out.trans hxc)
          clear hxc
          by_cases h0 : 0 < L
          case neg =>
            have HI := Lib.hid (show isoF [t] [tab ts m] = [] from List.eq_nil_of_length_eq_zero (by have := HL.out; omega))
            go_wp2
            go_roundw
            case rel =>
              refine ⟨m + 1, by omega, by go_num, fun j hj => ?_, HXC.out⟩
              by_cases e : j = m
              · subst e; exact HI.out
              · exact HN.out j (by omega)
            case measure => simp [intOf]; omega
          case pos =>
            have HY := Lib.hid (HYES.out m hlt (fun e => by have := HL.out; rw [e] at this; simp at this; omega) HN.out)
            go_wp2
            go_ret2
            rw [HY.out.1, HY.out.2]
            exact ⟨rfl, HX2.out.trans HXC.out⟩
      · have hmm : m = ts.length := by omega
        subst hmm
        have HY := Lib.hid (HNO.out HN.out)
        go_wp2
        go_ret2
        rw [HY.out.1, HY.out.2]
        exact ⟨rfl, HX2.out.trans HX.out⟩
end Go.Proofs.YtbfhecckapgpnaaGreat
