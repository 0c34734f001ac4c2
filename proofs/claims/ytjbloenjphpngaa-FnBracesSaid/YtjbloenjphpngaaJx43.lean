/-
  Contract of the reference's GroupOfPermutations.
-/
import Derived.Test.YtjbloenjphpngaaProg
import Derived.Deep.DeepCutAuto
import Derived.Deep.RegionWith
import Derived.Deep.RegionHeld3
import Derived.Deep.DrawnRows
import Derived.IntWalk
import Derived.Maps.AppendAt
import Derived.Test.YtjbloenjphpngaaJx0
import Derived.Test.YtjbloenjphpngaaJx1
import Derived.Test.YtjbloenjphpngaaJx5
import Derived.Test.YtjbloenjphpngaaJx14
import Derived.Test.YtjbloenjphpngaaJx8
import Derived.Test.YtjbloenjphpngaaJx9
import Derived.Test.YtjbloenjphpngaaJx27
import Derived.Test.YtjbloenjphpngaaJx2
import Derived.Test.YtjbloenjphpngaaJx10
import Derived.Test.YtjbloenjphpngaaJx6
import Derived.Test.YtjbloenjphpngaaJx3
import Derived.Test.YtjbloenjphpngaaJx4
import Derived.Test.YtjbloenjphpngaaJx12
import Derived.Test.YtjbloenjphpngaaJx16
import Derived.Test.YtjbloenjphpngaaJx13
import Derived.Test.YtjbloenjphpngaaJx23
import Derived.Test.YtjbloenjphpngaaJx24
import Derived.Test.YtjbloenjphpngaaJx34
import Derived.Test.YtjbloenjphpngaaJx37
namespace Go.Proofs.Ytjbloenjphpngaa
set_option linter.unusedVariables false
set_option linter.unusedSimpArgs false
open Go.RowKit
attribute [local go_sem ↓] Go.wp_at_zero Go.wp_at_succ
open Go.Deep

theorem nodup_row {R : List (List Int)} (h : R.Nodup) {i : Nat} (hi : i < R.length) : row R i ∉ R.take i := fun hm => by
  obtain ⟨j, hj, e⟩ := List.getElem_of_mem hm
  rw [List.length_take] at hj
  rw [List.getElem_take] at e
  have e2 : row R i = R[i] := by rw [row_eq]; simp [List.getD, hi]
  rw [e2] at e
  exact (List.pairwise_iff_getElem.1 h) j i (by omega) hi (by omega) e
theorem sorted_rows {n : Nat} {R : List (List Int)} (h : GoodG n R) : ∀ i, i < (sortS R).length → IsoOk n [] [] (row (sortS R) i) := fun i hi => h.perm _ ((sortS_perm R).mem_iff.1 (rowG_mem hi))
theorem rows_set1 {w : World} {v : Value} {t : List (List Int)} (h : Rows w v t) {B : Nat} (h0 : w.cell? ⟨B, 0, none⟩ = some (.slice none 0 0)) (p : Value) : Rows (w.setCell ⟨B, 0, none⟩ p) v t := h.setNil h0 p

set_option maxRecDepth 100000 in
set_option maxHeartbeats 2000000 in
theorem GroupOfPermutations_spec (ni : Int) (gens : List (List Int)) (v : Value) (w : World) (hv : Rows w v gens) :
    Calls Try.prog 63 #[.int .i64 ni, v] w (RetG (gopV ni gens) (gopC ni gens) w) := by
  obtain ⟨hlen, b, o, c, rfl, -⟩ := id hv
  have hx0 : Ext w (w.alloc (.cells #[.slice none 0 0] 38)) := (Ext.refl _).alloc _
  have r0 : (w.alloc (.cells #[.slice none 0 0] 38)).cell? ⟨w.heap.size, 0, none⟩ = some (.slice none 0 0) := by simp
  have q0 : (w.alloc (.cells #[.slice none 0 0] 38)).frozen? ⟨w.heap.size, 0, none⟩ = false := by simp [go_sem]
  have z0 : w.heap.size + 1 ≤ (w.alloc (.cells #[.slice none 0 0] 38)).heap.size := by simp
  obtain ⟨A, hA⟩ : ∃ A, A = (w.alloc (.cells #[.slice none 0 0] 38)) := ⟨_, rfl⟩
  rw [← hA] at hx0 r0 q0 z0
  have HV := Lib.hid (hv.ext hx0)
  have HX0 := Lib.hid hx0
  clear hv hx0
  cases hb : sysB ni gens with
  | false =>
    obtain ⟨g1, g2⟩ := gop_no hb
    rw [g1, g2]
    clear g1 g2
    cases hin : inR ni 1 12 with
    | false =>
      go_enter Try.func63, Try.ntmps63
      go_wp2_with fail
      rw [← hA]
      refine (l01In_any ni 1 12 _).mono ?_
      rintro e w1 ⟨rfl, rfl⟩
      rw [hin]
      clear hA
      go_wp2_with fail
      refine bodyPost_ret (v := .tuple #[.agg #[.slice none 0 0], .int .i64 1]) (by simp [results, Try.results63, go_sem, r0]) rfl ⟨_, rfl, RowsR.nil _ _, HX0.out.setNew (by simp only []; omega) _⟩
    | true =>
      go_enter Try.func63, Try.ntmps63
      go_wp2_with fail
      rw [← hA]
      refine (l01In_any ni 1 12 _).mono ?_
      rintro e w1 ⟨rfl, rfl⟩
      rw [hin]
      clear hA
      go_wp2_with fail
      refine (l01System_any ni gens _ _ HV.out).mono ?_
      rintro e w1 ⟨rfl, hx1⟩
      rw [hb]
      have f1 := hx1.cell r0
      have f2 := hx1.free q0 (by simp only []; omega)
      go_wp2_with fail
      refine bodyPost_ret (v := .tuple #[.agg #[.slice none 0 0], .int .i64 1]) (by simp [results, Try.results63, go_sem, f1]) rfl ⟨_, rfl, RowsR.nil _ _, (HX0.out.trans hx1).setNew (by simp only []; omega) _⟩
  | true =>
    obtain ⟨⟨h1, h12⟩, h16, hg⟩ := sysB_ok hb
    obtain ⟨n, rfl⟩ : ∃ n : Nat, ni = (n : Int) := ⟨ni.toNat, (Int.toNat_of_nonneg (by omega)).symm⟩
    rw [Int.toNat_natCast] at hg
    have hin : inR (n : Int) 1 12 = true := inR_iff.2 ⟨h1, h12⟩
    have hgood := genA_good hg (idL_perm n)
    have HGOOD := Lib.hid hgood
    have HGG := Lib.hid (fun W (h : Rows W (.slice (some ⟨b, o, none⟩) gens.length c) gens) => l03Group_any n gens _ W h hg (by omega) (by omega) h16)
    obtain ⟨R, hR⟩ : ∃ R, R = genA gens n := ⟨_, rfl⟩
    have hRl := hgood.few
    have HRE := Lib.hid hR
    rw [← hR] at hRl
    rw [← hR] at HGOOD
    rw [← hR] at HGG
    have HB := Lib.hid hb
    clear hg hgood hR
    by_cases hbig : R.length ≤ 12
    case neg =>
      obtain ⟨g1, g2⟩ := gop_big HB.out (by rw [Int.toNat_natCast, ← HRE.out]; exact hbig)
      rw [g1, g2]
      clear g1 g2
      have hbi : (12 : Int) < (R.length : Int) := by omega
      go_enter Try.func63, Try.ntmps63
      go_wp2_with fail
      rw [← hA]
      refine (l01In_any _ 1 12 _).mono ?_
      rintro e w1 ⟨rfl, rfl⟩
      rw [hin]
      clear hA
      go_wp2_with fail
      refine (l01System_any _ gens _ _ HV.out).mono ?_
      rintro e w1 ⟨rfl, hx1⟩
      rw [hb]
      have f1 := hx1.cell r0
      have f2 := hx1.free q0 (by simp only []; omega)
      have zz := hx1.size
      have HX1 := Lib.hid hx1
      clear hx1 hb hin r0 q0
      go_wp2_with fail
      refine (HGG.out _ (HV.out.ext HX1.out)).mono ?_
      rintro e w2 ⟨v2, rfl, hr2, hx2⟩
      obtain ⟨-, ba, oa, ca, rfl, -⟩ := hr2
      have f3 := hx2.cell f1
      have f4 := hx2.free f2 (by simp only []; omega)
      have HX2 := Lib.hid hx2
      clear hx2 f1 f2
      go_wp2_with fail
      refine bodyPost_ret (v := .tuple #[.agg #[.slice none 0 0], .int .i64 3]) (by simp [results, Try.results63, go_sem, f3]) rfl ⟨_, rfl, RowsR.nil _ _, (HX0.out.trans (HX1.out.trans HX2.out)).setNew (by simp only []; omega) _⟩
    case pos =>
      obtain ⟨g1, g2⟩ := gop_yes HB.out (by rw [Int.toNat_natCast, ← HRE.out]; exact hbig)
      rw [g1, g2]
      have HGS := Lib.hid (show gopS n gens = sortS R by unfold gopS; rw [Int.toNat_natCast, HRE.out])
      clear g1 g2
      have hbi : ¬ (12 : Int) < (R.length : Int) := by omega
      go_enter Try.func63, Try.ntmps63
      go_wp2_with fail
      rw [← hA]
      refine (l01In_any _ 1 12 _).mono ?_
      rintro e w1 ⟨rfl, rfl⟩
      rw [hin]
      clear hA
      go_wp2_with fail
      refine (l01System_any _ gens _ _ HV.out).mono ?_
      rintro e w1 ⟨rfl, hx1⟩
      rw [hb]
      have f1 := hx1.cell r0
      have f2 := hx1.free q0 (by simp only []; omega)
      have zz := hx1.size
      have HX1 := Lib.hid hx1
      clear hx1 hb hin r0 q0
      go_wp2_with fail
      refine (HGG.out _ (HV.out.ext HX1.out)).mono ?_
      rintro e w2 ⟨v2, rfl, hr2, hx2⟩
      obtain ⟨-, ba, oa, ca, rfl, hca2⟩ := hr2
      have f3 := hx2.cell f1
      have f4 := hx2.free f2 (by simp only []; omega)
      have zz2 := hx2.size
      have HX2 := Lib.hid (HX0.out.trans (HX1.out.trans hx2))
      have HCA := Lib.hid hca2
      clear hx2 f1 f2 hca2 HX1
      go_wp2_with fail
      have hxl : Ext w2 (w2.alloc (.cells #[] 28)) := (Ext.refl _).alloc _
      have hg0 := GrowX.lit (e := 28) (base := w.heap.size) (w := w2) (by omega)
      go_loopw [7, 8] (fun vs x wr => ∃ (i : Nat) (s : List (List Int)), x = .int .i64 i ∧ i ≤ R.length ∧ s.Pairwise (· < ·) ∧ s.Perm (R.take i) ∧ GrowX 28 w.heap.size wr vs s ∧ vs ≠ .slice none 0 0 ∧ Ext w2 wr) (fun _ x _ => R.length - (intOf x).toNat)
      case atStart => exact ⟨0, [], rfl, by omega, List.Pairwise.nil, by rw [List.take_zero], hg0, by simp, hxl⟩
      case round =>
        clear hxl hg0
        obtain ⟨i, s, rfl, hi, hss, hsp, hgs, hvs, hx⟩ := hrel
        have hsl : s.length = i := by rw [hsp.length_eq, List.length_take]; omega
        have hsl2 := And.intro (Nat.le_of_eq hsl) (Nat.le_of_eq hsl.symm)
        have HSS := Lib.hid hss
        have HSP := Lib.hid hsp
        have HX := Lib.hid hx
        by_cases hil : i < R.length
        case neg =>
          have hta : R.take i = R := List.take_of_length_le (by omega)
          have hsr : s = sortS R := sortS_eq HGOOD.out.nodup (by rw [hta] at hsp; exact hsp) hss
          have hrows : Rows wr _ s := hgs.rows hvs (by omega)
          obtain ⟨-, bs, os, cs, rfl, -⟩ := id hrows
          have HRS := Lib.hid hrows
          have HSR := Lib.hid hsr
          have f5 := hx.cell f3
          have f6 := hx.free f4 (by simp only []; omega)
          have zx := hx.size
          have HIX := Lib.hid (sorted_rows HGOOD.out)
          clear hss hsp hgs hvs hx hsl hta hsr hrows f3 f4
          go_wp2_with fail
          refine (l10Permutations_any n s _ _ HRS.out (by rw [HSR.out]; exact HIX.out) (by omega) (by omega)).mono ?_
          rintro e w5 ⟨v5, rfl, hr5, hx5⟩
          obtain ⟨-, b5, o5, c5, rfl, -⟩ := id hr5
          have HR5 := Lib.hid hr5
          have f7 := hx5.cell f5
          have f8 := hx5.free f6 (by simp only []; omega)
          have F7 := Lib.hid f7
          have HX5 := Lib.hid hx5
          clear f5 f6 hr5 hx5
          go_wp2_with fail
          refine bodyPost_ret (v := .tuple #[.agg #[.slice (some ⟨b5, o5, none⟩) (mkT s.length (gopE s)).length c5], .int .i64 0]) (by simp [results, Try.results63, go_sem, f7]) rfl ⟨_, rfl, by rw [HGS.out, ← HSR.out]; exact (rows_set1 HR5.out F7.out _).toR, (HX2.out.trans (HX.out.trans HX5.out)).setNew (by simp only []; omega) _⟩
        case pos =>
          have hii : (i : Int) < (R.length : Int) := by omega
          have hpo := HGOOD.out.row hil
          have HPL := Lib.hid hpo.1
          obtain ⟨bi, oi, di, a1, a2, a3⟩ := (HCA.out.ext hx).get hil
          rw [hpo.1] at a1
          have HP := Lib.hid (show Ints wr (.slice (some ⟨bi, oi, none⟩) n di) (row R i) from ⟨a3, bi, oi, di, by rw [hpo.1], a2⟩)
          have hnm : row R i ∉ s := fun h => nodup_row HGOOD.out.nodup hil (hsp.mem_iff.1 h)
          obtain ⟨xs, hown, hxs⟩ := hgs
          obtain ⟨g, cap, rfl, hcap, hgb, hgz, hcl⟩ := ownsRow_parts hown hvs
          have HSR := Lib.hid (show Rows wr (.slice (some ⟨g, 0, none⟩) s.length cap) s from GrowX.rows ⟨xs, hown, hxs⟩ (by simp) (by omega))
          have HXL := Lib.hid hxs.1
          have HXS := Lib.hid hxs
          have HCE := Lib.hid hcl
          have zx := hx.size
          clear hss hsp hvs hx hsl hpo a2 a3 hown hxs hcl
          go_wp2_with fail
          refine (l03Search_any s (row R i) _ _ _ HSR.out HP.out HSS.out).mono ?_
          rintro e w4 ⟨⟨k0, rfl, hk0, hlo, hhi⟩, hd4⟩
          have HD4 := Lib.hid hd4.ext
          have HSS2 := Lib.hid (put_sorted HSS.out hk0 hlo hhi hnm)
          have HSP2 := Lib.hid (show (s.take k0 ++ ([row R i] ++ s.drop k0)).Perm (R.take (i + 1)) by
            rw [take_row R i hil]
            exact (put_perm.trans (List.Perm.cons _ HSP.out)).trans (List.perm_append_comm (l₁ := [row R i])))
          have HXN := Lib.hid ((XS.one (HP.out.ext HD4.out)).append ((HXS.out.ext HD4.out).drop k0))
          have HXS := Lib.hid (HXS.out.ext HD4.out)
          have HCE := Lib.hid (fun i x hi => HD4.out.cell (HCE.out i x hi))
          have a1 := HD4.out.cell a1
          have zd := HD4.out.size
          clear hlo hhi hd4 hnm
          go_wp2_with fail
          by_cases hca : cap = k0
          case pos =>
            subst hca
            have hdr : s.drop cap = [] := List.drop_of_length_le (by omega)
            go_cut [10] (fun p wx => ∃ g5, p = .slice (some ⟨g5, 0, none⟩) 1 1 ∧ wx.cell? ⟨g5, 0, none⟩ = some (.slice (some ⟨bi, oi, none⟩) n di) ∧ Ext w4 wx ∧ w4.heap.size ≤ g5)
            case first =>
              go_region_held3 (fun w' => w'.cell? ⟨ba, oa + i, none⟩ = some (.slice (some ⟨bi, oi, none⟩) n di)) ((repeat first | (with_reducible assumption) |  (with_reducible exact kc_new) | ((with_reducible refine kc_newE ?_); (simp; done)) | ((with_reducible refine kc_newEa ?_); (simp; done)) | ((with_reducible refine kc_newEb ?_); (simp; done)) | (with_reducible apply kc_alloc) | (with_reducible apply kc_drewN) | (with_reducible apply kc_drew) | ((with_reducible refine kc_set ?_ ?_); (first | (simp only []; omega) | (simp; omega) | (focus (simp; done)))) | ((with_reducible refine kc_set2 ?_ ?_); (focus (simp; done))) | (with_reducible refine kc_same (v := .slice none 0 0) ?_))) (fail)
              all_goals
                go_wp2_with fail
                go_meet
                case rel => exact ⟨_, rfl, by first | (repeat first | (with_reducible assumption) |  (with_reducible exact kc_new) | ((with_reducible refine kc_newE ?_); (simp; done)) | ((with_reducible refine kc_newEa ?_); (simp; done)) | ((with_reducible refine kc_newEb ?_); (simp; done)) | (with_reducible apply kc_alloc) | (with_reducible apply kc_drewN) | (with_reducible apply kc_drew) | ((with_reducible refine kc_set ?_ ?_); (first | (simp only []; omega) | (simp; omega) | (focus (simp; done)))) | ((with_reducible refine kc_set2 ?_ ?_); (focus (simp; done))) | (with_reducible refine kc_same (v := .slice none 0 0) ?_)) | (simp [go_sem]; done), by (repeat first | (with_reducible exact Ext.refl _) | (with_reducible assumption) | (with_reducible apply Ext.drew) | (with_reducible apply kx_drewN) | (with_reducible apply kx_alloc) | ((with_reducible refine kx_set ?_ ?_); (first | (simp only []; omega) | (simp; omega) | (focus (simp; done)))) ), by first | omega | (simp; done) | (simp [size_drew, size_drewN]; done)⟩
            obtain ⟨g5, rfl, hc5, hx5, hg5⟩ := hcut
            have z5 := hx5.size
            go_wp2_with (at_builtin; refine wpList_append_xs rfl _ _ 24 28 rfl Try.underlying24 infoSl wc.heap.size (.slice (some ⟨wc.heap.size, 0, none⟩) 0 0) 0 [] rfl (ownsRow_lit (Nat.le_refl _)) (by simp) g 0 cap cap (xs.take cap) (by rw [List.length_take, HXL.out]; omega) rfl (fun i x hi => by rw [Nat.zero_add]; have hi2 : xs[i]? = some x := (by rw [List.getElem?_take] at hi; split at hi <;> first | exact hi | cases hi); exact ((Ext.refl wc).alloc _).cell (hx5.cell (HCE.out i x hi2))) (fun u hu => HXS.out.cell u (List.mem_of_mem_take hu)) (by omega) (by omega) (by simp) ?_)
            intro v6 w6 hown6 hgr6 hv6
            have hx6 : Ext wc w6 := Ext.grown ((Ext.refl wc).alloc _) hgr6 (ownsRow_lit (Nat.le_refl _)) (Nat.le_refl _)
            have z6 := hx6.size
            clear hgr6
            go_wp2_with (at_builtin; refine wpList_append_xs rfl _ _ 24 28 rfl Try.underlying24 infoSl wc.heap.size v6 _ _ rfl hown6 hv6 g5 0 1 1 [.slice (some ⟨bi, oi, none⟩) n di] rfl rfl (fun i x hi => by cases i with | zero => (simp at hi; subst hi; exact hx6.cell hc5) | succ i => simp at hi) (fun u hu => by simp at hu; subst hu; rfl) (by omega) (by omega) (by omega) ?_)
            intro v7 w7 hown7 hgr7 hv7
            have HX7 := Lib.hid (hx5.trans (Ext.grown hx6 hgr7 hown6 (Nat.le_refl _)))
            have HG7 := Lib.hid (show GrowX 28 w.heap.size w7 v7 (s.take cap ++ ([row R i] ++ s.drop cap)) from by
              rw [hdr]
              exact ⟨_, ownsRow_len (ownsRow_base hown7 (by omega)) (by rw [List.length_append, List.length_append, List.length_take] <;> simp <;> omega), ((HXS.out.take cap).append (XS.one (HP.out.ext HD4.out))).ext HX7.out⟩)
            have HV7 := Lib.hid hv7
            have z7 := HX7.out.size
            clear hgr7 hown7 hown6 hv6 hv7 hx5 hx6 hc5 hdr
            go_wp2_with fail
            go_roundw
            case rel => exact ⟨i + 1, _, by go_num, by omega, HSS2.out, HSP2.out, HG7.out, HV7.out, HX.out.trans (HD4.out.trans HX7.out)⟩
            case measure => simp [intOf]; omega
          case neg =>
            go_region_held3 (fun w' => w'.cell? ⟨ba, oa + i, none⟩ = some (.slice (some ⟨bi, oi, none⟩) n di))
              ((first | (focus ((repeat first | (with_reducible assumption) | (with_reducible refine Ext.cell hx5 ?_) |  (with_reducible exact kc_new) | ((with_reducible refine kc_newE ?_); (simp; done)) | ((with_reducible refine kc_newEa ?_); (simp; done)) | ((with_reducible refine kc_newEb ?_); (simp; done)) | (with_reducible apply kc_alloc) | (with_reducible apply kc_drewN) | (with_reducible apply kc_drew) | ((with_reducible refine kc_set ?_ ?_); (first | (simp only []; omega) | (simp; omega) | (focus (simp; done)))) | ((with_reducible refine kc_set2 ?_ ?_); (focus (simp; done))) | (with_reducible refine kc_same (v := .slice none 0 0) ?_)); done)) | (focus ((repeat first | (with_reducible assumption) |  (with_reducible exact kc_new) | ((with_reducible refine kc_newE ?_); (simp; done)) | ((with_reducible refine kc_newEa ?_); (simp; done)) | ((with_reducible refine kc_newEb ?_); (simp; done)) | (with_reducible apply kc_alloc) | (with_reducible apply kc_drewN) | (with_reducible apply kc_drew) | ((with_reducible refine kc_set ?_ ?_); (first | (simp only []; omega) | (simp; omega) | (focus (simp; done)))) | ((with_reducible refine kc_set2 ?_ ?_); (focus (simp; done))) | (with_reducible refine kc_same (v := .slice none 0 0) ?_)); done))))
              ((refine step_append_xs (by rfl) _ _ 24 28 (by rfl) Try.underlying24 infoSl w4.heap.size _ 1 [.slice (some ⟨bi, oi, none⟩) n di] (by rfl) (ownsRow_one (w := w4.drew) (Nat.le_refl _)) (by simp) g k0 _ (s.length - k0) (xs.drop k0) (by rw [List.length_drop, HXL.out] <;> omega) (by rfl) (fun i x hi => by rw [List.getElem?_drop] at hi; exact (show Ext w4 _ by (repeat first | (with_reducible exact Ext.refl _) | (with_reducible assumption) | (with_reducible apply Ext.drew) | (with_reducible apply kx_drewN) | (with_reducible apply kx_alloc) | ((with_reducible refine kx_set ?_ ?_); (first | (simp only []; omega) | (simp; omega) | (focus (simp; done)))) )).cell (HCE.out _ _ hi)) (fun u hu => HXS.out.cell u (List.mem_of_mem_drop hu)) (by omega) (by omega) (by simp) ?_; intro v5 w5 hown5 hgr5 hv5; have hx5 : Ext w4 w5 := Ext.grown (by (repeat first | (with_reducible exact Ext.refl _) | (with_reducible assumption) | (with_reducible apply Ext.drew) | (with_reducible apply kx_drewN) | (with_reducible apply kx_alloc) | ((with_reducible refine kx_set ?_ ?_); (first | (simp only []; omega) | (simp; omega) | (focus (simp; done)))) )) hgr5 (ownsRow_one (w := w4.drew) (Nat.le_refl _)) (Nat.le_refl _)))
            obtain ⟨g5, cap5, rfl, hc5, hg5, hs5, hcl5⟩ := ownsRow_parts hown5 hv5
            have HC5 := Lib.hid hcl5
            have z5 := hx5.size
            clear hcl5 hgr5 hown5
            go_wp2_with (at_builtin; refine wpList_append_xs rfl _ _ 24 28 rfl Try.underlying24 infoSl w5.heap.size (.slice (some ⟨w5.heap.size, 0, none⟩) 0 0) 0 [] rfl (ownsRow_lit (Nat.le_refl _)) (by simp) g 0 cap k0 (xs.take k0) (by rw [List.length_take, HXL.out]; omega) rfl (fun i x hi => by rw [Nat.zero_add]; have hi2 : xs[i]? = some x := (by rw [List.getElem?_take] at hi; split at hi <;> first | exact hi | cases hi); exact ((Ext.refl w5).alloc _).cell (hx5.cell (HCE.out i x hi2))) (fun u hu => HXS.out.cell u (List.mem_of_mem_take hu)) (by omega) (by omega) (by simp) ?_)
            intro v6 w6 hown6 hgr6 hv6
            have hx6 : Ext w5 w6 := Ext.grown ((Ext.refl w5).alloc _) hgr6 (ownsRow_lit (Nat.le_refl _)) (Nat.le_refl _)
            have z6 := hx6.size
            clear hgr6
            go_wp2_with (at_builtin; refine wpList_append_xs rfl _ _ 24 28 rfl Try.underlying24 infoSl w5.heap.size v6 _ _ rfl hown6 hv6 g5 0 cap5 _ ([.slice (some ⟨bi, oi, none⟩) n di] ++ xs.drop k0) (by rw [List.length_append, List.length_drop, HXL.out] <;> first | (simp; done) | (simp; omega)) rfl (fun i x hi => by rw [Nat.zero_add]; exact hx6.cell (HC5.out i x hi)) (fun u hu => (HXN.out).cell u hu) (by omega) (by omega) (by omega) ?_)
            intro v7 w7 hown7 hgr7 hv7
            have HX7 := Lib.hid (hx5.trans (Ext.grown hx6 hgr7 hown6 (Nat.le_refl _)))
            have HG7 := Lib.hid (show GrowX 28 w.heap.size w7 v7 (s.take k0 ++ ([row R i] ++ s.drop k0)) from ⟨_, ownsRow_len (ownsRow_base hown7 (by omega)) (by rw [List.length_append, List.length_append, List.length_take, List.length_drop] <;> simp <;> omega), ((HXS.out.take k0).append HXN.out).ext HX7.out⟩)
            have HV7 := Lib.hid hv7
            have z7 := HX7.out.size
            clear hgr7 hown7 hown6 hv6 hv7 hx5 hx6
            go_wp2_with fail
            go_roundw
            case rel => exact ⟨i + 1, _, by go_num, by omega, HSS2.out, HSP2.out, HG7.out, HV7.out, HX.out.trans (HD4.out.trans HX7.out)⟩
            case measure => simp [intOf]; omega
end Go.Proofs.Ytjbloenjphpngaa

/-
  Contract (new memory) of the reference's GroupOfPermutations.
-/
namespace Go.Proofs.Ytjbloenjphpngaa
set_option linter.unusedVariables false
set_option linter.unusedSimpArgs false
open Go.RowKit
attribute [local go_sem ↓] Go.wp_at_zero Go.wp_at_succ
open Go.Deep

set_option maxRecDepth 100000 in
set_option maxHeartbeats 2000000 in
theorem GroupOfPermutations_own (n : Nat) (gens : List (List Int)) (v : Value) (w : World) (hv : Rows w v gens) (hb : sysB (n : Int) gens = true) (hbig0 : (genA gens n).length ≤ 12) :
    Calls Try.prog 63 #[.int .i64 n, v] w fun e w' => ∃ b c, e = .returned (.tuple #[.agg #[.slice (some ⟨b, 0, none⟩) (gopV (n : Int) gens).length c], .int .i64 0]) ∧ OwnT w.heap.size w'.heap.size w' b 0 (gopV (n : Int) gens) ∧ Ext w w' := by
  obtain ⟨hlen, b, o, c, rfl, -⟩ := id hv
  have hx0 : Ext w (w.alloc (.cells #[.slice none 0 0] 38)) := (Ext.refl _).alloc _
  have r0 : (w.alloc (.cells #[.slice none 0 0] 38)).cell? ⟨w.heap.size, 0, none⟩ = some (.slice none 0 0) := by simp
  have q0 : (w.alloc (.cells #[.slice none 0 0] 38)).frozen? ⟨w.heap.size, 0, none⟩ = false := by simp [go_sem]
  have z0 : w.heap.size + 1 ≤ (w.alloc (.cells #[.slice none 0 0] 38)).heap.size := by simp
  obtain ⟨A, hA⟩ : ∃ A, A = (w.alloc (.cells #[.slice none 0 0] 38)) := ⟨_, rfl⟩
  rw [← hA] at hx0 r0 q0 z0
  have HV := Lib.hid (hv.ext hx0)
  have HX0 := Lib.hid hx0
  clear hv hx0
  obtain ⟨⟨h1, h12⟩, h16, hg⟩ := sysB_ok hb
  rw [Int.toNat_natCast] at hg
  have hin : inR (n : Int) 1 12 = true := inR_iff.2 ⟨h1, h12⟩
  have hgood := genA_good hg (idL_perm n)
  have HGOOD := Lib.hid hgood
  have HGG := Lib.hid (fun W (h : Rows W (.slice (some ⟨b, o, none⟩) gens.length c) gens) => l03Group_any n gens _ W h hg (by omega) (by omega) h16)
  obtain ⟨R, hR⟩ : ∃ R, R = genA gens n := ⟨_, rfl⟩
  have hRl := hgood.few
  have HRE := Lib.hid hR
  rw [← hR] at hRl
  rw [← hR] at HGOOD
  rw [← hR] at HGG
  have HB := Lib.hid hb
  clear hg hgood hR
  have hbig : R.length ≤ 12 := by rw [HRE.out]; exact hbig0
  obtain ⟨g1, -⟩ := gop_yes HB.out (by rw [Int.toNat_natCast, ← HRE.out]; exact hbig)
  rw [g1]
  have HGS := Lib.hid (show gopS n gens = sortS R by unfold gopS; rw [Int.toNat_natCast, HRE.out])
  clear g1
  have hbi : ¬ (12 : Int) < (R.length : Int) := by omega
  go_enter Try.func63, Try.ntmps63
  go_wp2_with fail
  rw [← hA]
  refine (l01In_any _ 1 12 _).mono ?_
  rintro e w1 ⟨rfl, rfl⟩
  rw [hin]
  clear hA
  go_wp2_with fail
  refine (l01System_any _ gens _ _ HV.out).mono ?_
  rintro e w1 ⟨rfl, hx1⟩
  rw [hb]
  have f1 := hx1.cell r0
  have f2 := hx1.free q0 (by simp only []; omega)
  have zz := hx1.size
  have HX1 := Lib.hid hx1
  clear hx1 hb hin r0 q0
  go_wp2_with fail
  refine (HGG.out _ (HV.out.ext HX1.out)).mono ?_
  rintro e w2 ⟨v2, rfl, hr2, hx2⟩
  obtain ⟨-, ba, oa, ca, rfl, hca2⟩ := hr2
  have f3 := hx2.cell f1
  have f4 := hx2.free f2 (by simp only []; omega)
  have zz2 := hx2.size
  have HX2 := Lib.hid (HX0.out.trans (HX1.out.trans hx2))
  have HCA := Lib.hid hca2
  clear hx2 f1 f2 hca2 HX1
  go_wp2_with fail
  have hxl : Ext w2 (w2.alloc (.cells #[] 28)) := (Ext.refl _).alloc _
  have hg0 := GrowX.lit (e := 28) (base := w.heap.size) (w := w2) (by omega)
  go_loopw [7, 8] (fun vs x wr => ∃ (i : Nat) (s : List (List Int)), x = .int .i64 i ∧ i ≤ R.length ∧ s.Pairwise (· < ·) ∧ s.Perm (R.take i) ∧ GrowX 28 w.heap.size wr vs s ∧ vs ≠ .slice none 0 0 ∧ Ext w2 wr) (fun _ x _ => R.length - (intOf x).toNat)
  case atStart => exact ⟨0, [], rfl, by omega, List.Pairwise.nil, by rw [List.take_zero], hg0, by simp, hxl⟩
  case round =>
    clear hxl hg0
    obtain ⟨i, s, rfl, hi, hss, hsp, hgs, hvs, hx⟩ := hrel
    have hsl : s.length = i := by rw [hsp.length_eq, List.length_take]; omega
    have hsl2 := And.intro (Nat.le_of_eq hsl) (Nat.le_of_eq hsl.symm)
    have HSS := Lib.hid hss
    have HSP := Lib.hid hsp
    have HX := Lib.hid hx
    by_cases hil : i < R.length
    case neg =>
      have hta : R.take i = R := List.take_of_length_le (by omega)
      have hsr : s = sortS R := sortS_eq HGOOD.out.nodup (by rw [hta] at hsp; exact hsp) hss
      have hrows : Rows wr _ s := hgs.rows hvs (by omega)
      obtain ⟨-, bs, os, cs, rfl, -⟩ := id hrows
      have HRS := Lib.hid hrows
      have HSR := Lib.hid hsr
      have f5 := hx.cell f3
      have f6 := hx.free f4 (by simp only []; omega)
      have zx := hx.size
      have HIX := Lib.hid (sorted_rows HGOOD.out)
      clear hss hsp hgs hvs hx hsl hta hsr hrows f3 f4
      go_wp2_with fail
      refine (l10Permutations_own n s _ _ HRS.out (by rw [HSR.out]; exact HIX.out) (by omega) (by omega)).mono ?_
      rintro e w5 ⟨b5, c5, rfl, ho5, hx5⟩
      skip
      have HR5 := Lib.hid ho5
      have f7 := hx5.cell f5
      have f8 := hx5.free f6 (by simp only []; omega)
      have F7 := Lib.hid f7
      have HX5 := Lib.hid hx5
      clear f5 f6 ho5 hx5
      go_wp2_with fail
      refine bodyPost_ret (v := .tuple #[.agg #[.slice (some ⟨b5, 0, none⟩) (mkT s.length (gopE s)).length c5], .int .i64 0]) (by simp [results, Try.results63, go_sem, f7]) rfl ⟨b5, c5, by rw [HGS.out, ← HSR.out], by rw [HGS.out, ← HSR.out]; exact ((HR5.out.setOther (.inl (by simp only []; omega)) _).mono (by omega) (by simp)), (HX2.out.trans (HX.out.trans HX5.out)).setNew (by simp only []; omega) _⟩
    case pos =>
      have hii : (i : Int) < (R.length : Int) := by omega
      have hpo := HGOOD.out.row hil
      have HPL := Lib.hid hpo.1
      obtain ⟨bi, oi, di, a1, a2, a3⟩ := (HCA.out.ext hx).get hil
      rw [hpo.1] at a1
      have HP := Lib.hid (show Ints wr (.slice (some ⟨bi, oi, none⟩) n di) (row R i) from ⟨a3, bi, oi, di, by rw [hpo.1], a2⟩)
      have hnm : row R i ∉ s := fun h => nodup_row HGOOD.out.nodup hil (hsp.mem_iff.1 h)
      obtain ⟨xs, hown, hxs⟩ := hgs
      obtain ⟨g, cap, rfl, hcap, hgb, hgz, hcl⟩ := ownsRow_parts hown hvs
      have HSR := Lib.hid (show Rows wr (.slice (some ⟨g, 0, none⟩) s.length cap) s from GrowX.rows ⟨xs, hown, hxs⟩ (by simp) (by omega))
      have HXL := Lib.hid hxs.1
      have HXS := Lib.hid hxs
      have HCE := Lib.hid hcl
      have zx := hx.size
      clear hss hsp hvs hx hsl hpo a2 a3 hown hxs hcl
      go_wp2_with fail
      refine (l03Search_any s (row R i) _ _ _ HSR.out HP.out HSS.out).mono ?_
      rintro e w4 ⟨⟨k0, rfl, hk0, hlo, hhi⟩, hd4⟩
      have HD4 := Lib.hid hd4.ext
      have HSS2 := Lib.hid (put_sorted HSS.out hk0 hlo hhi hnm)
      have HSP2 := Lib.hid (show (s.take k0 ++ ([row R i] ++ s.drop k0)).Perm (R.take (i + 1)) by
        rw [take_row R i hil]
        exact (put_perm.trans (List.Perm.cons _ HSP.out)).trans (List.perm_append_comm (l₁ := [row R i])))
      have HXN := Lib.hid ((XS.one (HP.out.ext HD4.out)).append ((HXS.out.ext HD4.out).drop k0))
      have HXS := Lib.hid (HXS.out.ext HD4.out)
      have HCE := Lib.hid (fun i x hi => HD4.out.cell (HCE.out i x hi))
      have a1 := HD4.out.cell a1
      have zd := HD4.out.size
      clear hlo hhi hd4 hnm
      go_wp2_with fail
      by_cases hca : cap = k0
      case pos =>
        subst hca
        have hdr : s.drop cap = [] := List.drop_of_length_le (by omega)
        go_cut [10] (fun p wx => ∃ g5, p = .slice (some ⟨g5, 0, none⟩) 1 1 ∧ wx.cell? ⟨g5, 0, none⟩ = some (.slice (some ⟨bi, oi, none⟩) n di) ∧ Ext w4 wx ∧ w4.heap.size ≤ g5)
        case first =>
          go_region_held3 (fun w' => w'.cell? ⟨ba, oa + i, none⟩ = some (.slice (some ⟨bi, oi, none⟩) n di)) ((repeat first | (with_reducible assumption) |  (with_reducible exact kc_new) | ((with_reducible refine kc_newE ?_); (simp; done)) | ((with_reducible refine kc_newEa ?_); (simp; done)) | ((with_reducible refine kc_newEb ?_); (simp; done)) | (with_reducible apply kc_alloc) | (with_reducible apply kc_drewN) | (with_reducible apply kc_drew) | ((with_reducible refine kc_set ?_ ?_); (first | (simp only []; omega) | (simp; omega) | (focus (simp; done)))) | ((with_reducible refine kc_set2 ?_ ?_); (focus (simp; done))) | (with_reducible refine kc_same (v := .slice none 0 0) ?_))) (fail)
          all_goals
            go_wp2_with fail
            go_meet
            case rel => exact ⟨_, rfl, by first | (repeat first | (with_reducible assumption) |  (with_reducible exact kc_new) | ((with_reducible refine kc_newE ?_); (simp; done)) | ((with_reducible refine kc_newEa ?_); (simp; done)) | ((with_reducible refine kc_newEb ?_); (simp; done)) | (with_reducible apply kc_alloc) | (with_reducible apply kc_drewN) | (with_reducible apply kc_drew) | ((with_reducible refine kc_set ?_ ?_); (first | (simp only []; omega) | (simp; omega) | (focus (simp; done)))) | ((with_reducible refine kc_set2 ?_ ?_); (focus (simp; done))) | (with_reducible refine kc_same (v := .slice none 0 0) ?_)) | (simp [go_sem]; done), by (repeat first | (with_reducible exact Ext.refl _) | (with_reducible assumption) | (with_reducible apply Ext.drew) | (with_reducible apply kx_drewN) | (with_reducible apply kx_alloc) | ((with_reducible refine kx_set ?_ ?_); (first | (simp only []; omega) | (simp; omega) | (focus (simp; done)))) ), by first | omega | (simp; done) | (simp [size_drew, size_drewN]; done)⟩
        obtain ⟨g5, rfl, hc5, hx5, hg5⟩ := hcut
        have z5 := hx5.size
        go_wp2_with (at_builtin; refine wpList_append_xs rfl _ _ 24 28 rfl Try.underlying24 infoSl wc.heap.size (.slice (some ⟨wc.heap.size, 0, none⟩) 0 0) 0 [] rfl (ownsRow_lit (Nat.le_refl _)) (by simp) g 0 cap cap (xs.take cap) (by rw [List.length_take, HXL.out]; omega) rfl (fun i x hi => by rw [Nat.zero_add]; have hi2 : xs[i]? = some x := (by rw [List.getElem?_take] at hi; split at hi <;> first | exact hi | cases hi); exact ((Ext.refl wc).alloc _).cell (hx5.cell (HCE.out i x hi2))) (fun u hu => HXS.out.cell u (List.mem_of_mem_take hu)) (by omega) (by omega) (by simp) ?_)
        intro v6 w6 hown6 hgr6 hv6
        have hx6 : Ext wc w6 := Ext.grown ((Ext.refl wc).alloc _) hgr6 (ownsRow_lit (Nat.le_refl _)) (Nat.le_refl _)
        have z6 := hx6.size
        clear hgr6
        go_wp2_with (at_builtin; refine wpList_append_xs rfl _ _ 24 28 rfl Try.underlying24 infoSl wc.heap.size v6 _ _ rfl hown6 hv6 g5 0 1 1 [.slice (some ⟨bi, oi, none⟩) n di] rfl rfl (fun i x hi => by cases i with | zero => (simp at hi; subst hi; exact hx6.cell hc5) | succ i => simp at hi) (fun u hu => by simp at hu; subst hu; rfl) (by omega) (by omega) (by omega) ?_)
        intro v7 w7 hown7 hgr7 hv7
        have HX7 := Lib.hid (hx5.trans (Ext.grown hx6 hgr7 hown6 (Nat.le_refl _)))
        have HG7 := Lib.hid (show GrowX 28 w.heap.size w7 v7 (s.take cap ++ ([row R i] ++ s.drop cap)) from by
          rw [hdr]
          exact ⟨_, ownsRow_len (ownsRow_base hown7 (by omega)) (by rw [List.length_append, List.length_append, List.length_take] <;> simp <;> omega), ((HXS.out.take cap).append (XS.one (HP.out.ext HD4.out))).ext HX7.out⟩)
        have HV7 := Lib.hid hv7
        have z7 := HX7.out.size
        clear hgr7 hown7 hown6 hv6 hv7 hx5 hx6 hc5 hdr
        go_wp2_with fail
        go_roundw
        case rel => exact ⟨i + 1, _, by go_num, by omega, HSS2.out, HSP2.out, HG7.out, HV7.out, HX.out.trans (HD4.out.trans HX7.out)⟩
        case measure => simp [intOf]; omega
      case neg =>
        go_region_held3 (fun w' => w'.cell? ⟨ba, oa + i, none⟩ = some (.slice (some ⟨bi, oi, none⟩) n di))
          ((first | (focus ((repeat first | (with_reducible assumption) | (with_reducible refine Ext.cell hx5 ?_) |  (with_reducible exact kc_new) | ((with_reducible refine kc_newE ?_); (simp; done)) | ((with_reducible refine kc_newEa ?_); (simp; done)) | ((with_reducible refine kc_newEb ?_); (simp; done)) | (with_reducible apply kc_alloc) | (with_reducible apply kc_drewN) | (with_reducible apply kc_drew) | ((with_reducible refine kc_set ?_ ?_); (first | (simp only []; omega) | (simp; omega) | (focus (simp; done)))) | ((with_reducible refine kc_set2 ?_ ?_); (focus (simp; done))) | (with_reducible refine kc_same (v := .slice none 0 0) ?_)); done)) | (focus ((repeat first | (with_reducible assumption) |  (with_reducible exact kc_new) | ((with_reducible refine kc_newE ?_); (simp; done)) | ((with_reducible refine kc_newEa ?_); (simp; done)) | ((with_reducible refine kc_newEb ?_); (simp; done)) | (with_reducible apply kc_alloc) | (with_reducible apply kc_drewN) | (with_reducible apply kc_drew) | ((with_reducible refine kc_set ?_ ?_); (first | (simp only []; omega) | (simp; omega) | (focus (simp; done)))) | ((with_reducible refine kc_set2 ?_ ?_); (focus (simp; done))) | (with_reducible refine kc_same (v := .slice none 0 0) ?_)); done))))
          ((refine step_append_xs (by rfl) _ _ 24 28 (by rfl) Try.underlying24 infoSl w4.heap.size _ 1 [.slice (some ⟨bi, oi, none⟩) n di] (by rfl) (ownsRow_one (w := w4.drew) (Nat.le_refl _)) (by simp) g k0 _ (s.length - k0) (xs.drop k0) (by rw [List.length_drop, HXL.out] <;> omega) (by rfl) (fun i x hi => by rw [List.getElem?_drop] at hi; exact (show Ext w4 _ by (repeat first | (with_reducible exact Ext.refl _) | (with_reducible assumption) | (with_reducible apply Ext.drew) | (with_reducible apply kx_drewN) | (with_reducible apply kx_alloc) | ((with_reducible refine kx_set ?_ ?_); (first | (simp only []; omega) | (simp; omega) | (focus (simp; done)))) )).cell (HCE.out _ _ hi)) (fun u hu => HXS.out.cell u (List.mem_of_mem_drop hu)) (by omega) (by omega) (by simp) ?_; intro v5 w5 hown5 hgr5 hv5; have hx5 : Ext w4 w5 := Ext.grown (by (repeat first | (with_reducible exact Ext.refl _) | (with_reducible assumption) | (with_reducible apply Ext.drew) | (with_reducible apply kx_drewN) | (with_reducible apply kx_alloc) | ((with_reducible refine kx_set ?_ ?_); (first | (simp only []; omega) | (simp; omega) | (focus (simp; done)))) )) hgr5 (ownsRow_one (w := w4.drew) (Nat.le_refl _)) (Nat.le_refl _)))
        obtain ⟨g5, cap5, rfl, hc5, hg5, hs5, hcl5⟩ := ownsRow_parts hown5 hv5
        have HC5 := Lib.hid hcl5
        have z5 := hx5.size
        clear hcl5 hgr5 hown5
        go_wp2_with (at_builtin; refine wpList_append_xs rfl _ _ 24 28 rfl Try.underlying24 infoSl w5.heap.size (.slice (some ⟨w5.heap.size, 0, none⟩) 0 0) 0 [] rfl (ownsRow_lit (Nat.le_refl _)) (by simp) g 0 cap k0 (xs.take k0) (by rw [List.length_take, HXL.out]; omega) rfl (fun i x hi => by rw [Nat.zero_add]; have hi2 : xs[i]? = some x := (by rw [List.getElem?_take] at hi; split at hi <;> first | exact hi | cases hi); exact ((Ext.refl w5).alloc _).cell (hx5.cell (HCE.out i x hi2))) (fun u hu => HXS.out.cell u (List.mem_of_mem_take hu)) (by omega) (by omega) (by simp) ?_)
        intro v6 w6 hown6 hgr6 hv6
        have hx6 : Ext w5 w6 := Ext.grown ((Ext.refl w5).alloc _) hgr6 (ownsRow_lit (Nat.le_refl _)) (Nat.le_refl _)
        have z6 := hx6.size
        clear hgr6
        go_wp2_with (at_builtin; refine wpList_append_xs rfl _ _ 24 28 rfl Try.underlying24 infoSl w5.heap.size v6 _ _ rfl hown6 hv6 g5 0 cap5 _ ([.slice (some ⟨bi, oi, none⟩) n di] ++ xs.drop k0) (by rw [List.length_append, List.length_drop, HXL.out] <;> first | (simp; done) | (simp; omega)) rfl (fun i x hi => by rw [Nat.zero_add]; exact hx6.cell (HC5.out i x hi)) (fun u hu => (HXN.out).cell u hu) (by omega) (by omega) (by omega) ?_)
        intro v7 w7 hown7 hgr7 hv7
        have HX7 := Lib.hid (hx5.trans (Ext.grown hx6 hgr7 hown6 (Nat.le_refl _)))
        have HG7 := Lib.hid (show GrowX 28 w.heap.size w7 v7 (s.take k0 ++ ([row R i] ++ s.drop k0)) from ⟨_, ownsRow_len (ownsRow_base hown7 (by omega)) (by rw [List.length_append, List.length_append, List.length_take, List.length_drop] <;> simp <;> omega), ((HXS.out.take k0).append HXN.out).ext HX7.out⟩)
        have HV7 := Lib.hid hv7
        have z7 := HX7.out.size
        clear hgr7 hown7 hown6 hv6 hv7 hx5 hx6
        go_wp2_with fail
        go_roundw
        case rel => exact ⟨i + 1, _, by go_num, by omega, HSS2.out, HSP2.out, HG7.out, HV7.out, HX.out.trans (HD4.out.trans HX7.out)⟩
        case measure => simp [intOf]; omega
end Go.Proofs.Ytjbloenjphpngaa
