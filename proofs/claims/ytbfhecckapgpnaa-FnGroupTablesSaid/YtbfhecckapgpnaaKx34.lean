/-
  Contract of the reference's l03Group: the group that permutations generate.
-/
import Derived.Test.YtbfhecckapgpnaaProg
import Derived.Deep.DeepCutAuto
import Derived.Deep.RegionWith
import Derived.Deep.RegionHeld3
import Derived.Deep.DrawnRows
import Derived.IntWalk
import Derived.Maps.AppendAt
import Derived.Test.YtbfhecckapgpnaaKx0
import Derived.Test.YtbfhecckapgpnaaKx1
import Derived.Test.YtbfhecckapgpnaaKx2
import Derived.Test.YtbfhecckapgpnaaKx8
import Derived.Test.YtbfhecckapgpnaaKx9
import Derived.Test.YtbfhecckapgpnaaKx7
import Derived.Test.YtbfhecckapgpnaaKx22
import Derived.Test.YtbfhecckapgpnaaKx5
import Derived.Test.YtbfhecckapgpnaaKx10
import Derived.Test.YtbfhecckapgpnaaKx6
import Derived.Test.YtbfhecckapgpnaaKx12
import Derived.Test.YtbfhecckapgpnaaKx33
import Derived.Test.YtbfhecckapgpnaaKx14
import Derived.Test.YtbfhecckapgpnaaKx18
import Derived.Test.YtbfhecckapgpnaaKx19
namespace Go.Proofs.Ytbfhecckapgpnaa
set_option linter.unusedVariables false
set_option linter.unusedSimpArgs false
open Go.RowKit
attribute [local go_sem ↓] Go.wp_at_zero Go.wp_at_succ
open Go.Deep

theorem take_idL (n k : Nat) (h : k < n) : (idL n).take (k + 1) = (idL n).take k ++ [(k : Int)] := by
  rw [take_ixL _ _ (by rw [length_idL]; exact h), ix_idL _ _ h]

set_option maxRecDepth 100000 in
set_option maxHeartbeats 800000 in
theorem l03Group_any (n : Nat) (gens : List (List Int)) (v : Value) (w : World) (hv : Rows w v gens) (hg : ∀ k, k < gens.length → IsoOk n [] [] (row gens k)) (h1 : 1 ≤ n) (h12 : n ≤ 12) (h16 : gens.length ≤ 16) :
    Calls Try.prog 123 #[.int .i64 n, v, .int .i64 12] w fun e w' => ∃ v', e = .returned v' ∧ Rows w' v' (genA gens n) ∧ Ext w w' := by
  obtain ⟨hlen, b, o, c, rfl, hc⟩ := id hv
  have HG := Lib.hid hg
  have HGOOD := Lib.hid (genA_good hg (idL_perm n))
  have HC := Lib.hid hc
  have HIL := Lib.hid (length_idL n)
  have HD0 := Lib.hid (genA_def gens n)
  clear hg hv hc
  go_enter Try.func123, Try.ntmps123
  go_wp2_with fail
  have hx0 : Ext w (w.alloc (.cells #[] 2)) := (Ext.refl _).alloc _
  have hi0 := GrowI.lit (e := 2) (base := w.heap.size) (w := w) (Nat.le_refl _)
  go_loopw [7, 8] (fun v x wr => ∃ k : Nat, k ≤ n ∧ x = .int .i64 k ∧ GrowI 2 w.heap.size wr v ((idL n).take k) ∧ v ≠ .slice none 0 0 ∧ Ext w wr) (fun _ x _ => n - (intOf x).toNat)
  case atStart => exact ⟨0, Nat.zero_le _, rfl, hi0, by simp, hx0⟩
  case round =>
    clear hx0 hi0
    obtain ⟨k, hk, rfl, hgi, hvi, hx⟩ := hrel
    have HGI := Lib.hid hgi
    have HX := Lib.hid hx
    by_cases hlt : k < n
    case pos =>
      have hki : (k : Int) < (n : Int) := by omega
      have HL := Lib.hid (show ((idL n).take k).length ≤ 1048576 by rw [List.length_take, HIL.out]; omega)
      have zx := hx.size
      clear hgi hvi hx
      go_wp2_with (at_builtin; refine wpList_append_int rfl _ _ 45 2 rfl Try.underlying45 infoInt w.heap.size _ _ rfl (HGI.out.alloc _) _ _ rfl (cell_new _ _ _) HL.out (by simp; omega) ?_)
      intro v' w3 hi3 hgr hv3
      have HX3 := Lib.hid (Ext.grown (HX.out.trans (ext_box _ _ _)) hgr (HGI.out.alloc _) (Nat.le_refl _))
      clear hgr
      go_wp2_with fail
      go_roundw
      case rel => exact ⟨k + 1, by omega, by go_num, by rw [take_idL _ _ hlt]; exact hi3, hv3, HX3.out⟩
      case measure => simp [intOf]; omega
    case neg =>
      have hta : (idL n).take k = idL n := List.take_of_length_le (by rw [HIL.out]; omega)
      rw [hta] at hgi
      obtain ⟨bu, cu, rfl, hou⟩ := hgi.own hvi
      have hkn : ¬ (k : Int) < (n : Int) := by omega
      have hg1 : GrowT 45 w.heap.size (wr.alloc (.cells #[.slice (some ⟨bu, 0, none⟩) (idL n).length cu] 45)) (.slice (some ⟨wr.heap.size, 0, none⟩) 1 1) [idL n] := GrowT.one hx.size (by rw [HIL.out]; omega) hou.2.2.1
      have hg2 : GrowT 45 w.heap.size ((wr.alloc (.cells #[.slice (some ⟨bu, 0, none⟩) (idL n).length cu] 45)).alloc (.cells #[.slice (some ⟨bu, 0, none⟩) (idL n).length cu] 45)) (.slice (some ⟨wr.heap.size + 1, 0, none⟩) 1 1) [idL n] := by
        have := GrowT.one (e := 45) (w := wr.alloc (.cells #[.slice (some ⟨bu, 0, none⟩) (idL n).length cu] 45)) (c := cu) (base := w.heap.size) (by have := hx.size; simp; omega) (by rw [HIL.out]; omega) (hou.2.2.1.ext ((Ext.refl _).alloc _))
        rw [World.size_alloc] at this
        exact this
      have HG1 := Lib.hid (hg1.ext ((Ext.refl _).alloc (.cells #[.slice (some ⟨bu, 0, none⟩) (idL n).length cu] 45)))
      have HG2 := Lib.hid hg2
      have HX2 := Lib.hid ((hx.alloc (.cells #[.slice (some ⟨bu, 0, none⟩) (idL n).length cu] 45)).alloc (.cells #[.slice (some ⟨bu, 0, none⟩) (idL n).length cu] 45))
      rw [HIL.out] at HG1 HG2 HX2 ⊢
      clear hgi hvi hta hou hg1 hg2 hx HGI HX
      go_wp2_with fail
      go_loopw [9, 10, 11] (fun vo vs x wr => ∃ (i : Nat) (out seen : List (List Int)), x = .int .i64 i ∧ i ≤ 13 ∧ genA gens n = genF gens (13 - i) out i ∧ GoodG n out ∧ seen.Pairwise (· < ·) ∧ seen.Perm out ∧ GrowT 45 w.heap.size wr vo out ∧ GrowT 45 w.heap.size wr vs seen ∧ vo.ownBlock ≠ vs.ownBlock ∧ Ext w wr) (fun _ _ x _ => 13 - (intOf x).toNat)
      case atStart => exact ⟨0, [idL n], [idL n], rfl, by omega, HD0.out, goodG_unit (idL_perm n), List.pairwise_singleton _ _, List.Perm.refl _, HG1.out, HG2.out, by simp [Value.ownBlock], HX2.out⟩
      case round =>
        clear HG1 HG2 HX2 HD0
        obtain ⟨i, out, seen, rfl, hi13, hd, hgood, hss, hsp, hgo, hgs, hne, hx⟩ := hrel
        have HD := Lib.hid hd
        have HGD := Lib.hid hgood
        have HSS := Lib.hid hss
        have HSP := Lib.hid hsp
        have HGO := Lib.hid hgo
        have HGS := Lib.hid hgs
        have HNE := Lib.hid hne
        have HX := Lib.hid hx
        obtain ⟨go, co, ob, on, od, rfl, ohc, -⟩ := hgo.head hgood.one
        have hof := hgood.few
        clear hd hgood hss hsp hgo hgs hne hx
        by_cases hil : i < out.length ∧ out.length ≤ 12
        case neg =>
          have HE := Lib.hid (show genA gens n = out by rw [HD.out, genF_stop hil])
          have HR := Lib.hid (show Rows wr (.slice (some ⟨go, 0, none⟩) out.length co) out from HGO.out.rows (by omega) (by simp))
          by_cases h1l : i < out.length
          · have h2l : ¬ out.length ≤ 12 := fun h => hil ⟨h1l, h⟩
            have h1i : (i : Int) < (out.length : Int) := by omega
            have h2i : ¬ (out.length : Int) ≤ 12 := by omega
            go_wp2_with fail
            go_ret
            exact ⟨_, rfl, by rw [HE.out]; exact HR.out, HX.out⟩
          · have h1i : ¬ (i : Int) < (out.length : Int) := by omega
            go_wp2_with fail
            go_ret
            exact ⟨_, rfl, by rw [HE.out]; exact HR.out, HX.out⟩
        case pos =>
          obtain ⟨hil1, hil2⟩ := hil
          have h1i : (i : Int) < (out.length : Int) := by omega
          have h2i : (out.length : Int) ≤ 12 := by omega
          have HD1 := Lib.hid (show genA gens n = genF gens (12 - i) (rowFrom gens (row out i) 0 out) (i + 1) by rw [HD.out, show 13 - i = (12 - i) + 1 by omega, genF_go hil1 hil2])
          obtain ⟨x, hxx⟩ : ∃ x, x = row out i := ⟨_, rfl⟩
          have HXX := Lib.hid hxx
          rw [← hxx] at HD1
          clear hxx HD
          go_wp2_with fail
          go_loopw [9, 10, 12] (fun vo vs y wr => ∃ (k : Nat) (out seen : List (List Int)), y = .int .i64 k ∧ k ≤ gens.length ∧ i < out.length ∧ x = row out i ∧ genA gens n = genF gens (12 - i) (rowFrom gens x k out) (i + 1) ∧ GoodG n out ∧ seen.Pairwise (· < ·) ∧ seen.Perm out ∧ GrowT 45 w.heap.size wr vo out ∧ GrowT 45 w.heap.size wr vs seen ∧ vo.ownBlock ≠ vs.ownBlock ∧ Ext w wr) (fun _ _ y _ => gens.length - (intOf y).toNat)
          case atStart => exact ⟨0, out, seen, rfl, by omega, hil1, HXX.out, HD1.out, HGD.out, HSS.out, HSP.out, HGO.out, HGS.out, HNE.out, HX.out⟩
          case round =>
            clear HD1 HGD HSS HSP HGO HGS HNE HX HXX ohc hof
            clear hil2 h1i h2i hil1
            obtain ⟨k, out, seen, rfl, hk, hil1, hxx, hd, hgood, hss, hsp, hgo, hgs, hne, hx⟩ := hrel
            have HD := Lib.hid hd
            have HXX := Lib.hid hxx
            have HGD := Lib.hid hgood
            have HSS := Lib.hid hss
            have HSP := Lib.hid hsp
            have HGO := Lib.hid hgo
            have HGS := Lib.hid hgs
            have HNE := Lib.hid hne
            have HX := Lib.hid hx
            have hof := hgood.few
            have hon := hgood.one
            have hsl := And.intro (Nat.le_of_eq hsp.length_eq) (Nat.le_of_eq hsp.length_eq.symm)
            obtain ⟨go, co, ob, on, od, rfl, ohc, -⟩ := hgo.head hgood.one
            obtain ⟨g, cap, sb, sn, sd, rfl, shc, hcap⟩ := hgs.head (by omega)
            clear hd hgood hss hsp hgs hne hx hxx
            by_cases hkl : k < gens.length ∧ out.length ≤ 12
            case neg =>
              have HE := Lib.hid (show rowFrom gens x k out = out by
                by_cases h : k < gens.length
                · exact rowFrom_full (by have : ¬ out.length ≤ 12 := fun h2 => hkl ⟨h, h2⟩
                                         omega) gens.length k (by omega)
                · exact rowFrom_end (by omega))
              clear hgo
              by_cases h1l : k < gens.length
              · have h2l : ¬ out.length ≤ 12 := fun h => hkl ⟨h1l, h⟩
                have h1i : (k : Int) < (gens.length : Int) := by omega
                have h2i : ¬ (out.length : Int) ≤ 12 := by omega
                go_wp2_with fail
                go_roundw
                case rel => exact ⟨i + 1, out, seen, by go_num, by omega, by rw [HD.out, HE.out, show 12 - i = 13 - (i + 1) by omega], HGD.out, HSS.out, HSP.out, HGO.out, HGS.out, HNE.out, HX.out⟩
                case measure => simp [intOf]; omega
              · have h1i : ¬ (k : Int) < (gens.length : Int) := by omega
                go_wp2_with fail
                go_roundw
                case rel => exact ⟨i + 1, out, seen, by go_num, by omega, by rw [HD.out, HE.out, show 12 - i = 13 - (i + 1) by omega], HGD.out, HSS.out, HSP.out, HGO.out, HGS.out, HNE.out, HX.out⟩
                case measure => simp [intOf]; omega
            case pos =>
              obtain ⟨hkl1, hkl2⟩ := hkl
              have h1i : (k : Int) < (gens.length : Int) := by omega
              have h2i : (out.length : Int) ≤ 12 := by omega
              have hii : (i : Int) < (out.length : Int) := by omega
              obtain ⟨d1, s1, m1, q1, q2, -⟩ := (HC.out.ext HX.out).get hkl1
              have hgk := HG.out k hkl1
              rw [hgk.1] at q1
              have Q2 := Lib.hid (show Ints wr (.slice (some ⟨d1, s1, none⟩) n m1) (row gens k) from ⟨by rw [hgk.1]; omega, d1, s1, m1, by rw [hgk.1], q2⟩)
              obtain ⟨go', co', bi, di, hgo', r1, r2, r3⟩ := hgo.get hil1
              simp only [Value.slice.injEq, Option.some.injEq, Addr.mk.injEq, and_true, true_and] at hgo'
              obtain ⟨rfl, rfl⟩ := hgo'
              have hxi : IsoOk n [] [] x := by rw [HXX.out]; exact HGD.out.row hil1
              rw [← HXX.out] at r1 r2 r3
              rw [hxi.1] at r1
              have R2 := Lib.hid (show Ints wr (.slice (some ⟨bi, 0, none⟩) n di) x from ⟨r3, bi, 0, di, by rw [hxi.1], r2⟩)
              have HXI := Lib.hid hxi
              have HGL := Lib.hid hgk.1
              obtain ⟨pp, hpp⟩ : ∃ pp, pp = thenL x (row gens k) := ⟨_, rfl⟩
              have HPI := Lib.hid (show IsoOk n [] [] pp by rw [hpp]; exact thenL_perm hxi hgk)
              have HPL := Lib.hid HPI.out.1
              have HAT := Lib.hid (show rowFrom gens x k out = rowFrom gens x (k + 1) (addL out pp) by rw [hpp]; exact rowFrom_at hkl1)
              have HTH := Lib.hid (show ∀ W, Ext wr W → Calls Try.prog 127 #[.slice (some ⟨bi, 0, none⟩) n di, .slice (some ⟨d1, s1, none⟩) n m1] W (NewI pp W) from fun W h => by
                rw [hpp]; exact l01Then_any n x (row gens k) _ _ W (R2.out.ext h) (Q2.out.ext h) HXI.out HGL.out h12)
              clear hgk q2 r2 r3 hxi hpp hgo
              go_wp2_with fail
              go_region_held3 (fun w' => w'.cell? ⟨b, o + k, none⟩ = some (.slice (some ⟨d1, s1, none⟩) n m1) ∧ w'.cell? ⟨go, i, none⟩ = some (.slice (some ⟨bi, 0, none⟩) n di))
                ((refine ⟨?_, ?_⟩ <;> (repeat first | (with_reducible assumption) | (with_reducible refine Ext.cell hxt ?_) |  (with_reducible exact kc_new) | ((with_reducible refine kc_newE ?_); (simp; done)) | ((with_reducible refine kc_newEa ?_); (simp; done)) | ((with_reducible refine kc_newEb ?_); (simp; done)) | (with_reducible apply kc_alloc) | (with_reducible apply kc_drewN) | (with_reducible apply kc_drew) | ((with_reducible refine kc_set ?_ ?_); (first | (simp only []; omega) | (simp; omega) | (focus (simp; done)))) | ((with_reducible refine kc_set2 ?_ ?_); (focus (simp; done))) | (with_reducible refine kc_same (v := .slice none 0 0) ?_))))
                ((go_at_call 127; refine (HTH.out _ (by (repeat first | (with_reducible exact Ext.refl _) | (with_reducible assumption) | (with_reducible apply Ext.drew) | (with_reducible apply kx_drewN) | (with_reducible apply kx_alloc) | ((with_reducible refine kx_set ?_ ?_); (first | (simp only []; omega) | (simp; omega) | (focus (simp; done)))) ))).mono ?_; rintro e w3 ⟨b3, c3, rfl, ho3, hxt⟩))
              all_goals
                have hx3 : Ext wr w3 := Ext.trans ((Ext.refl wr).drew) hxt
                have HX3 := Lib.hid hx3
                have HP3 := Lib.hid (show Ints w3 (.slice (some ⟨b3, 0, none⟩) pp.length c3) pp from ⟨by rw [HPL.out]; omega, b3, 0, c3, rfl, ho3.2.2.1⟩)
                have HB3 := Lib.hid ho3.2.2.1
                have hb3 : wr.heap.size ≤ b3 := ho3.1
                rw [HPL.out] at HP3 ⊢
                clear ho3 hxt hx3 q1 r1
                have HGO3 := Lib.hid (HGO.out.ext HX3.out)
                have HGS3 := Lib.hid (HGS.out.ext HX3.out)
                have ohc3 := HX3.out.cell ohc
                have z3 := HX3.out.size
                obtain ⟨xs, hown, hxs⟩ := HGS3.out.xt
                have HXL := Lib.hid (show xs.length = seen.length from hxs.1)
                have HXS := Lib.hid hxs
                obtain ⟨g', cap', hg', -, hgb, hgs, hcl⟩ := ownsRow_parts hown (by simp)
                simp only [Value.slice.injEq, Option.some.injEq, Addr.mk.injEq, and_true, true_and] at hg'
                obtain ⟨rfl, rfl⟩ := hg'
                have HCE := Lib.hid hcl
                have HXN := Lib.hid (fun k0 : Nat => (XT.one (w := w3) (x := .slice (some ⟨b3, 0, none⟩) n c3) (l := pp) ⟨by rw [HPL.out]; omega, b3, c3, by rw [HPL.out], HB3.out⟩).append (HXS.out.drop k0))
                have hgog : go ≠ g := fun e => HNE.out (by rw [e]; rfl)
                have HGLT := Lib.hid (HGO.out.lt go rfl)
                clear hown hxs hcl shc
                go_wp2_with fail
                refine (l03Search_any seen pp _ _ _ (HGS3.out.rows (by omega) (by simp)) HP3.out HSS.out).mono ?_
                rintro e w4 ⟨⟨k0, rfl, hk0, hlo, hhi⟩, hd4⟩
                have HKN := Lib.hid (put_known HSS.out hlo hhi)
                have HLO := Lib.hid hlo
                have HHI := Lib.hid hhi
                have HD4 := Lib.hid hd4.ext
                clear hlo hhi hd4
                by_cases hmem : pp ∈ seen
                case pos =>
                  have hk1 := (HKN.out.2 hmem)
                  have hk0l : (k0 : Int) < (seen.length : Int) := by omega
                  have hse : eqIB (row seen k0) pp = true := eqIB_yes hk1.2
                  have HAO := Lib.hid (show addL out pp = out from addL_old (HSP.out.mem_iff.1 hmem))
                  obtain ⟨e1, e2, e3, e4, he, f1, f2, f3⟩ := (HGS3.out.ext HD4.out).get hk1.1
                  simp only [Value.slice.injEq, Option.some.injEq, Addr.mk.injEq, and_true, true_and] at he
                  obtain ⟨rfl, rfl⟩ := he
                  have F2 := Lib.hid (f2.ints f3 e4)
                  clear f2 hk1
                  go_wp2_with fail
                  refine (l01Same_any (row seen k0) pp _ _ _ F2.out.toR (HP3.out.ext HD4.out).toR f3).mono ?_
                  rintro e w5 ⟨rfl, hd5⟩
                  rw [hse]
                  have HX5 := Lib.hid ((HX3.out.trans HD4.out).trans hd5.ext)
                  clear hd5
                  go_wp2_with fail
                  go_roundw
                  case rel => exact ⟨k + 1, out, seen, by go_num, by omega, hil1, HXX.out, by rw [HD.out, HAT.out, HAO.out], HGD.out, HSS.out, HSP.out, HGO.out.ext HX5.out, HGS.out.ext HX5.out, HNE.out, HX.out.trans HX5.out⟩
                  case measure => simp [intOf]; omega
                case neg =>
                  have HPO := Lib.hid (show pp ∉ out from fun h => hmem (HSP.out.mem_iff.2 h))
                  have HAO := Lib.hid (show addL out pp = out ++ [pp] from addL_new HPO.out hkl2)
                  have HAG := Lib.hid (show GoodG n (out ++ [pp]) by rw [← HAO.out]; exact HGD.out.add HPI.out)
                  have HSS2 := Lib.hid (put_sorted HSS.out hk0 HLO.out HHI.out hmem)
                  have HSP2 := Lib.hid (show (seen.take k0 ++ ([pp] ++ seen.drop k0)).Perm (out ++ [pp]) from (put_perm.trans (List.Perm.cons pp HSP.out)).trans (List.perm_append_comm (l₁ := [pp])))
                  have HXX2 := Lib.hid (show x = row (out ++ [pp]) i by rw [row_app _ _ hil1]; exact HXX.out)
                  by_cases hk1 : k0 < seen.length
                  case pos =>
                    have hk0l : (k0 : Int) < (seen.length : Int) := by omega
                    have hse : eqIB (row seen k0) pp = false := eqIB_no (fun e => hmem (HKN.out.1 ⟨hk1, e⟩))
                    obtain ⟨e1, e2, e3, e4, he, f1, f2, f3⟩ := (HGS3.out.ext HD4.out).get hk1
                    simp only [Value.slice.injEq, Option.some.injEq, Addr.mk.injEq, and_true, true_and] at he
                    obtain ⟨rfl, rfl⟩ := he
                    have F2 := Lib.hid (f2.ints f3 e4)
                    clear f2
                    go_wp2_with fail
                    refine (l01Same_any (row seen k0) pp _ _ _ F2.out.toR (HP3.out.ext HD4.out).toR f3).mono ?_
                    rintro e wz ⟨rfl, hd5⟩
                    rw [hse]
                    have hx03 := HD4.out.trans hd5.ext
                    clear hd5 f1 f3
                    have HX03 := Lib.hid hx03
                    have HCE := Lib.hid (fun i x hi => HX03.out.cell (HCE.out i x hi))
                    have HXS := Lib.hid (HXS.out.ext HX03.out)
                    have HXN := Lib.hid ((HXN.out k0).ext HX03.out)
                    have HB0 := Lib.hid (HB3.out.ext HX03.out)
                    have HXW := Lib.hid (HX3.out.trans HX03.out)
                    have zz0 := HXW.out.size
                    have zwx := HX.out.size
                    clear hx03
                    have hca : ¬ cap = k0 := by omega
                    go_wp2_with (at_builtin; refine wpList_append_xs rfl _ _ 25 45 rfl Try.underlying25 infoSl wz.heap.size (.slice (some ⟨wz.heap.size, 0, none⟩) 1 1) 1 [.slice (some ⟨b3, 0, none⟩) n c3] rfl (ownsRow_one (Nat.le_refl _)) (by simp) g k0 _ (seen.length - k0) (xs.drop k0) (by rw [List.length_drop, HXL.out] <;> omega) rfl (fun i x hi => by rw [List.getElem?_drop] at hi; exact ((Ext.refl _).alloc _).cell (HCE.out _ _ hi)) (fun u hu => HXS.out.cell u (List.mem_of_mem_drop hu)) (by omega) (by omega) (by simp) ?_)
                    intro v5 w5 hown5 hgr5 hv5
                    have hx5 : Ext wz w5 := Ext.grown ((Ext.refl _).alloc _) hgr5 (ownsRow_one (Nat.le_refl _)) (Nat.le_refl _)
                    obtain ⟨g5, cap5, rfl, hc5, hg5, hs5, hcl5⟩ := ownsRow_parts hown5 hv5
                    have HC5 := Lib.hid hcl5
                    have z5 := hx5.size
                    clear hcl5 hgr5 hown5
                    go_wp2_with (at_builtin; refine wpList_append_xs rfl _ _ 25 45 rfl Try.underlying25 infoSl w5.heap.size (.slice (some ⟨w5.heap.size, 0, none⟩) 0 0) 0 [] rfl (ownsRow_lit (Nat.le_refl _)) (by simp) g 0 cap k0 (xs.take k0) (by rw [List.length_take, HXL.out]; omega) rfl (fun i x hi => by rw [Nat.zero_add]; have hi2 : xs[i]? = some x := (by rw [List.getElem?_take] at hi; split at hi <;> first | exact hi | cases hi); exact ((Ext.refl w5).alloc _).cell (hx5.cell (HCE.out i x hi2))) (fun u hu => HXS.out.cell u (List.mem_of_mem_take hu)) (by omega) (by omega) (by simp) ?_)
                    intro v6 w6 hown6 hgr6 hv6
                    have hx6 : Ext w5 w6 := Ext.grown ((Ext.refl w5).alloc _) hgr6 (ownsRow_lit (Nat.le_refl _)) (Nat.le_refl _)
                    have z6 := hx6.size
                    clear hgr6
                    go_wp2_with (at_builtin; refine wpList_append_xs rfl _ _ 25 45 rfl Try.underlying25 infoSl w5.heap.size v6 _ _ rfl hown6 hv6 g5 0 cap5 _ ([.slice (some ⟨b3, 0, none⟩) n c3] ++ xs.drop k0) (by rw [List.length_append, List.length_drop, HXL.out] <;> first | (simp; done) | (simp; omega)) rfl (fun i x hi => by rw [Nat.zero_add]; exact hx6.cell (HC5.out i x hi)) (fun u hu => (HXN.out).cell u hu) (by omega) (by omega) (by omega) ?_)
                    intro v7 w7 hown7 hgr7 hv7
                    have HX7 := Lib.hid (hx5.trans (Ext.grown hx6 hgr7 hown6 (Nat.le_refl _)))
                    have HO7 := Lib.hid (hown7.lt)
                    have HG7 := Lib.hid (show GrowT 45 w.heap.size w7 v7 (seen.take k0 ++ ([pp] ++ seen.drop k0)) from GrowT.of_xt (ownsRow_len (ownsRow_base hown7 (by omega)) (by rw [List.length_append, List.length_append, List.length_take, List.length_drop] <;> simp <;> omega)) (((HXS.out.take k0).append HXN.out).ext (HX7.out)))
                    have HV7 := Lib.hid hv7
                    have z7 := HX7.out.size
                    clear hgr7 hown7 hown6 hv6 hv7 hx5 hx6
                    have HXT := Lib.hid (HXW.out.trans HX7.out)
                    have zt := HXT.out.size
                    have HPOS := Lib.hid (show ∀ i, i < (seen.take k0 ++ ([pp] ++ seen.drop k0)).length → 0 < (row (seen.take k0 ++ ([pp] ++ seen.drop k0)) i).length from fun i hi => by
                      have := HAG.out.perm _ (HSP2.out.mem_iff.1 (rowG_mem hi))
                      rw [this.1]; omega)
                    have ohc7 := HXT.out.cell ohc
                    go_wp2_with (at_builtin; refine wpList_append_row_at rfl _ _ 25 45 rfl Try.underlying25 infoSl w.heap.size _ _ rfl (HGO.out.ext (HXT.out.trans (ext_box _ _ _))) _ b3 c3 pp rfl (by rw [HPL.out]; exact cell_new _ _ _) (HB0.out.ext (HX7.out.trans (ext_box _ _ _))) (by rw [HPL.out]; omega) (fun e => by have e2 : b3 = go := Option.some.inj e; have := HGLT.out; omega) (by omega) (by have := HGLT.out; simp; omega) ?_)
                    intro v8 w8 hg8 hgr8 hv8 hat8
                    have hgr8' : (w7.alloc (.cells #[.slice (some ⟨b3, 0, none⟩) n c3] 45)).grownBy w8 (some go) := hgr8
                    have HS8 := Lib.hid ((HG7.out.ext (ext_box w7 (.slice (some ⟨b3, 0, none⟩) n c3) 45)).grown hgr8' ((ext_box _ _ _).cell ohc7) HPOS.out (fun e => by have := HO7.out go e; have := HGLT.out; omega))
                    have HN8 := Lib.hid (show v8.ownBlock ≠ v7.ownBlock from fun e => by
                      rcases hat8 with e2 | e2
                      · rw [e2] at e
                        have := HO7.out go e.symm
                        have := HGLT.out
                        omega
                      · rw [e2] at e
                        have := HO7.out _ e.symm
                        first | omega | (simp at this; omega))
                    have HX8 := Lib.hid (ext_grownBy (HX.out.trans (HXT.out.trans (ext_box _ _ _))) hgr8' (fun k e => by injection e with e; have := HGLT.out; omega))
                    have HG8 := Lib.hid hg8
                    clear hgr8 hgr8' hat8 hv8 hg8
                    go_wp2_with fail
                    go_roundw
                    case rel => exact ⟨k + 1, out ++ [pp], _, by go_num, by omega, by simp; omega, HXX2.out, by rw [HD.out, HAT.out, HAO.out], HAG.out, HSS2.out, HSP2.out, HG8.out, HS8.out, HN8.out, HX8.out⟩
                    case measure => simp [intOf]; omega
                  case neg =>
                    have hk0l : ¬ (k0 : Int) < (seen.length : Int) := by omega
                    have hx03 := HD4.out
                    have HX03 := Lib.hid hx03
                    have HCE := Lib.hid (fun i x hi => HX03.out.cell (HCE.out i x hi))
                    have HXS := Lib.hid (HXS.out.ext HX03.out)
                    have HXN := Lib.hid ((HXN.out k0).ext HX03.out)
                    have HB0 := Lib.hid (HB3.out.ext HX03.out)
                    have HXW := Lib.hid (HX3.out.trans HX03.out)
                    have zz0 := HXW.out.size
                    have zwx := HX.out.size
                    clear hx03
                    by_cases hca : cap = k0
                    case pos =>
                      subst hca
                      have hdr : seen.drop cap = [] := List.drop_of_length_le (by omega)
                      have hlit : ((w4.alloc (.cells #[.slice (some ⟨b3, 0, none⟩) n c3] 45)).alloc (.cells #[] 45)).ownsRow w4.heap.size 45 1 (.slice (some ⟨w4.heap.size + 1, 0, none⟩) 0 0) 0 [] := by
                        have := ownsRow_lit (e := 45) (w := (w4.alloc (.cells #[.slice (some ⟨b3, 0, none⟩) n c3] 45))) (base := w4.heap.size) (by simp)
                        rw [World.size_alloc] at this
                        exact this
                      have hx5 : Ext w4 (w4.alloc (.cells #[.slice (some ⟨b3, 0, none⟩) n c3] 45)) := (Ext.refl _).alloc _
                      have hc5 := cell_new w4 (.slice (some ⟨b3, 0, none⟩) n c3) 45
                      go_wp2_with (at_builtin; refine wpList_append_xs rfl _ _ 25 45 rfl Try.underlying25 infoSl w4.heap.size (.slice (some ⟨w4.heap.size + 1, 0, none⟩) 0 0) 0 [] rfl hlit (by simp) g 0 cap cap (xs.take cap) (by rw [List.length_take, HXL.out]; omega) rfl (fun i x hi => by rw [Nat.zero_add]; have hi2 : xs[i]? = some x := (by rw [List.getElem?_take] at hi; split at hi <;> first | exact hi | cases hi); exact ((Ext.refl _).alloc _).cell (hx5.cell (HCE.out i x hi2))) (fun u hu => HXS.out.cell u (List.mem_of_mem_take hu)) (by omega) (by omega) (by simp; omega) ?_)
                      intro v6 w6 hown6 hgr6 hv6
                      have hx6 : Ext w4 w6 := Ext.grown (hx5.alloc _) hgr6 hlit (Nat.le_refl _)
                      have hc6 : w6.cell? ⟨w4.heap.size, 0, none⟩ = some (.slice (some ⟨b3, 0, none⟩) n c3) := by
                        rw [hgr6.cell_far _ (by simp; omega) (by simp [Value.ownBlock])]
                        exact kc_alloc hc5
                      have z6 := hx6.size
                      clear hgr6
                      go_wp2_with (at_builtin; refine wpList_append_xs rfl _ _ 25 45 rfl Try.underlying25 infoSl w4.heap.size v6 _ _ rfl hown6 hv6 w4.heap.size 0 1 1 [.slice (some ⟨b3, 0, none⟩) n c3] rfl rfl (fun i x hi => by cases i with | zero => (simp at hi; subst hi; exact hc6) | succ i => simp at hi) (fun u hu => by simp at hu; subst hu; rfl) (by omega) (by omega) (by omega) ?_)
                      intro v7 w7 hown7 hgr7 hv7
                      have HX7 := Lib.hid (show Ext w4 w7 from Ext.grown hx6 hgr7 hown6 (Nat.le_refl _))
                      have HO7 := Lib.hid (hown7.lt)
                      have HG7 := Lib.hid (show GrowT 45 w.heap.size w7 v7 (seen.take cap ++ ([pp] ++ seen.drop cap)) from by
                        rw [hdr]
                        exact GrowT.of_xt (ownsRow_len (ownsRow_base hown7 (by omega)) (by rw [List.length_append, List.length_append, List.length_take] <;> simp <;> omega)) (((HXS.out.take cap).append (XT.one ⟨by rw [HPL.out]; omega, b3, c3, by rw [HPL.out], HB0.out⟩)).ext (HX7.out)))
                      have HV7 := Lib.hid hv7
                      have z7 := HX7.out.size
                      clear hgr7 hown7 hown6 hv6 hv7 hx5 hx6 hlit hc5 hc6 hdr
                      have HXT := Lib.hid (HXW.out.trans HX7.out)
                      have zt := HXT.out.size
                      have HPOS := Lib.hid (show ∀ i, i < (seen.take cap ++ ([pp] ++ seen.drop cap)).length → 0 < (row (seen.take cap ++ ([pp] ++ seen.drop cap)) i).length from fun i hi => by
                        have := HAG.out.perm _ (HSP2.out.mem_iff.1 (rowG_mem hi))
                        rw [this.1]; omega)
                      have ohc7 := HXT.out.cell ohc
                      go_wp2_with (at_builtin; refine wpList_append_row_at rfl _ _ 25 45 rfl Try.underlying25 infoSl w.heap.size _ _ rfl (HGO.out.ext (HXT.out.trans (ext_box _ _ _))) _ b3 c3 pp rfl (by rw [HPL.out]; exact cell_new _ _ _) (HB0.out.ext (HX7.out.trans (ext_box _ _ _))) (by rw [HPL.out]; omega) (fun e => by have e2 : b3 = go := Option.some.inj e; have := HGLT.out; omega) (by omega) (by have := HGLT.out; simp; omega) ?_)
                      intro v8 w8 hg8 hgr8 hv8 hat8
                      have hgr8' : (w7.alloc (.cells #[.slice (some ⟨b3, 0, none⟩) n c3] 45)).grownBy w8 (some go) := hgr8
                      have HS8 := Lib.hid ((HG7.out.ext (ext_box w7 (.slice (some ⟨b3, 0, none⟩) n c3) 45)).grown hgr8' ((ext_box _ _ _).cell ohc7) HPOS.out (fun e => by have := HO7.out go e; have := HGLT.out; omega))
                      have HN8 := Lib.hid (show v8.ownBlock ≠ v7.ownBlock from fun e => by
                        rcases hat8 with e2 | e2
                        · rw [e2] at e
                          have := HO7.out go e.symm
                          have := HGLT.out
                          omega
                        · rw [e2] at e
                          have := HO7.out _ e.symm
                          first | omega | (simp at this; omega))
                      have HX8 := Lib.hid (ext_grownBy (HX.out.trans (HXT.out.trans (ext_box _ _ _))) hgr8' (fun k e => by injection e with e; have := HGLT.out; omega))
                      have HG8 := Lib.hid hg8
                      clear hgr8 hgr8' hat8 hv8 hg8
                      go_wp2_with fail
                      go_roundw
                      case rel => exact ⟨k + 1, out ++ [pp], _, by go_num, by omega, by simp; omega, HXX2.out, by rw [HD.out, HAT.out, HAO.out], HAG.out, HSS2.out, HSP2.out, HG8.out, HS8.out, HN8.out, HX8.out⟩
                      case measure => simp [intOf]; omega
                    case neg =>
                      go_wp2_with (at_builtin; refine wpList_append_xs rfl _ _ 25 45 rfl Try.underlying25 infoSl w4.heap.size (.slice (some ⟨w4.heap.size, 0, none⟩) 1 1) 1 [.slice (some ⟨b3, 0, none⟩) n c3] rfl (ownsRow_one (Nat.le_refl _)) (by simp) g k0 _ (seen.length - k0) (xs.drop k0) (by rw [List.length_drop, HXL.out] <;> omega) rfl (fun i x hi => by rw [List.getElem?_drop] at hi; exact ((Ext.refl _).alloc _).cell (HCE.out _ _ hi)) (fun u hu => HXS.out.cell u (List.mem_of_mem_drop hu)) (by omega) (by omega) (by simp) ?_)
                      intro v5 w5 hown5 hgr5 hv5
                      have hx5 : Ext w4 w5 := Ext.grown ((Ext.refl _).alloc _) hgr5 (ownsRow_one (Nat.le_refl _)) (Nat.le_refl _)
                      obtain ⟨g5, cap5, rfl, hc5, hg5, hs5, hcl5⟩ := ownsRow_parts hown5 hv5
                      have HC5 := Lib.hid hcl5
                      have z5 := hx5.size
                      clear hcl5 hgr5 hown5
                      go_wp2_with (at_builtin; refine wpList_append_xs rfl _ _ 25 45 rfl Try.underlying25 infoSl w5.heap.size (.slice (some ⟨w5.heap.size, 0, none⟩) 0 0) 0 [] rfl (ownsRow_lit (Nat.le_refl _)) (by simp) g 0 cap k0 (xs.take k0) (by rw [List.length_take, HXL.out]; omega) rfl (fun i x hi => by rw [Nat.zero_add]; have hi2 : xs[i]? = some x := (by rw [List.getElem?_take] at hi; split at hi <;> first | exact hi | cases hi); exact ((Ext.refl w5).alloc _).cell (hx5.cell (HCE.out i x hi2))) (fun u hu => HXS.out.cell u (List.mem_of_mem_take hu)) (by omega) (by omega) (by simp) ?_)
                      intro v6 w6 hown6 hgr6 hv6
                      have hx6 : Ext w5 w6 := Ext.grown ((Ext.refl w5).alloc _) hgr6 (ownsRow_lit (Nat.le_refl _)) (Nat.le_refl _)
                      have z6 := hx6.size
                      clear hgr6
                      go_wp2_with (at_builtin; refine wpList_append_xs rfl _ _ 25 45 rfl Try.underlying25 infoSl w5.heap.size v6 _ _ rfl hown6 hv6 g5 0 cap5 _ ([.slice (some ⟨b3, 0, none⟩) n c3] ++ xs.drop k0) (by rw [List.length_append, List.length_drop, HXL.out] <;> first | (simp; done) | (simp; omega)) rfl (fun i x hi => by rw [Nat.zero_add]; exact hx6.cell (HC5.out i x hi)) (fun u hu => (HXN.out).cell u hu) (by omega) (by omega) (by omega) ?_)
                      intro v7 w7 hown7 hgr7 hv7
                      have HX7 := Lib.hid (hx5.trans (Ext.grown hx6 hgr7 hown6 (Nat.le_refl _)))
                      have HO7 := Lib.hid (hown7.lt)
                      have HG7 := Lib.hid (show GrowT 45 w.heap.size w7 v7 (seen.take k0 ++ ([pp] ++ seen.drop k0)) from GrowT.of_xt (ownsRow_len (ownsRow_base hown7 (by omega)) (by rw [List.length_append, List.length_append, List.length_take, List.length_drop] <;> simp <;> omega)) (((HXS.out.take k0).append HXN.out).ext (HX7.out)))
                      have HV7 := Lib.hid hv7
                      have z7 := HX7.out.size
                      clear hgr7 hown7 hown6 hv6 hv7 hx5 hx6
                      have HXT := Lib.hid (HXW.out.trans HX7.out)
                      have zt := HXT.out.size
                      have HPOS := Lib.hid (show ∀ i, i < (seen.take k0 ++ ([pp] ++ seen.drop k0)).length → 0 < (row (seen.take k0 ++ ([pp] ++ seen.drop k0)) i).length from fun i hi => by
                        have := HAG.out.perm _ (HSP2.out.mem_iff.1 (rowG_mem hi))
                        rw [this.1]; omega)
                      have ohc7 := HXT.out.cell ohc
                      go_wp2_with (at_builtin; refine wpList_append_row_at rfl _ _ 25 45 rfl Try.underlying25 infoSl w.heap.size _ _ rfl (HGO.out.ext (HXT.out.trans (ext_box _ _ _))) _ b3 c3 pp rfl (by rw [HPL.out]; exact cell_new _ _ _) (HB0.out.ext (HX7.out.trans (ext_box _ _ _))) (by rw [HPL.out]; omega) (fun e => by have e2 : b3 = go := Option.some.inj e; have := HGLT.out; omega) (by omega) (by have := HGLT.out; simp; omega) ?_)
                      intro v8 w8 hg8 hgr8 hv8 hat8
                      have hgr8' : (w7.alloc (.cells #[.slice (some ⟨b3, 0, none⟩) n c3] 45)).grownBy w8 (some go) := hgr8
                      have HS8 := Lib.hid ((HG7.out.ext (ext_box w7 (.slice (some ⟨b3, 0, none⟩) n c3) 45)).grown hgr8' ((ext_box _ _ _).cell ohc7) HPOS.out (fun e => by have := HO7.out go e; have := HGLT.out; omega))
                      have HN8 := Lib.hid (show v8.ownBlock ≠ v7.ownBlock from fun e => by
                        rcases hat8 with e2 | e2
                        · rw [e2] at e
                          have := HO7.out go e.symm
                          have := HGLT.out
                          omega
                        · rw [e2] at e
                          have := HO7.out _ e.symm
                          first | omega | (simp at this; omega))
                      have HX8 := Lib.hid (ext_grownBy (HX.out.trans (HXT.out.trans (ext_box _ _ _))) hgr8' (fun k e => by injection e with e; have := HGLT.out; omega))
                      have HG8 := Lib.hid hg8
                      clear hgr8 hgr8' hat8 hv8 hg8
                      go_wp2_with fail
                      go_roundw
                      case rel => exact ⟨k + 1, out ++ [pp], _, by go_num, by omega, by simp; omega, HXX2.out, by rw [HD.out, HAT.out, HAO.out], HAG.out, HSS2.out, HSP2.out, HG8.out, HS8.out, HN8.out, HX8.out⟩
                      case measure => simp [intOf]; omega
end Go.Proofs.Ytbfhecckapgpnaa

/-
  Contract of the reference's GroupOfPermutations.
-/
namespace Go.Proofs.Ytbfhecckapgpnaa
set_option linter.unusedVariables false
set_option linter.unusedSimpArgs false
open Go.RowKit
attribute [local go_sem ↓] Go.wp_at_zero Go.wp_at_succ
open Go.Deep

theorem nodup_row {R : List (List Int)} (h : R.Nodup) {i : Nat} (hi : i < R.length) : row R i ∉ R.take i := fun hm => by
  obtain ⟨j, hj, e⟩ := List.getElem_of_mem hm
  rw [List.length_take] at hj
  rw [List.getElem_take] at e
  have e2 : row R i = R[i] := by rw [row_eq]; simp [List.getD, hi]
  rw [e2] at e
  exact (List.pairwise_iff_getElem.1 h) j i (by omega) hi (by omega) e
theorem sorted_rows {n : Nat} {R : List (List Int)} (h : GoodG n R) : ∀ i, i < (sortS R).length → IsoOk n [] [] (row (sortS R) i) := fun i hi => h.perm _ ((sortS_perm R).mem_iff.1 (rowG_mem hi))
theorem rows_set1 {w : World} {v : Value} {t : List (List Int)} (h : Rows w v t) {B : Nat} (h0 : w.cell? ⟨B, 0, none⟩ = some (.slice none 0 0)) (p : Value) : Rows (w.setCell ⟨B, 0, none⟩ p) v t := h.setNil h0 p

set_option maxRecDepth 100000 in
set_option maxHeartbeats 2000000 in
theorem GroupOfPermutations_spec (ni : Int) (gens : List (List Int)) (v : Value) (w : World) (hv : Rows w v gens) :
    Calls Try.prog 119 #[.int .i64 ni, v] w (RetG (gopV ni gens) (gopC ni gens) w) := by
  obtain ⟨hlen, b, o, c, rfl, -⟩ := id hv
  have hx0 : Ext w (w.alloc (.cells #[.slice none 0 0] 32)) := (Ext.refl _).alloc _
  have r0 : (w.alloc (.cells #[.slice none 0 0] 32)).cell? ⟨w.heap.size, 0, none⟩ = some (.slice none 0 0) := by simp
  have q0 : (w.alloc (.cells #[.slice none 0 0] 32)).frozen? ⟨w.heap.size, 0, none⟩ = false := by simp [go_sem]
  have z0 : w.heap.size + 1 ≤ (w.alloc (.cells #[.slice none 0 0] 32)).heap.size := by simp
  obtain ⟨A, hA⟩ : ∃ A, A = (w.alloc (.cells #[.slice none 0 0] 32)) := ⟨_, rfl⟩
  rw [← hA] at hx0 r0 q0 z0
  have HV := Lib.hid (hv.ext hx0)
  have HX0 := Lib.hid hx0
  clear hv hx0
  cases hb : sysB ni gens with
  | false =>
    obtain ⟨g1, g2⟩ := gop_no hb
    rw [g1, g2]
    clear g1 g2
    cases hin : inR ni 1 12 with
    | false =>
      go_enter Try.func119, Try.ntmps119
      go_wp2_with fail
      rw [← hA]
      refine (l01In_any ni 1 12 _).mono ?_
      rintro e w1 ⟨rfl, rfl⟩
      rw [hin]
      clear hA
      go_wp2_with fail
      refine bodyPost_ret (v := .tuple #[.agg #[.slice none 0 0], .int .i64 1]) (by simp [results, Try.results119, go_sem, r0]) rfl ⟨_, rfl, RowsR.nil _ _, HX0.out.setNew (by simp only []; omega) _⟩
    | true =>
      go_enter Try.func119, Try.ntmps119
      go_wp2_with fail
      rw [← hA]
      refine (l01In_any ni 1 12 _).mono ?_
      rintro e w1 ⟨rfl, rfl⟩
      rw [hin]
      clear hA
      go_wp2_with fail
      refine (l01System_any ni gens _ _ HV.out).mono ?_
      rintro e w1 ⟨rfl, hx1⟩
      rw [hb]
      have f1 := hx1.cell r0
      have f2 := hx1.free q0 (by simp only []; omega)
      go_wp2_with fail
      refine bodyPost_ret (v := .tuple #[.agg #[.slice none 0 0], .int .i64 1]) (by simp [results, Try.results119, go_sem, f1]) rfl ⟨_, rfl, RowsR.nil _ _, (HX0.out.trans hx1).setNew (by simp only []; omega) _⟩
  | true =>
    obtain ⟨⟨h1, h12⟩, h16, hg⟩ := sysB_ok hb
    obtain ⟨n, rfl⟩ : ∃ n : Nat, ni = (n : Int) := ⟨ni.toNat, (Int.toNat_of_nonneg (by omega)).symm⟩
    rw [Int.toNat_natCast] at hg
    have hin : inR (n : Int) 1 12 = true := inR_iff.2 ⟨h1, h12⟩
    have hgood := genA_good hg (idL_perm n)
    have HGOOD := Lib.hid hgood
    have HGG := Lib.hid (fun W (h : Rows W (.slice (some ⟨b, o, none⟩) gens.length c) gens) => l03Group_any n gens _ W h hg (by omega) (by omega) h16)
    obtain ⟨R, hR⟩ : ∃ R, R = genA gens n := ⟨_, rfl⟩
    have hRl := hgood.few
    have HRE := Lib.hid hR
    rw [← hR] at hRl
    rw [← hR] at HGOOD
    rw [← hR] at HGG
    have HB := Lib.hid hb
    clear hg hgood hR
    by_cases hbig : R.length ≤ 12
    case neg =>
      obtain ⟨g1, g2⟩ := gop_big HB.out (by rw [Int.toNat_natCast, ← HRE.out]; exact hbig)
      rw [g1, g2]
      clear g1 g2
      have hbi : (12 : Int) < (R.length : Int) := by omega
      go_enter Try.func119, Try.ntmps119
      go_wp2_with fail
      rw [← hA]
      refine (l01In_any _ 1 12 _).mono ?_
      rintro e w1 ⟨rfl, rfl⟩
      rw [hin]
      clear hA
      go_wp2_with fail
      refine (l01System_any _ gens _ _ HV.out).mono ?_
      rintro e w1 ⟨rfl, hx1⟩
      rw [hb]
      have f1 := hx1.cell r0
      have f2 := hx1.free q0 (by simp only []; omega)
      have zz := hx1.size
      have HX1 := Lib.hid hx1
      clear hx1 hb hin r0 q0
      go_wp2_with fail
      refine (HGG.out _ (HV.out.ext HX1.out)).mono ?_
      rintro e w2 ⟨v2, rfl, hr2, hx2⟩
      obtain ⟨-, ba, oa, ca, rfl, -⟩ := hr2
      have f3 := hx2.cell f1
      have f4 := hx2.free f2 (by simp only []; omega)
      have HX2 := Lib.hid hx2
      clear hx2 f1 f2
      go_wp2_with fail
      refine bodyPost_ret (v := .tuple #[.agg #[.slice none 0 0], .int .i64 3]) (by simp [results, Try.results119, go_sem, f3]) rfl ⟨_, rfl, RowsR.nil _ _, (HX0.out.trans (HX1.out.trans HX2.out)).setNew (by simp only []; omega) _⟩
    case pos =>
      obtain ⟨g1, g2⟩ := gop_yes HB.out (by rw [Int.toNat_natCast, ← HRE.out]; exact hbig)
      rw [g1, g2]
      have HGS := Lib.hid (show gopS n gens = sortS R by unfold gopS; rw [Int.toNat_natCast, HRE.out])
      clear g1 g2
      have hbi : ¬ (12 : Int) < (R.length : Int) := by omega
      go_enter Try.func119, Try.ntmps119
      go_wp2_with fail
      rw [← hA]
      refine (l01In_any _ 1 12 _).mono ?_
      rintro e w1 ⟨rfl, rfl⟩
      rw [hin]
      clear hA
      go_wp2_with fail
      refine (l01System_any _ gens _ _ HV.out).mono ?_
      rintro e w1 ⟨rfl, hx1⟩
      rw [hb]
      have f1 := hx1.cell r0
      have f2 := hx1.free q0 (by simp only []; omega)
      have zz := hx1.size
      have HX1 := Lib.hid hx1
      clear hx1 hb hin r0 q0
      go_wp2_with fail
      refine (HGG.out _ (HV.out.ext HX1.out)).mono ?_
      rintro e w2 ⟨v2, rfl, hr2, hx2⟩
      obtain ⟨-, ba, oa, ca, rfl, hca2⟩ := hr2
      have f3 := hx2.cell f1
      have f4 := hx2.free f2 (by simp only []; omega)
      have zz2 := hx2.size
      have HX2 := Lib.hid (HX0.out.trans (HX1.out.trans hx2))
      have HCA := Lib.hid hca2
      clear hx2 f1 f2 hca2 HX1
      go_wp2_with fail
      have hxl : Ext w2 (w2.alloc (.cells #[] 45)) := (Ext.refl _).alloc _
      have hg0 := GrowX.lit (e := 45) (base := w.heap.size) (w := w2) (by omega)
      go_loopw [7, 8] (fun vs x wr => ∃ (i : Nat) (s : List (List Int)), x = .int .i64 i ∧ i ≤ R.length ∧ s.Pairwise (· < ·) ∧ s.Perm (R.take i) ∧ GrowX 45 w.heap.size wr vs s ∧ vs ≠ .slice none 0 0 ∧ Ext w2 wr) (fun _ x _ => R.length - (intOf x).toNat)
      case atStart => exact ⟨0, [], rfl, by omega, List.Pairwise.nil, by rw [List.take_zero], hg0, by simp, hxl⟩
      case round =>
        clear hxl hg0
        obtain ⟨i, s, rfl, hi, hss, hsp, hgs, hvs, hx⟩ := hrel
        have hsl : s.length = i := by rw [hsp.length_eq, List.length_take]; omega
        have hsl2 := And.intro (Nat.le_of_eq hsl) (Nat.le_of_eq hsl.symm)
        have HSS := Lib.hid hss
        have HSP := Lib.hid hsp
        have HX := Lib.hid hx
        by_cases hil : i < R.length
        case neg =>
          have hta : R.take i = R := List.take_of_length_le (by omega)
          have hsr : s = sortS R := sortS_eq HGOOD.out.nodup (by rw [hta] at hsp; exact hsp) hss
          have hrows : Rows wr _ s := hgs.rows hvs (by omega)
          obtain ⟨-, bs, os, cs, rfl, -⟩ := id hrows
          have HRS := Lib.hid hrows
          have HSR := Lib.hid hsr
          have f5 := hx.cell f3
          have f6 := hx.free f4 (by simp only []; omega)
          have zx := hx.size
          have HIX := Lib.hid (sorted_rows HGOOD.out)
          clear hss hsp hgs hvs hx hsl hta hsr hrows f3 f4
          go_wp2_with fail
          refine (l10Permutations_any n s _ _ HRS.out (by rw [HSR.out]; exact HIX.out) (by omega) (by omega)).mono ?_
          rintro e w5 ⟨v5, rfl, hr5, hx5⟩
          obtain ⟨-, b5, o5, c5, rfl, -⟩ := id hr5
          have HR5 := Lib.hid hr5
          have f7 := hx5.cell f5
          have f8 := hx5.free f6 (by simp only []; omega)
          have F7 := Lib.hid f7
          have HX5 := Lib.hid hx5
          clear f5 f6 hr5 hx5
          go_wp2_with fail
          refine bodyPost_ret (v := .tuple #[.agg #[.slice (some ⟨b5, o5, none⟩) (mkT s.length (gopE s)).length c5], .int .i64 0]) (by simp [results, Try.results119, go_sem, f7]) rfl ⟨_, rfl, by rw [HGS.out, ← HSR.out]; exact (rows_set1 HR5.out F7.out _).toR, (HX2.out.trans (HX.out.trans HX5.out)).setNew (by simp only []; omega) _⟩
        case pos =>
          have hii : (i : Int) < (R.length : Int) := by omega
          have hpo := HGOOD.out.row hil
          have HPL := Lib.hid hpo.1
          obtain ⟨bi, oi, di, a1, a2, a3⟩ := (HCA.out.ext hx).get hil
          rw [hpo.1] at a1
          have HP := Lib.hid (show Ints wr (.slice (some ⟨bi, oi, none⟩) n di) (row R i) from ⟨a3, bi, oi, di, by rw [hpo.1], a2⟩)
          have hnm : row R i ∉ s := fun h => nodup_row HGOOD.out.nodup hil (hsp.mem_iff.1 h)
          obtain ⟨xs, hown, hxs⟩ := hgs
          obtain ⟨g, cap, rfl, hcap, hgb, hgz, hcl⟩ := ownsRow_parts hown hvs
          have HSR := Lib.hid (show Rows wr (.slice (some ⟨g, 0, none⟩) s.length cap) s from GrowX.rows ⟨xs, hown, hxs⟩ (by simp) (by omega))
          have HXL := Lib.hid hxs.1
          have HXS := Lib.hid hxs
          have HCE := Lib.hid hcl
          have zx := hx.size
          clear hss hsp hvs hx hsl hpo a2 a3 hown hxs hcl
          go_wp2_with fail
          refine (l03Search_any s (row R i) _ _ _ HSR.out HP.out HSS.out).mono ?_
          rintro e w4 ⟨⟨k0, rfl, hk0, hlo, hhi⟩, hd4⟩
          have HD4 := Lib.hid hd4.ext
          have HSS2 := Lib.hid (put_sorted HSS.out hk0 hlo hhi hnm)
          have HSP2 := Lib.hid (show (s.take k0 ++ ([row R i] ++ s.drop k0)).Perm (R.take (i + 1)) by
            rw [take_row R i hil]
            exact (put_perm.trans (List.Perm.cons _ HSP.out)).trans (List.perm_append_comm (l₁ := [row R i])))
          have HXN := Lib.hid ((XS.one (HP.out.ext HD4.out)).append ((HXS.out.ext HD4.out).drop k0))
          have HXS := Lib.hid (HXS.out.ext HD4.out)
          have HCE := Lib.hid (fun i x hi => HD4.out.cell (HCE.out i x hi))
          have a1 := HD4.out.cell a1
          have zd := HD4.out.size
          clear hlo hhi hd4 hnm
          go_wp2_with fail
          by_cases hca : cap = k0
          case pos =>
            subst hca
            have hdr : s.drop cap = [] := List.drop_of_length_le (by omega)
            go_cut [10] (fun p wx => ∃ g5, p = .slice (some ⟨g5, 0, none⟩) 1 1 ∧ wx.cell? ⟨g5, 0, none⟩ = some (.slice (some ⟨bi, oi, none⟩) n di) ∧ Ext w4 wx ∧ w4.heap.size ≤ g5)
            case first =>
              go_region_held3 (fun w' => w'.cell? ⟨ba, oa + i, none⟩ = some (.slice (some ⟨bi, oi, none⟩) n di)) ((repeat first | (with_reducible assumption) |  (with_reducible exact kc_new) | ((with_reducible refine kc_newE ?_); (simp; done)) | ((with_reducible refine kc_newEa ?_); (simp; done)) | ((with_reducible refine kc_newEb ?_); (simp; done)) | (with_reducible apply kc_alloc) | (with_reducible apply kc_drewN) | (with_reducible apply kc_drew) | ((with_reducible refine kc_set ?_ ?_); (first | (simp only []; omega) | (simp; omega) | (focus (simp; done)))) | ((with_reducible refine kc_set2 ?_ ?_); (focus (simp; done))) | (with_reducible refine kc_same (v := .slice none 0 0) ?_))) (fail)
              all_goals
                go_wp2_with fail
                go_meet
                case rel => exact ⟨_, rfl, by first | (repeat first | (with_reducible assumption) |  (with_reducible exact kc_new) | ((with_reducible refine kc_newE ?_); (simp; done)) | ((with_reducible refine kc_newEa ?_); (simp; done)) | ((with_reducible refine kc_newEb ?_); (simp; done)) | (with_reducible apply kc_alloc) | (with_reducible apply kc_drewN) | (with_reducible apply kc_drew) | ((with_reducible refine kc_set ?_ ?_); (first | (simp only []; omega) | (simp; omega) | (focus (simp; done)))) | ((with_reducible refine kc_set2 ?_ ?_); (focus (simp; done))) | (with_reducible refine kc_same (v := .slice none 0 0) ?_)) | (simp [go_sem]; done), by (repeat first | (with_reducible exact Ext.refl _) | (with_reducible assumption) | (with_reducible apply Ext.drew) | (with_reducible apply kx_drewN) | (with_reducible apply kx_alloc) | ((with_reducible refine kx_set ?_ ?_); (first | (simp only []; omega) | (simp; omega) | (focus (simp; done)))) ), by first | omega | (simp; done) | (simp [size_drew, size_drewN]; done)⟩
            obtain ⟨g5, rfl, hc5, hx5, hg5⟩ := hcut
            have z5 := hx5.size
            go_wp2_with (at_builtin; refine wpList_append_xs rfl _ _ 25 45 rfl Try.underlying25 infoSl wc.heap.size (.slice (some ⟨wc.heap.size, 0, none⟩) 0 0) 0 [] rfl (ownsRow_lit (Nat.le_refl _)) (by simp) g 0 cap cap (xs.take cap) (by rw [List.length_take, HXL.out]; omega) rfl (fun i x hi => by rw [Nat.zero_add]; have hi2 : xs[i]? = some x := (by rw [List.getElem?_take] at hi; split at hi <;> first | exact hi | cases hi); exact ((Ext.refl wc).alloc _).cell (hx5.cell (HCE.out i x hi2))) (fun u hu => HXS.out.cell u (List.mem_of_mem_take hu)) (by omega) (by omega) (by simp) ?_)
            intro v6 w6 hown6 hgr6 hv6
            have hx6 : Ext wc w6 := Ext.grown ((Ext.refl wc).alloc _) hgr6 (ownsRow_lit (Nat.le_refl _)) (Nat.le_refl _)
            have z6 := hx6.size
            clear hgr6
            go_wp2_with (at_builtin; refine wpList_append_xs rfl _ _ 25 45 rfl Try.underlying25 infoSl wc.heap.size v6 _ _ rfl hown6 hv6 g5 0 1 1 [.slice (some ⟨bi, oi, none⟩) n di] rfl rfl (fun i x hi => by cases i with | zero => (simp at hi; subst hi; exact hx6.cell hc5) | succ i => simp at hi) (fun u hu => by simp at hu; subst hu; rfl) (by omega) (by omega) (by omega) ?_)
            intro v7 w7 hown7 hgr7 hv7
            have HX7 := Lib.hid (hx5.trans (Ext.grown hx6 hgr7 hown6 (Nat.le_refl _)))
            have HG7 := Lib.hid (show GrowX 45 w.heap.size w7 v7 (s.take cap ++ ([row R i] ++ s.drop cap)) from by
              rw [hdr]
              exact ⟨_, ownsRow_len (ownsRow_base hown7 (by omega)) (by rw [List.length_append, List.length_append, List.length_take] <;> simp <;> omega), ((HXS.out.take cap).append (XS.one (HP.out.ext HD4.out))).ext HX7.out⟩)
            have HV7 := Lib.hid hv7
            have z7 := HX7.out.size
            clear hgr7 hown7 hown6 hv6 hv7 hx5 hx6 hc5 hdr
            go_wp2_with fail
            go_roundw
            case rel => exact ⟨i + 1, _, by go_num, by omega, HSS2.out, HSP2.out, HG7.out, HV7.out, HX.out.trans (HD4.out.trans HX7.out)⟩
            case measure => simp [intOf]; omega
          case neg =>
            go_region_held3 (fun w' => w'.cell? ⟨ba, oa + i, none⟩ = some (.slice (some ⟨bi, oi, none⟩) n di))
              ((first | (focus ((repeat first | (with_reducible assumption) | (with_reducible refine Ext.cell hx5 ?_) |  (with_reducible exact kc_new) | ((with_reducible refine kc_newE ?_); (simp; done)) | ((with_reducible refine kc_newEa ?_); (simp; done)) | ((with_reducible refine kc_newEb ?_); (simp; done)) | (with_reducible apply kc_alloc) | (with_reducible apply kc_drewN) | (with_reducible apply kc_drew) | ((with_reducible refine kc_set ?_ ?_); (first | (simp only []; omega) | (simp; omega) | (focus (simp; done)))) | ((with_reducible refine kc_set2 ?_ ?_); (focus (simp; done))) | (with_reducible refine kc_same (v := .slice none 0 0) ?_)); done)) | (focus ((repeat first | (with_reducible assumption) |  (with_reducible exact kc_new) | ((with_reducible refine kc_newE ?_); (simp; done)) | ((with_reducible refine kc_newEa ?_); (simp; done)) | ((with_reducible refine kc_newEb ?_); (simp; done)) | (with_reducible apply kc_alloc) | (with_reducible apply kc_drewN) | (with_reducible apply kc_drew) | ((with_reducible refine kc_set ?_ ?_); (first | (simp only []; omega) | (simp; omega) | (focus (simp; done)))) | ((with_reducible refine kc_set2 ?_ ?_); (focus (simp; done))) | (with_reducible refine kc_same (v := .slice none 0 0) ?_)); done))))
              ((refine step_append_xs (by rfl) _ _ 25 45 (by rfl) Try.underlying25 infoSl w4.heap.size _ 1 [.slice (some ⟨bi, oi, none⟩) n di] (by rfl) (ownsRow_one (w := w4.drew) (Nat.le_refl _)) (by simp) g k0 _ (s.length - k0) (xs.drop k0) (by rw [List.length_drop, HXL.out] <;> omega) (by rfl) (fun i x hi => by rw [List.getElem?_drop] at hi; exact (show Ext w4 _ by (repeat first | (with_reducible exact Ext.refl _) | (with_reducible assumption) | (with_reducible apply Ext.drew) | (with_reducible apply kx_drewN) | (with_reducible apply kx_alloc) | ((with_reducible refine kx_set ?_ ?_); (first | (simp only []; omega) | (simp; omega) | (focus (simp; done)))) )).cell (HCE.out _ _ hi)) (fun u hu => HXS.out.cell u (List.mem_of_mem_drop hu)) (by omega) (by omega) (by simp) ?_; intro v5 w5 hown5 hgr5 hv5; have hx5 : Ext w4 w5 := Ext.grown (by (repeat first | (with_reducible exact Ext.refl _) | (with_reducible assumption) | (with_reducible apply Ext.drew) | (with_reducible apply kx_drewN) | (with_reducible apply kx_alloc) | ((with_reducible refine kx_set ?_ ?_); (first | (simp only []; omega) | (simp; omega) | (focus (simp; done)))) )) hgr5 (ownsRow_one (w := w4.drew) (Nat.le_refl _)) (Nat.le_refl _)))
            obtain ⟨g5, cap5, rfl, hc5, hg5, hs5, hcl5⟩ := ownsRow_parts hown5 hv5
            have HC5 := Lib.hid hcl5
            have z5 := hx5.size
            clear hcl5 hgr5 hown5
            go_wp2_with (at_builtin; refine wpList_append_xs rfl _ _ 25 45 rfl Try.underlying25 infoSl w5.heap.size (.slice (some ⟨w5.heap.size, 0, none⟩) 0 0) 0 [] rfl (ownsRow_lit (Nat.le_refl _)) (by simp) g 0 cap k0 (xs.take k0) (by rw [List.length_take, HXL.out]; omega) rfl (fun i x hi => by rw [Nat.zero_add]; have hi2 : xs[i]? = some x := (by rw [List.getElem?_take] at hi; split at hi <;> first | exact hi | cases hi); exact ((Ext.refl w5).alloc _).cell (hx5.cell (HCE.out i x hi2))) (fun u hu => HXS.out.cell u (List.mem_of_mem_take hu)) (by omega) (by omega) (by simp) ?_)
            intro v6 w6 hown6 hgr6 hv6
            have hx6 : Ext w5 w6 := Ext.grown ((Ext.refl w5).alloc _) hgr6 (ownsRow_lit (Nat.le_refl _)) (Nat.le_refl _)
            have z6 := hx6.size
            clear hgr6
            go_wp2_with (at_builtin; refine wpList_append_xs rfl _ _ 25 45 rfl Try.underlying25 infoSl w5.heap.size v6 _ _ rfl hown6 hv6 g5 0 cap5 _ ([.slice (some ⟨bi, oi, none⟩) n di] ++ xs.drop k0) (by rw [List.length_append, List.length_drop, HXL.out] <;> first | (simp; done) | (simp; omega)) rfl (fun i x hi => by rw [Nat.zero_add]; exact hx6.cell (HC5.out i x hi)) (fun u hu => (HXN.out).cell u hu) (by omega) (by omega) (by omega) ?_)
            intro v7 w7 hown7 hgr7 hv7
            have HX7 := Lib.hid (hx5.trans (Ext.grown hx6 hgr7 hown6 (Nat.le_refl _)))
            have HG7 := Lib.hid (show GrowX 45 w.heap.size w7 v7 (s.take k0 ++ ([row R i] ++ s.drop k0)) from ⟨_, ownsRow_len (ownsRow_base hown7 (by omega)) (by rw [List.length_append, List.length_append, List.length_take, List.length_drop] <;> simp <;> omega), ((HXS.out.take k0).append HXN.out).ext HX7.out⟩)
            have HV7 := Lib.hid hv7
            have z7 := HX7.out.size
            clear hgr7 hown7 hown6 hv6 hv7 hx5 hx6
            go_wp2_with fail
            go_roundw
            case rel => exact ⟨i + 1, _, by go_num, by omega, HSS2.out, HSP2.out, HG7.out, HV7.out, HX.out.trans (HD4.out.trans HX7.out)⟩
            case measure => simp [intOf]; omega
end Go.Proofs.Ytbfhecckapgpnaa

/-
  Contract (new memory) of the reference's GroupOfPermutations.
-/
namespace Go.Proofs.Ytbfhecckapgpnaa
set_option linter.unusedVariables false
set_option linter.unusedSimpArgs false
open Go.RowKit
attribute [local go_sem ↓] Go.wp_at_zero Go.wp_at_succ
open Go.Deep

set_option maxRecDepth 100000 in
set_option maxHeartbeats 2000000 in
theorem GroupOfPermutations_own (n : Nat) (gens : List (List Int)) (v : Value) (w : World) (hv : Rows w v gens) (hb : sysB (n : Int) gens = true) (hbig0 : (genA gens n).length ≤ 12) :
    Calls Try.prog 119 #[.int .i64 n, v] w fun e w' => ∃ b c, e = .returned (.tuple #[.agg #[.slice (some ⟨b, 0, none⟩) (gopV (n : Int) gens).length c], .int .i64 0]) ∧ OwnT w.heap.size w'.heap.size w' b 0 (gopV (n : Int) gens) ∧ Ext w w' := by
  obtain ⟨hlen, b, o, c, rfl, -⟩ := id hv
  have hx0 : Ext w (w.alloc (.cells #[.slice none 0 0] 32)) := (Ext.refl _).alloc _
  have r0 : (w.alloc (.cells #[.slice none 0 0] 32)).cell? ⟨w.heap.size, 0, none⟩ = some (.slice none 0 0) := by simp
  have q0 : (w.alloc (.cells #[.slice none 0 0] 32)).frozen? ⟨w.heap.size, 0, none⟩ = false := by simp [go_sem]
  have z0 : w.heap.size + 1 ≤ (w.alloc (.cells #[.slice none 0 0] 32)).heap.size := by simp
  obtain ⟨A, hA⟩ : ∃ A, A = (w.alloc (.cells #[.slice none 0 0] 32)) := ⟨_, rfl⟩
  rw [← hA] at hx0 r0 q0 z0
  have HV := Lib.hid (hv.ext hx0)
  have HX0 := Lib.hid hx0
  clear hv hx0
  obtain ⟨⟨h1, h12⟩, h16, hg⟩ := sysB_ok hb
  rw [Int.toNat_natCast] at hg
  have hin : inR (n : Int) 1 12 = true := inR_iff.2 ⟨h1, h12⟩
  have hgood := genA_good hg (idL_perm n)
  have HGOOD := Lib.hid hgood
  have HGG := Lib.hid (fun W (h : Rows W (.slice (some ⟨b, o, none⟩) gens.length c) gens) => l03Group_any n gens _ W h hg (by omega) (by omega) h16)
  obtain ⟨R, hR⟩ : ∃ R, R = genA gens n := ⟨_, rfl⟩
  have hRl := hgood.few
  have HRE := Lib.hid hR
  rw [← hR] at hRl
  rw [← hR] at HGOOD
  rw [← hR] at HGG
  have HB := Lib.hid hb
  clear hg hgood hR
  have hbig : R.length ≤ 12 := by rw [HRE.out]; exact hbig0
  obtain ⟨g1, -⟩ := gop_yes HB.out (by rw [Int.toNat_natCast, ← HRE.out]; exact hbig)
  rw [g1]
  have HGS := Lib.hid (show gopS n gens = sortS R by unfold gopS; rw [Int.toNat_natCast, HRE.out])
  clear g1
  have hbi : ¬ (12 : Int) < (R.length : Int) := by omega
  go_enter Try.func119, Try.ntmps119
  go_wp2_with fail
  rw [← hA]
  refine (l01In_any _ 1 12 _).mono ?_
  rintro e w1 ⟨rfl, rfl⟩
  rw [hin]
  clear hA
  go_wp2_with fail
  refine (l01System_any _ gens _ _ HV.out).mono ?_
  rintro e w1 ⟨rfl, hx1⟩
  rw [hb]
  have f1 := hx1.cell r0
  have f2 := hx1.free q0 (by simp only []; omega)
  have zz := hx1.size
  have HX1 := Lib.hid hx1
  clear hx1 hb hin r0 q0
  go_wp2_with fail
  refine (HGG.out _ (HV.out.ext HX1.out)).mono ?_
  rintro e w2 ⟨v2, rfl, hr2, hx2⟩
  obtain ⟨-, ba, oa, ca, rfl, hca2⟩ := hr2
  have f3 := hx2.cell f1
  have f4 := hx2.free f2 (by simp only []; omega)
  have zz2 := hx2.size
  have HX2 := Lib.hid (HX0.out.trans (HX1.out.trans hx2))
  have HCA := Lib.hid hca2
  clear hx2 f1 f2 hca2 HX1
  go_wp2_with fail
  have hxl : Ext w2 (w2.alloc (.cells #[] 45)) := (Ext.refl _).alloc _
  have hg0 := GrowX.lit (e := 45) (base := w.heap.size) (w := w2) (by omega)
  go_loopw [7, 8] (fun vs x wr => ∃ (i : Nat) (s : List (List Int)), x = .int .i64 i ∧ i ≤ R.length ∧ s.Pairwise (· < ·) ∧ s.Perm (R.take i) ∧ GrowX 45 w.heap.size wr vs s ∧ vs ≠ .slice none 0 0 ∧ Ext w2 wr) (fun _ x _ => R.length - (intOf x).toNat)
  case atStart => exact ⟨0, [], rfl, by omega, List.Pairwise.nil, by rw [List.take_zero], hg0, by simp, hxl⟩
  case round =>
    clear hxl hg0
    obtain ⟨i, s, rfl, hi, hss, hsp, hgs, hvs, hx⟩ := hrel
    have hsl : s.length = i := by rw [hsp.length_eq, List.length_take]; omega
    have hsl2 := And.intro (Nat.le_of_eq hsl) (Nat.le_of_eq hsl.symm)
    have HSS := Lib.hid hss
    have HSP := Lib.hid hsp
    have HX := Lib.hid hx
    by_cases hil : i < R.length
    case neg =>
      have hta : R.take i = R := List.take_of_length_le (by omega)
      have hsr : s = sortS R := sortS_eq HGOOD.out.nodup (by rw [hta] at hsp; exact hsp) hss
      have hrows : Rows wr _ s := hgs.rows hvs (by omega)
      obtain ⟨-, bs, os, cs, rfl, -⟩ := id hrows
      have HRS := Lib.hid hrows
      have HSR := Lib.hid hsr
      have f5 := hx.cell f3
      have f6 := hx.free f4 (by simp only []; omega)
      have zx := hx.size
      have HIX := Lib.hid (sorted_rows HGOOD.out)
      clear hss hsp hgs hvs hx hsl hta hsr hrows f3 f4
      go_wp2_with fail
      refine (l10Permutations_own n s _ _ HRS.out (by rw [HSR.out]; exact HIX.out) (by omega) (by omega)).mono ?_
      rintro e w5 ⟨b5, c5, rfl, ho5, hx5⟩
      skip
      have HR5 := Lib.hid ho5
      have f7 := hx5.cell f5
      have f8 := hx5.free f6 (by simp only []; omega)
      have F7 := Lib.hid f7
      have HX5 := Lib.hid hx5
      clear f5 f6 ho5 hx5
      go_wp2_with fail
      refine bodyPost_ret (v := .tuple #[.agg #[.slice (some ⟨b5, 0, none⟩) (mkT s.length (gopE s)).length c5], .int .i64 0]) (by simp [results, Try.results119, go_sem, f7]) rfl ⟨b5, c5, by rw [HGS.out, ← HSR.out], by rw [HGS.out, ← HSR.out]; exact ((HR5.out.setOther (.inl (by simp only []; omega)) _).mono (by omega) (by simp)), (HX2.out.trans (HX.out.trans HX5.out)).setNew (by simp only []; omega) _⟩
    case pos =>
      have hii : (i : Int) < (R.length : Int) := by omega
      have hpo := HGOOD.out.row hil
      have HPL := Lib.hid hpo.1
      obtain ⟨bi, oi, di, a1, a2, a3⟩ := (HCA.out.ext hx).get hil
      rw [hpo.1] at a1
      have HP := Lib.hid (show Ints wr (.slice (some ⟨bi, oi, none⟩) n di) (row R i) from ⟨a3, bi, oi, di, by rw [hpo.1], a2⟩)
      have hnm : row R i ∉ s := fun h => nodup_row HGOOD.out.nodup hil (hsp.mem_iff.1 h)
      obtain ⟨xs, hown, hxs⟩ := hgs
      obtain ⟨g, cap, rfl, hcap, hgb, hgz, hcl⟩ := ownsRow_parts hown hvs
      have HSR := Lib.hid (show Rows wr (.slice (some ⟨g, 0, none⟩) s.length cap) s from GrowX.rows ⟨xs, hown, hxs⟩ (by simp) (by omega))
      have HXL := Lib.hid hxs.1
      have HXS := Lib.hid hxs
      have HCE := Lib.hid hcl
      have zx := hx.size
      clear hss hsp hvs hx hsl hpo a2 a3 hown hxs hcl
      go_wp2_with fail
      refine (l03Search_any s (row R i) _ _ _ HSR.out HP.out HSS.out).mono ?_
      rintro e w4 ⟨⟨k0, rfl, hk0, hlo, hhi⟩, hd4⟩
      have HD4 := Lib.hid hd4.ext
      have HSS2 := Lib.hid (put_sorted HSS.out hk0 hlo hhi hnm)
      have HSP2 := Lib.hid (show (s.take k0 ++ ([row R i] ++ s.drop k0)).Perm (R.take (i + 1)) by
        rw [take_row R i hil]
        exact (put_perm.trans (List.Perm.cons _ HSP.out)).trans (List.perm_append_comm (l₁ := [row R i])))
      have HXN := Lib.hid ((XS.one (HP.out.ext HD4.out)).append ((HXS.out.ext HD4.out).drop k0))
      have HXS := Lib.hid (HXS.out.ext HD4.out)
      have HCE := Lib.hid (fun i x hi => HD4.out.cell (HCE.out i x hi))
      have a1 := HD4.out.cell a1
      have zd := HD4.out.size
      clear hlo hhi hd4 hnm
      go_wp2_with fail
      by_cases hca : cap = k0
      case pos =>
        subst hca
        have hdr : s.drop cap = [] := List.drop_of_length_le (by omega)
        go_cut [10] (fun p wx => ∃ g5, p = .slice (some ⟨g5, 0, none⟩) 1 1 ∧ wx.cell? ⟨g5, 0, none⟩ = some (.slice (some ⟨bi, oi, none⟩) n di) ∧ Ext w4 wx ∧ w4.heap.size ≤ g5)
        case first =>
          go_region_held3 (fun w' => w'.cell? ⟨ba, oa + i, none⟩ = some (.slice (some ⟨bi, oi, none⟩) n di)) ((repeat first | (with_reducible assumption) |  (with_reducible exact kc_new) | ((with_reducible refine kc_newE ?_); (simp; done)) | ((with_reducible refine kc_newEa ?_); (simp; done)) | ((with_reducible refine kc_newEb ?_); (simp; done)) | (with_reducible apply kc_alloc) | (with_reducible apply kc_drewN) | (with_reducible apply kc_drew) | ((with_reducible refine kc_set ?_ ?_); (first | (simp only []; omega) | (simp; omega) | (focus (simp; done)))) | ((with_reducible refine kc_set2 ?_ ?_); (focus (simp; done))) | (with_reducible refine kc_same (v := .slice none 0 0) ?_))) (fail)
          all_goals
            go_wp2_with fail
            go_meet
            case rel => exact ⟨_, rfl, by first | (repeat first | (with_reducible assumption) |  (with_reducible exact kc_new) | ((with_reducible refine kc_newE ?_); (simp; done)) | ((with_reducible refine kc_newEa ?_); (simp; done)) | ((with_reducible refine kc_newEb ?_); (simp; done)) | (with_reducible apply kc_alloc) | (with_reducible apply kc_drewN) | (with_reducible apply kc_drew) | ((with_reducible refine kc_set ?_ ?_); (first | (simp only []; omega) | (simp; omega) | (focus (simp; done)))) | ((with_reducible refine kc_set2 ?_ ?_); (focus (simp; done))) | (with_reducible refine kc_same (v := .slice none 0 0) ?_)) | (simp [go_sem]; done), by (repeat first | (with_reducible exact Ext.refl _) | (with_reducible assumption) | (with_reducible apply Ext.drew) | (with_reducible apply kx_drewN) | (with_reducible apply kx_alloc) | ((with_reducible refine kx_set ?_ ?_); (first | (simp only []; omega) | (simp; omega) | (focus (simp; done)))) ), by first | omega | (simp; done) | (simp [size_drew, size_drewN]; done)⟩
        obtain ⟨g5, rfl, hc5, hx5, hg5⟩ := hcut
        have z5 := hx5.size
        go_wp2_with (at_builtin; refine wpList_append_xs rfl _ _ 25 45 rfl Try.underlying25 infoSl wc.heap.size (.slice (some ⟨wc.heap.size, 0, none⟩) 0 0) 0 [] rfl (ownsRow_lit (Nat.le_refl _)) (by simp) g 0 cap cap (xs.take cap) (by rw [List.length_take, HXL.out]; omega) rfl (fun i x hi => by rw [Nat.zero_add]; have hi2 : xs[i]? = some x := (by rw [List.getElem?_take] at hi; split at hi <;> first | exact hi | cases hi); exact ((Ext.refl wc).alloc _).cell (hx5.cell (HCE.out i x hi2))) (fun u hu => HXS.out.cell u (List.mem_of_mem_take hu)) (by omega) (by omega) (by simp) ?_)
        intro v6 w6 hown6 hgr6 hv6
        have hx6 : Ext wc w6 := Ext.grown ((Ext.refl wc).alloc _) hgr6 (ownsRow_lit (Nat.le_refl _)) (Nat.le_refl _)
        have z6 := hx6.size
        clear hgr6
        go_wp2_with (at_builtin; refine wpList_append_xs rfl _ _ 25 45 rfl Try.underlying25 infoSl wc.heap.size v6 _ _ rfl hown6 hv6 g5 0 1 1 [.slice (some ⟨bi, oi, none⟩) n di] rfl rfl (fun i x hi => by cases i with | zero => (simp at hi; subst hi; exact hx6.cell hc5) | succ i => simp at hi) (fun u hu => by simp at hu; subst hu; rfl) (by omega) (by omega) (by omega) ?_)
        intro v7 w7 hown7 hgr7 hv7
        have HX7 := Lib.hid (hx5.trans (Ext.grown hx6 hgr7 hown6 (Nat.le_refl _)))
        have HG7 := Lib.hid (show GrowX 45 w.heap.size w7 v7 (s.take cap ++ ([row R i] ++ s.drop cap)) from by
          rw [hdr]
          exact ⟨_, ownsRow_len (ownsRow_base hown7 (by omega)) (by rw [List.length_append, List.length_append, List.length_take] <;> simp <;> omega), ((HXS.out.take cap).append (XS.one (HP.out.ext HD4.out))).ext HX7.out⟩)
        have HV7 := Lib.hid hv7
        have z7 := HX7.out.size
        clear hgr7 hown7 hown6 hv6 hv7 hx5 hx6 hc5 hdr
        go_wp2_with fail
        go_roundw
        case rel => exact ⟨i + 1, _, by go_num, by omega, HSS2.out, HSP2.out, HG7.out, HV7.out, HX.out.trans (HD4.out.trans HX7.out)⟩
        case measure => simp [intOf]; omega
      case neg =>
        go_region_held3 (fun w' => w'.cell? ⟨ba, oa + i, none⟩ = some (.slice (some ⟨bi, oi, none⟩) n di))
          ((first | (focus ((repeat first | (with_reducible assumption) | (with_reducible refine Ext.cell hx5 ?_) |  (with_reducible exact kc_new) | ((with_reducible refine kc_newE ?_); (simp; done)) | ((with_reducible refine kc_newEa ?_); (simp; done)) | ((with_reducible refine kc_newEb ?_); (simp; done)) | (with_reducible apply kc_alloc) | (with_reducible apply kc_drewN) | (with_reducible apply kc_drew) | ((with_reducible refine kc_set ?_ ?_); (first | (simp only []; omega) | (simp; omega) | (focus (simp; done)))) | ((with_reducible refine kc_set2 ?_ ?_); (focus (simp; done))) | (with_reducible refine kc_same (v := .slice none 0 0) ?_)); done)) | (focus ((repeat first | (with_reducible assumption) |  (with_reducible exact kc_new) | ((with_reducible refine kc_newE ?_); (simp; done)) | ((with_reducible refine kc_newEa ?_); (simp; done)) | ((with_reducible refine kc_newEb ?_); (simp; done)) | (with_reducible apply kc_alloc) | (with_reducible apply kc_drewN) | (with_reducible apply kc_drew) | ((with_reducible refine kc_set ?_ ?_); (first | (simp only []; omega) | (simp; omega) | (focus (simp; done)))) | ((with_reducible refine kc_set2 ?_ ?_); (focus (simp; done))) | (with_reducible refine kc_same (v := .slice none 0 0) ?_)); done))))
          ((refine step_append_xs (by rfl) _ _ 25 45 (by rfl) Try.underlying25 infoSl w4.heap.size _ 1 [.slice (some ⟨bi, oi, none⟩) n di] (by rfl) (ownsRow_one (w := w4.drew) (Nat.le_refl _)) (by simp) g k0 _ (s.length - k0) (xs.drop k0) (by rw [List.length_drop, HXL.out] <;> omega) (by rfl) (fun i x hi => by rw [List.getElem?_drop] at hi; exact (show Ext w4 _ by (repeat first | (with_reducible exact Ext.refl _) | (with_reducible assumption) | (with_reducible apply Ext.drew) | (with_reducible apply kx_drewN) | (with_reducible apply kx_alloc) | ((with_reducible refine kx_set ?_ ?_); (first | (simp only []; omega) | (simp; omega) | (focus (simp; done)))) )).cell (HCE.out _ _ hi)) (fun u hu => HXS.out.cell u (List.mem_of_mem_drop hu)) (by omega) (by omega) (by simp) ?_; intro v5 w5 hown5 hgr5 hv5; have hx5 : Ext w4 w5 := Ext.grown (by (repeat first | (with_reducible exact Ext.refl _) | (with_reducible assumption) | (with_reducible apply Ext.drew) | (with_reducible apply kx_drewN) | (with_reducible apply kx_alloc) | ((with_reducible refine kx_set ?_ ?_); (first | (simp only []; omega) | (simp; omega) | (focus (simp; done)))) )) hgr5 (ownsRow_one (w := w4.drew) (Nat.le_refl _)) (Nat.le_refl _)))
        obtain ⟨g5, cap5, rfl, hc5, hg5, hs5, hcl5⟩ := ownsRow_parts hown5 hv5
        have HC5 := Lib.hid hcl5
        have z5 := hx5.size
        clear hcl5 hgr5 hown5
        go_wp2_with (at_builtin; refine wpList_append_xs rfl _ _ 25 45 rfl Try.underlying25 infoSl w5.heap.size (.slice (some ⟨w5.heap.size, 0, none⟩) 0 0) 0 [] rfl (ownsRow_lit (Nat.le_refl _)) (by simp) g 0 cap k0 (xs.take k0) (by rw [List.length_take, HXL.out]; omega) rfl (fun i x hi => by rw [Nat.zero_add]; have hi2 : xs[i]? = some x := (by rw [List.getElem?_take] at hi; split at hi <;> first | exact hi | cases hi); exact ((Ext.refl w5).alloc _).cell (hx5.cell (HCE.out i x hi2))) (fun u hu => HXS.out.cell u (List.mem_of_mem_take hu)) (by omega) (by omega) (by simp) ?_)
        intro v6 w6 hown6 hgr6 hv6
        have hx6 : Ext w5 w6 := Ext.grown ((Ext.refl w5).alloc _) hgr6 (ownsRow_lit (Nat.le_refl _)) (Nat.le_refl _)
        have z6 := hx6.size
        clear hgr6
        go_wp2_with (at_builtin; refine wpList_append_xs rfl _ _ 25 45 rfl Try.underlying25 infoSl w5.heap.size v6 _ _ rfl hown6 hv6 g5 0 cap5 _ ([.slice (some ⟨bi, oi, none⟩) n di] ++ xs.drop k0) (by rw [List.length_append, List.length_drop, HXL.out] <;> first | (simp; done) | (simp; omega)) rfl (fun i x hi => by rw [Nat.zero_add]; exact hx6.cell (HC5.out i x hi)) (fun u hu => (HXN.out).cell u hu) (by omega) (by omega) (by omega) ?_)
        intro v7 w7 hown7 hgr7 hv7
        have HX7 := Lib.hid (hx5.trans (Ext.grown hx6 hgr7 hown6 (Nat.le_refl _)))
        have HG7 := Lib.hid (show GrowX 45 w.heap.size w7 v7 (s.take k0 ++ ([row R i] ++ s.drop k0)) from ⟨_, ownsRow_len (ownsRow_base hown7 (by omega)) (by rw [List.length_append, List.length_append, List.length_take, List.length_drop] <;> simp <;> omega), ((HXS.out.take k0).append HXN.out).ext HX7.out⟩)
        have HV7 := Lib.hid hv7
        have z7 := HX7.out.size
        clear hgr7 hown7 hown6 hv6 hv7 hx5 hx6
        go_wp2_with fail
        go_roundw
        case rel => exact ⟨i + 1, _, by go_num, by omega, HSS2.out, HSP2.out, HG7.out, HV7.out, HX.out.trans (HD4.out.trans HX7.out)⟩
        case measure => simp [intOf]; omega
end Go.Proofs.Ytbfhecckapgpnaa
