/-
  Contract of the reference's l03Group: the group that permutations generate.
-/
import Derived.Test.YthlafeefjonkdaaGreatDoorJx23
import Derived.Test.YthlafeefjonkdaaGreatDoorJx27
namespace Go.Proofs.YthlafeefjonkdaaGreatDoor
set_option linter.unusedVariables false
set_option linter.unusedSimpArgs false
open Go.RowKit
attribute [local go_sem ↓] Go.wp_at_zero Go.wp_at_succ
open Go.Deep

theorem take_idL (n k : Nat) (h : k < n) : (idL n).take (k + 1) = (idL n).take k ++ [(k : Int)] := by
  rw [take_ixL _ _ (by rw [length_idL]; exact h), ix_idL _ _ h]

set_option maxRecDepth 100000 in
set_option maxHeartbeats 800000 in
theorem l03Group_any (n : Nat) (gens : List (List Int)) (v : Value) (w : World) (hv : Rows w v gens) (hg : ∀ k, k < gens.length → IsoOk n [] [] (row gens k)) (h1 : 1 ≤ n) (h12 : n ≤ 12) (h16 : gens.length ≤ 16) :
    Calls Tryz.prog 120 #[.int .i64 n, v, .int .i64 12] w fun e w' => ∃ v', e = .returned v' ∧ Rows w' v' (genA gens n) ∧ Ext w w' := by
  obtain ⟨hlen, b, o, c, rfl, hc⟩ := id hv
  have HG := Lib.hid hg
  have HGOOD := Lib.hid (genA_good hg (idL_perm n))
  have HC := Lib.hid hc
  have HIL := Lib.hid (length_idL n)
  have HD0 := Lib.hid (genA_def gens n)
  clear hg hv hc
  go_enter Tryz.func120, Tryz.ntmps120
  go_wp2_with fail
  have hx0 : Ext w (w.alloc (.cells #[] 2)) := (Ext.refl _).alloc _
  have hi0 := GrowI.lit (e := 2) (base := w.heap.size) (w := w) (Nat.le_refl _)
  go_loopw [7, 8] (fun v x wr => ∃ k : Nat, k ≤ n ∧ x = .int .i64 k ∧ GrowI 2 w.heap.size wr v ((idL n).take k) ∧ v ≠ .slice none 0 0 ∧ Ext w wr) (fun _ x _ => n - (intOf x).toNat)
  case atStart => exact ⟨0, Nat.zero_le _, rfl, hi0, by simp, hx0⟩
  case round =>
    clear hx0 hi0
    obtain ⟨k, hk, rfl, hgi, hvi, hx⟩ := hrel
    have HGI := Lib.hid hgi
    have HX := Lib.hid hx
    by_cases hlt : k < n
    case pos =>
      have hki : (k : Int) < (n : Int) := by omega
      have HL := Lib.hid (show ((idL n).take k).length ≤ 1048576 by rw [List.length_take, HIL.out]; omega)
      have zx := hx.size
      clear hgi hvi hx
      go_wp2_with (at_builtin; refine wpList_append_int rfl _ _ 29 2 rfl Tryz.underlying29 infoInt w.heap.size _ _ rfl (HGI.out.alloc _) _ _ rfl (cell_new _ _ _) HL.out (by simp; omega) ?_)
      intro v' w3 hi3 hgr hv3
      have HX3 := Lib.hid (Ext.grown (HX.out.trans (ext_box _ _ _)) hgr (HGI.out.alloc _) (Nat.le_refl _))
      clear hgr
      go_wp2_with fail
      go_roundw
      case rel => exact ⟨k + 1, by omega, by go_num, by rw [take_idL _ _ hlt]; exact hi3, hv3, HX3.out⟩
      case measure => simp [intOf]; omega
    case neg =>
      have hta : (idL n).take k = idL n := List.take_of_length_le (by rw [HIL.out]; omega)
      rw [hta] at hgi
      obtain ⟨bu, cu, rfl, hou⟩ := hgi.own hvi
      have hkn : ¬ (k : Int) < (n : Int) := by omega
      have hg1 : GrowT 29 w.heap.size (wr.alloc (.cells #[.slice (some ⟨bu, 0, none⟩) (idL n).length cu] 29)) (.slice (some ⟨wr.heap.size, 0, none⟩) 1 1) [idL n] := GrowT.one hx.size (by rw [HIL.out]; omega) hou.2.2.1
      have hg2 : GrowT 29 w.heap.size ((wr.alloc (.cells #[.slice (some ⟨bu, 0, none⟩) (idL n).length cu] 29)).alloc (.cells #[.slice (some ⟨bu, 0, none⟩) (idL n).length cu] 29)) (.slice (some ⟨wr.heap.size + 1, 0, none⟩) 1 1) [idL n] := by
        have := GrowT.one (e := 29) (w := wr.alloc (.cells #[.slice (some ⟨bu, 0, none⟩) (idL n).length cu] 29)) (c := cu) (base := w.heap.size) (by have := hx.size; simp; omega) (by rw [HIL.out]; omega) (hou.2.2.1.ext ((Ext.refl _).alloc _))
        rw [World.size_alloc] at this
        exact this
      have HG1 := Lib.hid (hg1.ext ((Ext.refl _).alloc (.cells #[.slice (some ⟨bu, 0, none⟩) (idL n).length cu] 29)))
      have HG2 := Lib.hid hg2
      have HX2 := Lib.hid ((hx.alloc (.cells #[.slice (some ⟨bu, 0, none⟩) (idL n).length cu] 29)).alloc (.cells #[.slice (some ⟨bu, 0, none⟩) (idL n).length cu] 29))
      rw [HIL.out] at HG1 HG2 HX2 ⊢
      clear hgi hvi hta hou hg1 hg2 hx HGI HX
      go_wp2_with fail
      go_loopw [9, 10, 11] (fun vo vs x wr => ∃ (i : Nat) (out seen : List (List Int)), x = .int .i64 i ∧ i ≤ 13 ∧ genA gens n = genF gens (13 - i) out i ∧ GoodG n out ∧ seen.Pairwise (· < ·) ∧ seen.Perm out ∧ GrowT 29 w.heap.size wr vo out ∧ GrowT 29 w.heap.size wr vs seen ∧ vo.ownBlock ≠ vs.ownBlock ∧ Ext w wr) (fun _ _ x _ => 13 - (intOf x).toNat)
      case atStart => exact ⟨0, [idL n], [idL n], rfl, by omega, HD0.out, goodG_unit (idL_perm n), List.pairwise_singleton _ _, List.Perm.refl _, HG1.out, HG2.out, by simp [Value.ownBlock], HX2.out⟩
      case round =>
        clear HG1 HG2 HX2 HD0
        obtain ⟨i, out, seen, rfl, hi13, hd, hgood, hss, hsp, hgo, hgs, hne, hx⟩ := hrel
        have HD := Lib.hid hd
        have HGD := Lib.hid hgood
        have HSS := Lib.hid hss
        have HSP := Lib.hid hsp
        have HGO := Lib.hid hgo
        have HGS := Lib.hid hgs
        have HNE := Lib.hid hne
        have HX := Lib.hid hx
        obtain ⟨go, co, ob, on, od, rfl, ohc, -⟩ := hgo.head hgood.one
        have hof := hgood.few
        clear hd hgood hss hsp hgo hgs hne hx
        by_cases hil : i < out.length ∧ out.length ≤ 12
        case neg =>
          have HE := Lib.hid (show genA gens n = out by rw [HD.out, genF_stop hil])
          have HR := Lib.hid (show Rows wr (.slice (some ⟨go, 0, none⟩) out.length co) out from HGO.out.rows (by omega) (by simp))
          by_cases h1l : i < out.length
          · have h2l : ¬ out.length ≤ 12 := fun h => hil ⟨h1l, h⟩
            have h1i : (i : Int) < (out.length : Int) := by omega
            have h2i : ¬ (out.length : Int) ≤ 12 := by omega
            go_wp2_with fail
            go_ret
            exact ⟨_, rfl, by rw [HE.out]; exact HR.out, HX.out⟩
          · have h1i : ¬ (i : Int) < (out.length : Int) := by omega
            go_wp2_with fail
            go_ret
            exact ⟨_, rfl, by rw [HE.out]; exact HR.out, HX.out⟩
        case pos =>
          obtain ⟨hil1, hil2⟩ := hil
          have h1i : (i : Int) < (out.length : Int) := by omega
          have h2i : (out.length : Int) ≤ 12 := by omega
          have HD1 := Lib.hid (show genA gens n = genF gens (12 - i) (rowFrom gens (row out i) 0 out) (i + 1) by rw [HD.out, show 13 - i = (12 - i) + 1 by omega, genF_go hil1 hil2])
          obtain ⟨x, hxx⟩ : ∃ x, x = row out i := ⟨_, rfl⟩
          have HXX := Lib.hid hxx
          rw [← hxx] at HD1
          clear hxx HD
          go_wp2_with fail
          go_loopw [9, 10, 12] (fun vo vs y wr => ∃ (k : Nat) (out seen : List (List Int)), y = .int .i64 k ∧ k ≤ gens.length ∧ i < out.length ∧ x = row out i ∧ genA gens n = genF gens (12 - i) (rowFrom gens x k out) (i + 1) ∧ GoodG n out ∧ seen.Pairwise (· < ·) ∧ seen.Perm out ∧ GrowT 29 w.heap.size wr vo out ∧ GrowT 29 w.heap.size wr vs seen ∧ vo.ownBlock ≠ vs.ownBlock ∧ Ext w wr) (fun _ _ y _ => gens.length - (intOf y).toNat)
          case atStart => exact ⟨0, out, seen, rfl, by omega, hil1, HXX.out, HD1.out, HGD.out, HSS.out, HSP.out, HGO.out, HGS.out, HNE.out, HX.out⟩
          case round =>
            clear HD1 HGD HSS HSP HGO HGS HNE HX HXX ohc hof
            clear hil2 h1i h2i hil1
            obtain ⟨k, out, seen, rfl, hk, hil1, hxx, hd, hgood, hss, hsp, hgo, hgs, hne, hx⟩ := hrel
            have HD := Lib.hid hd
            have HXX := Lib.hid hxx
            have HGD := Lib.hid hgood
            have HSS := Lib.hid hss
            have HSP := Lib.hid hsp
            have HGO := Lib.hid hgo
            have HGS := Lib.hid hgs
            have HNE := Lib.hid hne
            have HX := Lib.hid hx
            have hof := hgood.few
            have hon := hgood.one
            have hsl := And.intro (Nat.le_of_eq hsp.length_eq) (Nat.le_of_eq hsp.length_eq.symm)
            obtain ⟨go, co, ob, on, od, rfl, ohc, -⟩ := hgo.head hgood.one
            obtain ⟨g, cap, sb, sn, sd, rfl, shc, hcap⟩ := hgs.head (by omega)
            clear hd hgood hss hsp hgs hne hx hxx
            by_cases hkl : k < gens.length ∧ out.length ≤ 12
            case neg =>
              have HE := Lib.hid (show rowFrom gens x k out = out by
                by_cases h : k < gens.length
                · exact rowFrom_full (by have : ¬ out.length ≤ 12 := fun h2 => hkl ⟨h, h2⟩
                                         omega) gens.length k (by omega)
                · exact rowFrom_end (by omega))
              clear hgo
              by_cases h1l : k < gens.length
              · have h2l : ¬ out.length ≤ 12 := fun h => hkl ⟨h1l, h⟩
                have h1i : (k : Int) < (gens.length : Int) := by omega
                have h2i : ¬ (out.length : Int) ≤ 12 := by omega
                go_wp2_with fail
                go_roundw
                case rel => exact ⟨i + 1, out, seen, by go_num, by omega, by rw [HD.out, HE.out, show 12 - i = 13 - (i + 1) by omega], HGD.out, HSS.out, HSP.out, HGO.out, HGS.out, HNE.out, HX.out⟩
                case measure => simp [intOf]; omega
              · have h1i : ¬ (k : Int) < (gens.length : Int) := by omega
                go_wp2_with fail
                go_roundw
                case rel => exact ⟨i + 1, out, seen, by go_num, by omega, by rw [HD.out, HE.out, show 12 - i = 13 - (i + 1) by omega], HGD.out, HSS.out, HSP.out, HGO.out, HGS.out, HNE.out, HX.out⟩
                case measure => simp [intOf]; omega
            case pos =>
              obtain ⟨hkl1, hkl2⟩ := hkl
              have h1i : (k : Int) < (gens.length : Int) := by omega
              have h2i : (out.length : Int) ≤ 12 := by omega
              have hii : (i : Int) < (out.length : Int) := by omega
              obtain ⟨d1, s1, m1, q1, q2, -⟩ := (HC.out.ext HX.out).get hkl1
              have hgk := HG.out k hkl1
              rw [hgk.1] at q1
              have Q2 := Lib.hid (show Ints wr (.slice (some ⟨d1, s1, none⟩) n m1) (row gens k) from ⟨by rw [hgk.1]; omega, d1, s1, m1, by rw [hgk.1], q2⟩)
              obtain ⟨go', co', bi, di, hgo', r1, r2, r3⟩ := hgo.get hil1
              simp only [Value.slice.injEq, Option.some.injEq, Addr.mk.injEq, and_true, true_and] at hgo'
              obtain ⟨rfl, rfl⟩ := hgo'
              have hxi : IsoOk n [] [] x := by rw [HXX.out]; exact HGD.out.row hil1
              rw [← HXX.out] at r1 r2 r3
              rw [hxi.1] at r1
              have R2 := Lib.hid (show Ints wr (.slice (some ⟨bi, 0, none⟩) n di) x from ⟨r3, bi, 0, di, by rw [hxi.1], r2⟩)
              have HXI := Lib.hid hxi
              have HGL := Lib.hid hgk.1
              obtain ⟨pp, hpp⟩ : ∃ pp, pp = thenL x (row gens k) := ⟨_, rfl⟩
              have HPI := Lib.hid (show IsoOk n [] [] pp by rw [hpp]; exact thenL_perm hxi hgk)
              have HPL := Lib.hid HPI.out.1
              have HAT := Lib.hid (show rowFrom gens x k out = rowFrom gens x (k + 1) (addL out pp) by rw [hpp]; exact rowFrom_at hkl1)
              have HTH := Lib.hid (show ∀ W, Ext wr W → Calls Tryz.prog 123 #[.slice (some ⟨bi, 0, none⟩) n di, .slice (some ⟨d1, s1, none⟩) n m1] W (NewI pp W) from fun W h => by
                rw [hpp]; exact l01Then_any n x (row gens k) _ _ W (R2.out.ext h) (Q2.out.ext h) HXI.out HGL.out h12)
              clear hgk q2 r2 r3 hxi hpp hgo
              go_wp2_with fail
              go_region_held3 (fun w' => w'.cell? ⟨b, o + k, none⟩ = some (.slice (some ⟨d1, s1, none⟩) n m1) ∧ w'.cell? ⟨go, i, none⟩ = some (.slice (some ⟨bi, 0, none⟩) n di))
                ((refine ⟨?_, ?_⟩ <;> (repeat first | (with_reducible assumption) | (with_reducible refine Ext.cell hxt ?_) |  (with_reducible exact kc_new) | ((with_reducible refine kc_newE ?_); (simp; done)) | ((with_reducible refine kc_newEa ?_); (simp; done)) | ((with_reducible refine kc_newEb ?_); (simp; done)) | (with_reducible apply kc_alloc) | (with_reducible apply kc_drewN) | (with_reducible apply kc_drew) | ((with_reducible refine kc_set ?_ ?_); (first | (simp only []; omega) | (simp; omega) | (focus (simp; done)))) | ((with_reducible refine kc_set2 ?_ ?_); (focus (simp; done))) | (with_reducible refine kc_same (v := .slice none 0 0) ?_))))
                ((go_at_call 123; refine (HTH.out _ (by (repeat first | (with_reducible exact Ext.refl _) | (with_reducible assumption) | (with_reducible apply Ext.drew) | (with_reducible apply kx_drewN) | (with_reducible apply kx_alloc) | ((with_reducible refine kx_set ?_ ?_); (first | (simp only []; omega) | (simp; omega) | (focus (simp; done)))) ))).mono ?_; rintro e w3 ⟨b3, c3, rfl, ho3, hxt⟩))
              all_goals
                have hx3 : Ext wr w3 := Ext.trans ((Ext.refl wr).drew) hxt
                have HX3 := Lib.hid hx3
                have HP3 := Lib.hid (show Ints w3 (.slice (some ⟨b3, 0, none⟩) pp.length c3) pp from ⟨by rw [HPL.out]; omega, b3, 0, c3, rfl, ho3.2.2.1⟩)
                have HB3 := Lib.hid ho3.2.2.1
                have hb3 : wr.heap.size ≤ b3 := ho3.1
                rw [HPL.out] at HP3 ⊢
                clear ho3 hxt hx3 q1 r1
                have HGO3 := Lib.hid (HGO.out.ext HX3.out)
                have HGS3 := Lib.hid (HGS.out.ext HX3.out)
                have ohc3 := HX3.out.cell ohc
                have z3 := HX3.out.size
                obtain ⟨xs, hown, hxs⟩ := HGS3.out.xt
                have HXL := Lib.hid (show xs.length = seen.length from hxs.1)
                have HXS := Lib.hid hxs
                obtain ⟨g', cap', hg', -, hgb, hgs, hcl⟩ := ownsRow_parts hown (by simp)
                simp only [Value.slice.injEq, Option.some.injEq, Addr.mk.injEq, and_true, true_and] at hg'
                obtain ⟨rfl, rfl⟩ := hg'
                have HCE := Lib.hid hcl
                have HXN := Lib.hid (fun k0 : Nat => (XT.one (w := w3) (x := .slice (some ⟨b3, 0, none⟩) n c3) (l := pp) ⟨by rw [HPL.out]; omega, b3, c3, by rw [HPL.out], HB3.out⟩).append (HXS.out.drop k0))
                have hgog : go ≠ g := fun e => HNE.out (by rw [e]; rfl)
                have HGLT := Lib.hid (HGO.out.lt go rfl)
                clear hown hxs hcl shc
                go_wp2_with fail
                refine (l03Search_any seen pp _ _ _ (HGS3.out.rows (by omega) (by simp)) HP3.out HSS.out).mono ?_
                rintro e w4 ⟨⟨k0, rfl, hk0, hlo, hhi⟩, hd4⟩
                have HKN := Lib.hid (put_known HSS.out hlo hhi)
                have HLO := Lib.hid hlo
                have HHI := Lib.hid hhi
                have HD4 := Lib.hid hd4.ext
                clear hlo hhi hd4
                by_cases hmem : pp ∈ seen
                case pos =>
                  have hk1 := (HKN.out.2 hmem)
                  have hk0l : (k0 : Int) < (seen.length : Int) := by omega
                  have hse : eqIB (row seen k0) pp = true := eqIB_yes hk1.2
                  have HAO := Lib.hid (show addL out pp = out from addL_old (HSP.out.mem_iff.1 hmem))
                  obtain ⟨e1, e2, e3, e4, he, f1, f2, f3⟩ := (HGS3.out.ext HD4.out).get hk1.1
                  simp only [Value.slice.injEq, Option.some.injEq, Addr.mk.injEq, and_true, true_and] at he
                  obtain ⟨rfl, rfl⟩ := he
                  have F2 := Lib.hid (f2.ints f3 e4)
                  clear f2 hk1
                  go_wp2_with fail
                  refine (l01Same_any (row seen k0) pp _ _ _ F2.out.toR (HP3.out.ext HD4.out).toR f3).mono ?_
                  rintro e w5 ⟨rfl, hd5⟩
                  rw [hse]
                  have HX5 := Lib.hid ((HX3.out.trans HD4.out).trans hd5.ext)
                  clear hd5
                  go_wp2_with fail
                  go_roundw
                  case rel => exact ⟨k + 1, out, seen, by go_num, by omega, hil1, HXX.out, by rw [HD.out, HAT.out, HAO.out], HGD.out, HSS.out, HSP.out, HGO.out.ext HX5.out, HGS.out.ext HX5.out, HNE.out, HX.out.trans HX5.out⟩
                  case measure => simp [intOf]; omega
                case neg =>
                  have HPO := Lib.hid (show pp ∉ out from fun h => hmem (HSP.out.mem_iff.2 h))
                  have HAO := Lib.hid (show addL out pp = out ++ [pp] from addL_new HPO.out hkl2)
                  have HAG := Lib.hid (show GoodG n (out ++ [pp]) by rw [← HAO.out]; exact HGD.out.add HPI.out)
                  have HSS2 := Lib.hid (put_sorted HSS.out hk0 HLO.out HHI.out hmem)
                  have HSP2 := Lib.hid (show (seen.take k0 ++ ([pp] ++ seen.drop k0)).Perm (out ++ [pp]) from (put_perm.trans (List.Perm.cons pp HSP.out)).trans (List.perm_append_comm (l₁ := [pp])))
                  have HXX2 := Lib.hid (show x = row (out ++ [pp]) i by rw [row_app _ _ hil1]; exact HXX.out)
                  by_cases hk1 : k0 < seen.length
                  case pos =>
                    have hk0l : (k0 : Int) < (seen.length : Int) := by omega
                    have hse : eqIB (row seen k0) pp = false := eqIB_no (fun e => hmem (HKN.out.1 ⟨hk1, e⟩))
                    obtain ⟨e1, e2, e3, e4, he, f1, f2, f3⟩ := (HGS3.out.ext HD4.out).get hk1
                    simp only [Value.slice.injEq, Option.some.injEq, Addr.mk.injEq, and_true, true_and] at he
                    obtain ⟨rfl, rfl⟩ := he
                    have F2 := Lib.hid (f2.ints f3 e4)
                    clear f2
                    go_wp2_with fail
                    refine (l01Same_any (row seen k0) pp _ _ _ F2.out.toR (HP3.out.ext HD4.out).toR f3).mono ?_
                    rintro e wz ⟨rfl, hd5⟩
                    rw [hse]
                    have hx03 := HD4.out.trans hd5.ext
                    clear hd5 f1 f3
                    have HX03 := Lib.hid hx03
                    have HCE := Lib.hid (fun i x hi => HX03.out.cell (HCE.out i x hi))
                    have HXS := Lib.hid (HXS.out.ext HX03.out)
                    have HXN := Lib.hid ((HXN.out k0).ext HX03.out)
                    have HB0 := Lib.hid (HB3.out.ext HX03.out)
                    have HXW := Lib.hid (HX3.out.trans HX03.out)
                    have zz0 := HXW.out.size
                    have zwx := HX.out.size
                    clear hx03
                    have hca : ¬ cap = k0 := by omega
                    go_wp2_with (at_builtin; refine wpList_append_xs rfl _ _ 24 29 rfl Tryz.underlying24 infoSl wz.heap.size (.slice (some ⟨wz.heap.size, 0, none⟩) 1 1) 1 [.slice (some ⟨b3, 0, none⟩) n c3] rfl (ownsRow_one (Nat.le_refl _)) (by simp) g k0 _ (seen.length - k0) (xs.drop k0) (by rw [List.length_drop, HXL.out] <;> omega) rfl (fun i x hi => by rw [List.getElem?_drop] at hi; exact ((Ext.refl _).alloc _).cell (HCE.out _ _ hi)) (fun u hu => HXS.out.cell u (List.mem_of_mem_drop hu)) (by omega) (by omega) (by simp) ?_)
                    intro v5 w5 hown5 hgr5 hv5
                    have hx5 : Ext wz w5 := Ext.grown ((Ext.refl _).alloc _) hgr5 (ownsRow_one (Nat.le_refl _)) (Nat.le_refl _)
                    obtain ⟨g5, cap5, rfl, hc5, hg5, hs5, hcl5⟩ := ownsRow_parts hown5 hv5
                    have HC5 := Lib.hid hcl5
                    have z5 := hx5.size
                    clear hcl5 hgr5 hown5
                    go_wp2_with (at_builtin; refine wpList_append_xs rfl _ _ 24 29 rfl Tryz.underlying24 infoSl w5.heap.size (.slice (some ⟨w5.heap.size, 0, none⟩) 0 0) 0 [] rfl (ownsRow_lit (Nat.le_refl _)) (by simp) g 0 cap k0 (xs.take k0) (by rw [List.length_take, HXL.out]; omega) rfl (fun i x hi => by rw [Nat.zero_add]; have hi2 : xs[i]? = some x := (by rw [List.getElem?_take] at hi; split at hi <;> first | exact hi | cases hi); exact ((Ext.refl w5).alloc _).cell (hx5.cell (HCE.out i x hi2))) (fun u hu => HXS.out.cell u (List.mem_of_mem_take hu)) (by omega) (by omega) (by simp) ?_)
                    intro v6 w6 hown6 hgr6 hv6
                    have hx6 : Ext w5 w6 := Ext.grown ((Ext.refl w5).alloc _) hgr6 (ownsRow_lit (Nat.le_refl _)) (Nat.le_refl _)
                    have z6 := hx6.size
                    clear hgr6
                    go_wp2_with (at_builtin; refine wpList_append_xs rfl _ _ 24 29 rfl Tryz.underlying24 infoSl w5.heap.size v6 _ _ rfl hown6 hv6 g5 0 cap5 _ ([.slice (some ⟨b3, 0, none⟩) n c3] ++ xs.drop k0) (by rw [List.length_append, List.length_drop, HXL.out] <;> first | (simp; done) | (simp; omega)) rfl (fun i x hi => by rw [Nat.zero_add]; exact hx6.cell (HC5.out i x hi)) (fun u hu => (HXN.out).cell u hu) (by omega) (by omega) (by omega) ?_)
                    intro v7 w7 hown7 hgr7 hv7
                    have HX7 := Lib.hid (hx5.trans (Ext.grown hx6 hgr7 hown6 (Nat.le_refl _)))
                    have HO7 := Lib.hid (hown7.lt)
                    have HG7 := Lib.hid (show GrowT 29 w.heap.size w7 v7 (seen.take k0 ++ ([pp] ++ seen.drop k0)) from GrowT.of_xt (ownsRow_len (ownsRow_base hown7 (by omega)) (by rw [List.length_append, List.length_append, List.length_take, List.length_drop] <;> simp <;> omega)) (((HXS.out.take k0).append HXN.out).ext (HX7.out)))
                    have HV7 := Lib.hid hv7
                    have z7 := HX7.out.size
                    clear hgr7 hown7 hown6 hv6 hv7 hx5 hx6
                    have HXT := Lib.hid (HXW.out.trans HX7.out)
                    have zt := HXT.out.size
                    have HPOS := Lib.hid (show ∀ i, i < (seen.take k0 ++ ([pp] ++ seen.drop k0)).length → 0 < (row (seen.take k0 ++ ([pp] ++ seen.drop k0)) i).length from fun i hi => by
                      have := HAG.out.perm _ (HSP2.out.mem_iff.1 (rowG_mem hi))
                      rw [this.1]; omega)
                    have ohc7 := HXT.out.cell ohc
                    go_wp2_with (at_builtin; refine wpList_append_row_at rfl _ _ 24 29 rfl Tryz.underlying24 infoSl w.heap.size _ _ rfl (HGO.out.ext (HXT.out.trans (ext_box _ _ _))) _ b3 c3 pp rfl (by rw [HPL.out]; exact cell_new _ _ _) (HB0.out.ext (HX7.out.trans (ext_box _ _ _))) (by rw [HPL.out]; omega) (fun e => by have e2 : b3 = go := Option.some.inj e; have := HGLT.out; omega) (by omega) (by have := HGLT.out; simp; omega) ?_)
                    intro v8 w8 hg8 hgr8 hv8 hat8
                    have hgr8' : (w7.alloc (.cells #[.slice (some ⟨b3, 0, none⟩) n c3] 29)).grownBy w8 (some go) := hgr8
                    have HS8 := Lib.hid ((HG7.out.ext (ext_box w7 (.slice (some ⟨b3, 0, none⟩) n c3) 29)).grown hgr8' ((ext_box _ _ _).cell ohc7) HPOS.out (fun e => by have := HO7.out go e; have := HGLT.out; omega))
                    have HN8 := Lib.hid (show v8.ownBlock ≠ v7.ownBlock from fun e => by
                      rcases hat8 with e2 | e2
                      · rw [e2] at e
                        have := HO7.out go e.symm
                        have := HGLT.out
                        omega
                      · rw [e2] at e
                        have := HO7.out _ e.symm
                        first | omega | (simp at this; omega))
                    have HX8 := Lib.hid (ext_grownBy (HX.out.trans (HXT.out.trans (ext_box _ _ _))) hgr8' (fun k e => by injection e with e; have := HGLT.out; omega))
                    have HG8 := Lib.hid hg8
                    clear hgr8 hgr8' hat8 hv8 hg8
                    go_wp2_with fail
                    go_roundw
                    case rel => exact ⟨k + 1, out ++ [pp], _, by go_num, by omega, by simp; omega, HXX2.out, by rw [HD.out, HAT.out, HAO.out], HAG.out, HSS2.out, HSP2.out, HG8.out, HS8.out, HN8.out, HX8.out⟩
                    case measure => simp [intOf]; omega
                  case neg =>
                    have hk0l : ¬ (k0 : Int) < (seen.length : Int) := by omega
                    have hx03 := HD4.out
                    have HX03 := Lib.hid hx03
                    have HCE := Lib.hid (fun i x hi => HX03.out.cell (HCE.out i x hi))
                    have HXS := Lib.hid (HXS.out.ext HX03.out)
                    have HXN := Lib.hid ((HXN.out k0).ext HX03.out)
                    have HB0 := Lib.hid (HB3.out.ext HX03.out)
                    have HXW := Lib.hid (HX3.out.trans HX03.out)
                    have zz0 := HXW.out.size
                    have zwx := HX.out.size
                    clear hx03
                    by_cases hca : cap = k0
                    case pos =>
                      subst hca
                      have hdr : seen.drop cap = [] := List.drop_of_length_le (by omega)
                      have hlit : ((w4.alloc (.cells #[.slice (some ⟨b3, 0, none⟩) n c3] 29)).alloc (.cells #[] 29)).ownsRow w4.heap.size 29 1 (.slice (some ⟨w4.heap.size + 1, 0, none⟩) 0 0) 0 [] := by
                        have := ownsRow_lit (e := 29) (w := (w4.alloc (.cells #[.slice (some ⟨b3, 0, none⟩) n c3] 29))) (base := w4.heap.size) (by simp)
                        rw [World.size_alloc] at this
                        exact this
                      have hx5 : Ext w4 (w4.alloc (.cells #[.slice (some ⟨b3, 0, none⟩) n c3] 29)) := (Ext.refl _).alloc _
                      have hc5 := cell_new w4 (.slice (some ⟨b3, 0, none⟩) n c3) 29
                      go_wp2_with (at_builtin; refine wpList_append_xs rfl _ _ 24 29 rfl Tryz.underlying24 infoSl w4.heap.size (.slice (some ⟨w4.heap.size + 1, 0, none⟩) 0 0) 0 [] rfl hlit (by simp) g 0 cap cap (xs.take cap) (by rw [List.length_take, HXL.out]; omega) rfl (fun i x hi => by rw [Nat.zero_add]; have hi2 : xs[i]? = some x := (by rw [List.getElem?_take] at hi; split at hi <;> first | exact hi | cases hi); exact ((Ext.refl _).alloc _).cell (hx5.cell (HCE.out i x hi2))) (fun u hu => HXS.out.cell u (List.mem_of_mem_take hu)) (by omega) (by omega) (by simp; omega) ?_)
                      intro v6 w6 hown6 hgr6 hv6
                      have hx6 : Ext w4 w6 := Ext.grown (hx5.alloc _) hgr6 hlit (Nat.le_refl _)
                      have hc6 : w6.cell? ⟨w4.heap.size, 0, none⟩ = some (.slice (some ⟨b3, 0, none⟩) n c3) := by
                        rw [hgr6.cell_far _ (by simp; omega) (by simp [Value.ownBlock])]
                        exact kc_alloc hc5
                      have z6 := hx6.size
                      clear hgr6
                      go_wp2_with (at_builtin; refine wpList_append_xs rfl _ _ 24 29 rfl Tryz.underlying24 infoSl w4.heap.size v6 _ _ rfl hown6 hv6 w4.heap.size 0 1 1 [.slice (some ⟨b3, 0, none⟩) n c3] rfl rfl (fun i x hi => by cases i with | zero => (simp at hi; subst hi; exact hc6) | succ i => simp at hi) (fun u hu => by simp at hu; subst hu; rfl) (by omega) (by omega) (by omega) ?_)
                      intro v7 w7 hown7 hgr7 hv7
                      have HX7 := Lib.hid (show Ext w4 w7 from Ext.grown hx6 hgr7 hown6 (Nat.le_refl _))
                      have HO7 := Lib.hid (hown7.lt)
                      have HG7 := Lib.hid (show GrowT 29 w.heap.size w7 v7 (seen.take cap ++ ([pp] ++ seen.drop cap)) from by
                        rw [hdr]
                        exact GrowT.of_xt (ownsRow_len (ownsRow_base hown7 (by omega)) (by rw [List.length_append, List.length_append, List.length_take] <;> simp <;> omega)) (((HXS.out.take cap).append (XT.one ⟨by rw [HPL.out]; omega, b3, c3, by rw [HPL.out], HB0.out⟩)).ext (HX7.out)))
                      have HV7 := Lib.hid hv7
                      have z7 := HX7.out.size
                      clear hgr7 hown7 hown6 hv6 hv7 hx5 hx6 hlit hc5 hc6 hdr
                      have HXT := Lib.hid (HXW.out.trans HX7.out)
                      have zt := HXT.out.size
                      have HPOS := Lib.hid (show ∀ i, i < (seen.take cap ++ ([pp] ++ seen.drop cap)).length → 0 < (row (seen.take cap ++ ([pp] ++ seen.drop cap)) i).length from fun i hi => by
                        have := HAG.out.perm _ (HSP2.out.mem_iff.1 (rowG_mem hi))
                        rw [this.1]; omega)
                      have ohc7 := HXT.out.cell ohc
                      go_wp2_with (at_builtin; refine wpList_append_row_at rfl _ _ 24 29 rfl Tryz.underlying24 infoSl w.heap.size _ _ rfl (HGO.out.ext (HXT.out.trans (ext_box _ _ _))) _ b3 c3 pp rfl (by rw [HPL.out]; exact cell_new _ _ _) (HB0.out.ext (HX7.out.trans (ext_box _ _ _))) (by rw [HPL.out]; omega) (fun e => by have e2 : b3 = go := Option.some.inj e; have := HGLT.out; omega) (by omega) (by have := HGLT.out; simp; omega) ?_)
                      intro v8 w8 hg8 hgr8 hv8 hat8
                      have hgr8' : (w7.alloc (.cells #[.slice (some ⟨b3, 0, none⟩) n c3] 29)).grownBy w8 (some go) := hgr8
                      have HS8 := Lib.hid ((HG7.out.ext (ext_box w7 (.slice (some ⟨b3, 0, none⟩) n c3) 29)).grown hgr8' ((ext_box _ _ _).cell ohc7) HPOS.out (fun e => by have := HO7.out go e; have := HGLT.out; omega))
                      have HN8 := Lib.hid (show v8.ownBlock ≠ v7.ownBlock from fun e => by
                        rcases hat8 with e2 | e2
                        · rw [e2] at e
                          have := HO7.out go e.symm
                          have := HGLT.out
                          omega
                        · rw [e2] at e
                          have := HO7.out _ e.symm
                          first | omega | (simp at this; omega))
                      have HX8 := Lib.hid (ext_grownBy (HX.out.trans (HXT.out.trans (ext_box _ _ _))) hgr8' (fun k e => by injection e with e; have := HGLT.out; omega))
                      have HG8 := Lib.hid hg8
                      clear hgr8 hgr8' hat8 hv8 hg8
                      go_wp2_with fail
                      go_roundw
                      case rel => exact ⟨k + 1, out ++ [pp], _, by go_num, by omega, by simp; omega, HXX2.out, by rw [HD.out, HAT.out, HAO.out], HAG.out, HSS2.out, HSP2.out, HG8.out, HS8.out, HN8.out, HX8.out⟩
                      case measure => simp [intOf]; omega
                    case neg =>
                      go_wp2_with (at_builtin; refine wpList_append_xs rfl _ _ 24 29 rfl Tryz.underlying24 infoSl w4.heap.size (.slice (some ⟨w4.heap.size, 0, none⟩) 1 1) 1 [.slice (some ⟨b3, 0, none⟩) n c3] rfl (ownsRow_one (Nat.le_refl _)) (by simp) g k0 _ (seen.length - k0) (xs.drop k0) (by rw [List.length_drop, HXL.out] <;> omega) rfl (fun i x hi => by rw [List.getElem?_drop] at hi; exact ((Ext.refl _).alloc _).cell (HCE.out _ _ hi)) (fun u hu => HXS.out.cell u (List.mem_of_mem_drop hu)) (by omega) (by omega) (by simp) ?_)
                      intro v5 w5 hown5 hgr5 hv5
                      have hx5 : Ext w4 w5 := Ext.grown ((Ext.refl _).alloc _) hgr5 (ownsRow_one (Nat.le_refl _)) (Nat.le_refl _)
                      obtain ⟨g5, cap5, rfl, hc5, hg5, hs5, hcl5⟩ := ownsRow_parts hown5 hv5
                      have HC5 := Lib.hid hcl5
                      have z5 := hx5.size
                      clear hcl5 hgr5 hown5
                      go_wp2_with (at_builtin; refine wpList_append_xs rfl _ _ 24 29 rfl Tryz.underlying24 infoSl w5.heap.size (.slice (some ⟨w5.heap.size, 0, none⟩) 0 0) 0 [] rfl (ownsRow_lit (Nat.le_refl _)) (by simp) g 0 cap k0 (xs.take k0) (by rw [List.length_take, HXL.out]; omega) rfl (fun i x hi => by rw [Nat.zero_add]; have hi2 : xs[i]? = some x := (by rw [List.getElem?_take] at hi; split at hi <;> first | exact hi | cases hi); exact ((Ext.refl w5).alloc _).cell (hx5.cell (HCE.out i x hi2))) (fun u hu => HXS.out.cell u (List.mem_of_mem_take hu)) (by omega) (by omega) (by simp) ?_)
                      intro v6 w6 hown6 hgr6 hv6
                      have hx6 : Ext w5 w6 := Ext.grown ((Ext.refl w5).alloc _) hgr6 (ownsRow_lit (Nat.le_refl _)) (Nat.le_refl _)
                      have z6 := hx6.size
                      clear hgr6
                      go_wp2_with (at_builtin; refine wpList_append_xs rfl _ _ 24 29 rfl Tryz.underlying24 infoSl w5.heap.size v6 _ _ rfl hown6 hv6 g5 0 cap5 _ ([.slice (some ⟨b3, 0, none⟩) n c3] ++ xs.drop k0) (by rw [List.length_append, List.length_drop, HXL.out] <;> first | (simp; done) | (simp; omega)) rfl (fun i x hi => by rw [Nat.zero_add]; exact hx6.cell (HC5.out i x hi)) (fun u hu => (HXN.out).cell u hu) (by omega) (by omega) (by omega) ?_)
                      intro v7 w7 hown7 hgr7 hv7
                      have HX7 := Lib.hid (hx5.trans (Ext.grown hx6 hgr7 hown6 (Nat.le_refl _)))
                      have HO7 := Lib.hid (hown7.lt)
                      have HG7 := Lib.hid (show GrowT 29 w.heap.size w7 v7 (seen.take k0 ++ ([pp] ++ seen.drop k0)) from GrowT.of_xt (ownsRow_len (ownsRow_base hown7 (by omega)) (by rw [List.length_append, List.length_append, List.length_take, List.length_drop] <;> simp <;> omega)) (((HXS.out.take k0).append HXN.out).ext (HX7.out)))
                      have HV7 := Lib.hid hv7
                      have z7 := HX7.out.size
                      clear hgr7 hown7 hown6 hv6 hv7 hx5 hx6
                      have HXT := Lib.hid (HXW.out.trans HX7.out)
                      have zt := HXT.out.size
                      have HPOS := Lib.hid (show ∀ i, i < (seen.take k0 ++ ([pp] ++ seen.drop k0)).length → 0 < (row (seen.take k0 ++ ([pp] ++ seen.drop k0)) i).length from fun i hi => by
                        have := HAG.out.perm _ (HSP2.out.mem_iff.1 (rowG_mem hi))
                        rw [this.1]; omega)
                      have ohc7 := HXT.out.cell ohc
                      go_wp2_with (at_builtin; refine wpList_append_row_at rfl _ _ 24 29 rfl Tryz.underlying24 infoSl w.heap.size _ _ rfl (HGO.out.ext (HXT.out.trans (ext_box _ _ _))) _ b3 c3 pp rfl (by rw [HPL.out]; exact cell_new _ _ _) (HB0.out.ext (HX7.out.trans (ext_box _ _ _))) (by rw [HPL.out]; omega) (fun e => by have e2 : b3 = go := Option.some.inj e; have := HGLT.out; omega) (by omega) (by have := HGLT.out; simp; omega) ?_)
                      intro v8 w8 hg8 hgr8 hv8 hat8
                      have hgr8' : (w7.alloc (.cells #[.slice (some ⟨b3, 0, none⟩) n c3] 29)).grownBy w8 (some go) := hgr8
                      have HS8 := Lib.hid ((HG7.out.ext (ext_box w7 (.slice (some ⟨b3, 0, none⟩) n c3) 29)).grown hgr8' ((ext_box _ _ _).cell ohc7) HPOS.out (fun e => by have := HO7.out go e; have := HGLT.out; omega))
                      have HN8 := Lib.hid (show v8.ownBlock ≠ v7.ownBlock from fun e => by
                        rcases hat8 with e2 | e2
                        · rw [e2] at e
                          have := HO7.out go e.symm
                          have := HGLT.out
                          omega
                        · rw [e2] at e
                          have := HO7.out _ e.symm
                          first | omega | (simp at this; omega))
                      have HX8 := Lib.hid (ext_grownBy (HX.out.trans (HXT.out.trans (ext_box _ _ _))) hgr8' (fun k e => by injection e with e; have := HGLT.out; omega))
                      have HG8 := Lib.hid hg8
                      clear hgr8 hgr8' hat8 hv8 hg8
                      go_wp2_with fail
                      go_roundw
                      case rel => exact ⟨k + 1, out ++ [pp], _, by go_num, by omega, by simp; omega, HXX2.out, by rw [HD.out, HAT.out, HAO.out], HAG.out, HSS2.out, HSP2.out, HG8.out, HS8.out, HN8.out, HX8.out⟩
                      case measure => simp [intOf]; omega
end Go.Proofs.YthlafeefjonkdaaGreatDoor


namespace Go.Proofs.YthlafeefjonkdaaGreatDoor
set_option linter.unusedVariables false
set_option linter.unusedSimpArgs false
open Go.RowKit
attribute [local go_sem ↓] Go.wp_at_zero Go.wp_at_succ
open Go.Deep

theorem nodup_row {R : List (List Int)} (h : R.Nodup) {i : Nat} (hi : i < R.length) : row R i ∉ R.take i := fun hm => by
  obtain ⟨j, hj, e⟩ := List.getElem_of_mem hm
  rw [List.length_take] at hj
  rw [List.getElem_take] at e
  have e2 : row R i = R[i] := by rw [row_eq]; simp [List.getD, hi]
  rw [e2] at e
  exact (List.pairwise_iff_getElem.1 h) j i (by omega) hi (by omega) e
theorem sorted_rows {n : Nat} {R : List (List Int)} (h : GoodG n R) : ∀ i, i < (sortS R).length → IsoOk n [] [] (row (sortS R) i) := fun i hi => h.perm _ ((sortS_perm R).mem_iff.1 (rowG_mem hi))
end Go.Proofs.YthlafeefjonkdaaGreatDoor


namespace Go.Proofs.YthlafeefjonkdaaGreatDoor
set_option linter.unusedVariables false
set_option linter.unusedSimpArgs false
open Go.RowKit
attribute [local go_sem ↓] Go.wp_at_zero Go.wp_at_succ
open Go.Deep

set_option maxRecDepth 100000 in
set_option maxHeartbeats 2000000 in
theorem GroupOfPermutations_own (n : Nat) (gens : List (List Int)) (v : Value) (w : World) (hv : Rows w v gens) (hb : sysB (n : Int) gens = true) (hbig0 : (genA gens n).length ≤ 12) :
    Calls Tryz.prog 94 #[.int .i64 n, v] w fun e w' => ∃ b c, e = .returned (.tuple #[.agg #[.slice (some ⟨b, 0, none⟩) (gopV (n : Int) gens).length c], .int .i64 0]) ∧ OwnT w.heap.size w'.heap.size w' b 0 (gopV (n : Int) gens) ∧ Ext w w' := by
  obtain ⟨hlen, b, o, c, rfl, -⟩ := id hv
  have hx0 : Ext w (w.alloc (.cells #[.slice none 0 0] 42)) := (Ext.refl _).alloc _
  have r0 : (w.alloc (.cells #[.slice none 0 0] 42)).cell? ⟨w.heap.size, 0, none⟩ = some (.slice none 0 0) := by simp
  have q0 : (w.alloc (.cells #[.slice none 0 0] 42)).frozen? ⟨w.heap.size, 0, none⟩ = false := by simp [go_sem]
  have z0 : w.heap.size + 1 ≤ (w.alloc (.cells #[.slice none 0 0] 42)).heap.size := by simp
  obtain ⟨A, hA⟩ : ∃ A, A = (w.alloc (.cells #[.slice none 0 0] 42)) := ⟨_, rfl⟩
  rw [← hA] at hx0 r0 q0 z0
  have HV := Lib.hid (hv.ext hx0)
  have HX0 := Lib.hid hx0
  clear hv hx0
  obtain ⟨⟨h1, h12⟩, h16, hg⟩ := sysB_ok hb
  rw [Int.toNat_natCast] at hg
  have hin : inR (n : Int) 1 12 = true := inR_iff.2 ⟨h1, h12⟩
  have hgood := genA_good hg (idL_perm n)
  have HGOOD := Lib.hid hgood
  have HGG := Lib.hid (fun W (h : Rows W (.slice (some ⟨b, o, none⟩) gens.length c) gens) => l03Group_any n gens _ W h hg (by omega) (by omega) h16)
  obtain ⟨R, hR⟩ : ∃ R, R = genA gens n := ⟨_, rfl⟩
  have hRl := hgood.few
  have HRE := Lib.hid hR
  rw [← hR] at hRl
  rw [← hR] at HGOOD
  rw [← hR] at HGG
  have HB := Lib.hid hb
  clear hg hgood hR
  have hbig : R.length ≤ 12 := by rw [HRE.out]; exact hbig0
  obtain ⟨g1, -⟩ := gop_yes HB.out (by rw [Int.toNat_natCast, ← HRE.out]; exact hbig)
  rw [g1]
  have HGS := Lib.hid (show gopS n gens = sortS R by unfold gopS; rw [Int.toNat_natCast, HRE.out])
  clear g1
  have hbi : ¬ (12 : Int) < (R.length : Int) := by omega
  go_enter Tryz.func94, Tryz.ntmps94
  go_wp2_with fail
  rw [← hA]
  refine (l01In_any _ 1 12 _).mono ?_
  rintro e w1 ⟨rfl, rfl⟩
  rw [hin]
  clear hA
  go_wp2_with fail
  refine (l01System_any _ gens _ _ HV.out).mono ?_
  rintro e w1 ⟨rfl, hx1⟩
  rw [hb]
  have f1 := hx1.cell r0
  have f2 := hx1.free q0 (by simp only []; omega)
  have zz := hx1.size
  have HX1 := Lib.hid hx1
  clear hx1 hb hin r0 q0
  go_wp2_with fail
  refine (HGG.out _ (HV.out.ext HX1.out)).mono ?_
  rintro e w2 ⟨v2, rfl, hr2, hx2⟩
  obtain ⟨-, ba, oa, ca, rfl, hca2⟩ := hr2
  have f3 := hx2.cell f1
  have f4 := hx2.free f2 (by simp only []; omega)
  have zz2 := hx2.size
  have HX2 := Lib.hid (HX0.out.trans (HX1.out.trans hx2))
  have HCA := Lib.hid hca2
  clear hx2 f1 f2 hca2 HX1
  go_wp2_with fail
  have hxl : Ext w2 (w2.alloc (.cells #[] 29)) := (Ext.refl _).alloc _
  have hg0 := GrowX.lit (e := 29) (base := w.heap.size) (w := w2) (by omega)
  go_loopw [7, 8] (fun vs x wr => ∃ (i : Nat) (s : List (List Int)), x = .int .i64 i ∧ i ≤ R.length ∧ s.Pairwise (· < ·) ∧ s.Perm (R.take i) ∧ GrowX 29 w.heap.size wr vs s ∧ vs ≠ .slice none 0 0 ∧ Ext w2 wr) (fun _ x _ => R.length - (intOf x).toNat)
  case atStart => exact ⟨0, [], rfl, by omega, List.Pairwise.nil, by rw [List.take_zero], hg0, by simp, hxl⟩
  case round =>
    clear hxl hg0
    obtain ⟨i, s, rfl, hi, hss, hsp, hgs, hvs, hx⟩ := hrel
    have hsl : s.length = i := by rw [hsp.length_eq, List.length_take]; omega
    have hsl2 := And.intro (Nat.le_of_eq hsl) (Nat.le_of_eq hsl.symm)
    have HSS := Lib.hid hss
    have HSP := Lib.hid hsp
    have HX := Lib.hid hx
    by_cases hil : i < R.length
    case neg =>
      have hta : R.take i = R := List.take_of_length_le (by omega)
      have hsr : s = sortS R := sortS_eq HGOOD.out.nodup (by rw [hta] at hsp; exact hsp) hss
      have hrows : Rows wr _ s := hgs.rows hvs (by omega)
      obtain ⟨-, bs, os, cs, rfl, -⟩ := id hrows
      have HRS := Lib.hid hrows
      have HSR := Lib.hid hsr
      have f5 := hx.cell f3
      have f6 := hx.free f4 (by simp only []; omega)
      have zx := hx.size
      have HIX := Lib.hid (sorted_rows HGOOD.out)
      clear hss hsp hgs hvs hx hsl hta hsr hrows f3 f4
      go_wp2_with fail
      refine (l10Permutations_own n s _ _ HRS.out (by rw [HSR.out]; exact HIX.out) (by omega) (by omega)).mono ?_
      rintro e w5 ⟨b5, c5, rfl, ho5, hx5⟩
      skip
      have HR5 := Lib.hid ho5
      have f7 := hx5.cell f5
      have f8 := hx5.free f6 (by simp only []; omega)
      have F7 := Lib.hid f7
      have HX5 := Lib.hid hx5
      clear f5 f6 ho5 hx5
      go_wp2_with fail
      refine bodyPost_ret (v := .tuple #[.agg #[.slice (some ⟨b5, 0, none⟩) (mkT s.length (gopE s)).length c5], .int .i64 0]) (by simp [results, Tryz.results94, go_sem, f7]) rfl ⟨b5, c5, by rw [HGS.out, ← HSR.out], by rw [HGS.out, ← HSR.out]; exact ((HR5.out.setOther (.inl (by simp only []; omega)) _).mono (by omega) (by simp)), (HX2.out.trans (HX.out.trans HX5.out)).setNew (by simp only []; omega) _⟩
    case pos =>
      have hii : (i : Int) < (R.length : Int) := by omega
      have hpo := HGOOD.out.row hil
      have HPL := Lib.hid hpo.1
      obtain ⟨bi, oi, di, a1, a2, a3⟩ := (HCA.out.ext hx).get hil
      rw [hpo.1] at a1
      have HP := Lib.hid (show Ints wr (.slice (some ⟨bi, oi, none⟩) n di) (row R i) from ⟨a3, bi, oi, di, by rw [hpo.1], a2⟩)
      have hnm : row R i ∉ s := fun h => nodup_row HGOOD.out.nodup hil (hsp.mem_iff.1 h)
      obtain ⟨xs, hown, hxs⟩ := hgs
      obtain ⟨g, cap, rfl, hcap, hgb, hgz, hcl⟩ := ownsRow_parts hown hvs
      have HSR := Lib.hid (show Rows wr (.slice (some ⟨g, 0, none⟩) s.length cap) s from GrowX.rows ⟨xs, hown, hxs⟩ (by simp) (by omega))
      have HXL := Lib.hid hxs.1
      have HXS := Lib.hid hxs
      have HCE := Lib.hid hcl
      have zx := hx.size
      clear hss hsp hvs hx hsl hpo a2 a3 hown hxs hcl
      go_wp2_with fail
      refine (l03Search_any s (row R i) _ _ _ HSR.out HP.out HSS.out).mono ?_
      rintro e w4 ⟨⟨k0, rfl, hk0, hlo, hhi⟩, hd4⟩
      have HD4 := Lib.hid hd4.ext
      have HSS2 := Lib.hid (put_sorted HSS.out hk0 hlo hhi hnm)
      have HSP2 := Lib.hid (show (s.take k0 ++ ([row R i] ++ s.drop k0)).Perm (R.take (i + 1)) by
        rw [take_row R i hil]
        exact (put_perm.trans (List.Perm.cons _ HSP.out)).trans (List.perm_append_comm (l₁ := [row R i])))
      have HXN := Lib.hid ((XS.one (HP.out.ext HD4.out)).append ((HXS.out.ext HD4.out).drop k0))
      have HXS := Lib.hid (HXS.out.ext HD4.out)
      have HCE := Lib.hid (fun i x hi => HD4.out.cell (HCE.out i x hi))
      have a1 := HD4.out.cell a1
      have zd := HD4.out.size
      clear hlo hhi hd4 hnm
      go_wp2_with fail
      by_cases hca : cap = k0
      case pos =>
        subst hca
        have hdr : s.drop cap = [] := List.drop_of_length_le (by omega)
        go_cut [10] (fun p wx => ∃ g5, p = .slice (some ⟨g5, 0, none⟩) 1 1 ∧ wx.cell? ⟨g5, 0, none⟩ = some (.slice (some ⟨bi, oi, none⟩) n di) ∧ Ext w4 wx ∧ w4.heap.size ≤ g5)
        case first =>
          go_region_held3 (fun w' => w'.cell? ⟨ba, oa + i, none⟩ = some (.slice (some ⟨bi, oi, none⟩) n di)) ((repeat first | (with_reducible assumption) |  (with_reducible exact kc_new) | ((with_reducible refine kc_newE ?_); (simp; done)) | ((with_reducible refine kc_newEa ?_); (simp; done)) | ((with_reducible refine kc_newEb ?_); (simp; done)) | (with_reducible apply kc_alloc) | (with_reducible apply kc_drewN) | (with_reducible apply kc_drew) | ((with_reducible refine kc_set ?_ ?_); (first | (simp only []; omega) | (simp; omega) | (focus (simp; done)))) | ((with_reducible refine kc_set2 ?_ ?_); (focus (simp; done))) | (with_reducible refine kc_same (v := .slice none 0 0) ?_))) (fail)
          all_goals
            go_wp2_with fail
            go_meet
            case rel => exact ⟨_, rfl, by first | (repeat first | (with_reducible assumption) |  (with_reducible exact kc_new) | ((with_reducible refine kc_newE ?_); (simp; done)) | ((with_reducible refine kc_newEa ?_); (simp; done)) | ((with_reducible refine kc_newEb ?_); (simp; done)) | (with_reducible apply kc_alloc) | (with_reducible apply kc_drewN) | (with_reducible apply kc_drew) | ((with_reducible refine kc_set ?_ ?_); (first | (simp only []; omega) | (simp; omega) | (focus (simp; done)))) | ((with_reducible refine kc_set2 ?_ ?_); (focus (simp; done))) | (with_reducible refine kc_same (v := .slice none 0 0) ?_)) | (simp [go_sem]; done), by (repeat first | (with_reducible exact Ext.refl _) | (with_reducible assumption) | (with_reducible apply Ext.drew) | (with_reducible apply kx_drewN) | (with_reducible apply kx_alloc) | ((with_reducible refine kx_set ?_ ?_); (first | (simp only []; omega) | (simp; omega) | (focus (simp; done)))) ), by first | omega | (simp; done) | (simp [size_drew, size_drewN]; done)⟩
        obtain ⟨g5, rfl, hc5, hx5, hg5⟩ := hcut
        have z5 := hx5.size
        go_wp2_with (at_builtin; refine wpList_append_xs rfl _ _ 24 29 rfl Tryz.underlying24 infoSl wc.heap.size (.slice (some ⟨wc.heap.size, 0, none⟩) 0 0) 0 [] rfl (ownsRow_lit (Nat.le_refl _)) (by simp) g 0 cap cap (xs.take cap) (by rw [List.length_take, HXL.out]; omega) rfl (fun i x hi => by rw [Nat.zero_add]; have hi2 : xs[i]? = some x := (by rw [List.getElem?_take] at hi; split at hi <;> first | exact hi | cases hi); exact ((Ext.refl wc).alloc _).cell (hx5.cell (HCE.out i x hi2))) (fun u hu => HXS.out.cell u (List.mem_of_mem_take hu)) (by omega) (by omega) (by simp) ?_)
        intro v6 w6 hown6 hgr6 hv6
        have hx6 : Ext wc w6 := Ext.grown ((Ext.refl wc).alloc _) hgr6 (ownsRow_lit (Nat.le_refl _)) (Nat.le_refl _)
        have z6 := hx6.size
        clear hgr6
        go_wp2_with (at_builtin; refine wpList_append_xs rfl _ _ 24 29 rfl Tryz.underlying24 infoSl wc.heap.size v6 _ _ rfl hown6 hv6 g5 0 1 1 [.slice (some ⟨bi, oi, none⟩) n di] rfl rfl (fun i x hi => by cases i with | zero => (simp at hi; subst hi; exact hx6.cell hc5) | succ i => simp at hi) (fun u hu => by simp at hu; subst hu; rfl) (by omega) (by omega) (by omega) ?_)
        intro v7 w7 hown7 hgr7 hv7
        have HX7 := Lib.hid (hx5.trans (Ext.grown hx6 hgr7 hown6 (Nat.le_refl _)))
        have HG7 := Lib.hid (show GrowX 29 w.heap.size w7 v7 (s.take cap ++ ([row R i] ++ s.drop cap)) from by
          rw [hdr]
          exact ⟨_, ownsRow_len (ownsRow_base hown7 (by omega)) (by rw [List.length_append, List.length_append, List.length_take] <;> simp <;> omega), ((HXS.out.take cap).append (XS.one (HP.out.ext HD4.out))).ext HX7.out⟩)
        have HV7 := Lib.hid hv7
        have z7 := HX7.out.size
        clear hgr7 hown7 hown6 hv6 hv7 hx5 hx6 hc5 hdr
        go_wp2_with fail
        go_roundw
        case rel => exact ⟨i + 1, _, by go_num, by omega, HSS2.out, HSP2.out, HG7.out, HV7.out, HX.out.trans (HD4.out.trans HX7.out)⟩
        case measure => simp [intOf]; omega
      case neg =>
        go_region_held3 (fun w' => w'.cell? ⟨ba, oa + i, none⟩ = some (.slice (some ⟨bi, oi, none⟩) n di))
          ((first | (focus ((repeat first | (with_reducible assumption) | (with_reducible refine Ext.cell hx5 ?_) |  (with_reducible exact kc_new) | ((with_reducible refine kc_newE ?_); (simp; done)) | ((with_reducible refine kc_newEa ?_); (simp; done)) | ((with_reducible refine kc_newEb ?_); (simp; done)) | (with_reducible apply kc_alloc) | (with_reducible apply kc_drewN) | (with_reducible apply kc_drew) | ((with_reducible refine kc_set ?_ ?_); (first | (simp only []; omega) | (simp; omega) | (focus (simp; done)))) | ((with_reducible refine kc_set2 ?_ ?_); (focus (simp; done))) | (with_reducible refine kc_same (v := .slice none 0 0) ?_)); done)) | (focus ((repeat first | (with_reducible assumption) |  (with_reducible exact kc_new) | ((with_reducible refine kc_newE ?_); (simp; done)) | ((with_reducible refine kc_newEa ?_); (simp; done)) | ((with_reducible refine kc_newEb ?_); (simp; done)) | (with_reducible apply kc_alloc) | (with_reducible apply kc_drewN) | (with_reducible apply kc_drew) | ((with_reducible refine kc_set ?_ ?_); (first | (simp only []; omega) | (simp; omega) | (focus (simp; done)))) | ((with_reducible refine kc_set2 ?_ ?_); (focus (simp; done))) | (with_reducible refine kc_same (v := .slice none 0 0) ?_)); done))))
          ((refine step_append_xs (by rfl) _ _ 24 29 (by rfl) Tryz.underlying24 infoSl w4.heap.size _ 1 [.slice (some ⟨bi, oi, none⟩) n di] (by rfl) (ownsRow_one (w := w4.drew) (Nat.le_refl _)) (by simp) g k0 _ (s.length - k0) (xs.drop k0) (by rw [List.length_drop, HXL.out] <;> omega) (by rfl) (fun i x hi => by rw [List.getElem?_drop] at hi; exact (show Ext w4 _ by (repeat first | (with_reducible exact Ext.refl _) | (with_reducible assumption) | (with_reducible apply Ext.drew) | (with_reducible apply kx_drewN) | (with_reducible apply kx_alloc) | ((with_reducible refine kx_set ?_ ?_); (first | (simp only []; omega) | (simp; omega) | (focus (simp; done)))) )).cell (HCE.out _ _ hi)) (fun u hu => HXS.out.cell u (List.mem_of_mem_drop hu)) (by omega) (by omega) (by simp) ?_; intro v5 w5 hown5 hgr5 hv5; have hx5 : Ext w4 w5 := Ext.grown (by (repeat first | (with_reducible exact Ext.refl _) | (with_reducible assumption) | (with_reducible apply Ext.drew) | (with_reducible apply kx_drewN) | (with_reducible apply kx_alloc) | ((with_reducible refine kx_set ?_ ?_); (first | (simp only []; omega) | (simp; omega) | (focus (simp; done)))) )) hgr5 (ownsRow_one (w := w4.drew) (Nat.le_refl _)) (Nat.le_refl _)))
        obtain ⟨g5, cap5, rfl, hc5, hg5, hs5, hcl5⟩ := ownsRow_parts hown5 hv5
        have HC5 := Lib.hid hcl5
        have z5 := hx5.size
        clear hcl5 hgr5 hown5
        go_wp2_with (at_builtin; refine wpList_append_xs rfl _ _ 24 29 rfl Tryz.underlying24 infoSl w5.heap.size (.slice (some ⟨w5.heap.size, 0, none⟩) 0 0) 0 [] rfl (ownsRow_lit (Nat.le_refl _)) (by simp) g 0 cap k0 (xs.take k0) (by rw [List.length_take, HXL.out]; omega) rfl (fun i x hi => by rw [Nat.zero_add]; have hi2 : xs[i]? = some x := (by rw [List.getElem?_take] at hi; split at hi <;> first | exact hi | cases hi); exact ((Ext.refl w5).alloc _).cell (hx5.cell (HCE.out i x hi2))) (fun u hu => HXS.out.cell u (List.mem_of_mem_take hu)) (by omega) (by omega) (by simp) ?_)
        intro v6 w6 hown6 hgr6 hv6
        have hx6 : Ext w5 w6 := Ext.grown ((Ext.refl w5).alloc _) hgr6 (ownsRow_lit (Nat.le_refl _)) (Nat.le_refl _)
        have z6 := hx6.size
        clear hgr6
        go_wp2_with (at_builtin; refine wpList_append_xs rfl _ _ 24 29 rfl Tryz.underlying24 infoSl w5.heap.size v6 _ _ rfl hown6 hv6 g5 0 cap5 _ ([.slice (some ⟨bi, oi, none⟩) n di] ++ xs.drop k0) (by rw [List.length_append, List.length_drop, HXL.out] <;> first | (simp; done) | (simp; omega)) rfl (fun i x hi => by rw [Nat.zero_add]; exact hx6.cell (HC5.out i x hi)) (fun u hu => (HXN.out).cell u hu) (by omega) (by omega) (by omega) ?_)
        intro v7 w7 hown7 hgr7 hv7
        have HX7 := Lib.hid (hx5.trans (Ext.grown hx6 hgr7 hown6 (Nat.le_refl _)))
        have HG7 := Lib.hid (show GrowX 29 w.heap.size w7 v7 (s.take k0 ++ ([row R i] ++ s.drop k0)) from ⟨_, ownsRow_len (ownsRow_base hown7 (by omega)) (by rw [List.length_append, List.length_append, List.length_take, List.length_drop] <;> simp <;> omega), ((HXS.out.take k0).append HXN.out).ext HX7.out⟩)
        have HV7 := Lib.hid hv7
        have z7 := HX7.out.size
        clear hgr7 hown7 hown6 hv6 hv7 hx5 hx6
        go_wp2_with fail
        go_roundw
        case rel => exact ⟨i + 1, _, by go_num, by omega, HSS2.out, HSP2.out, HG7.out, HV7.out, HX.out.trans (HD4.out.trans HX7.out)⟩
        case measure => simp [intOf]; omega
end Go.Proofs.YthlafeefjonkdaaGreatDoor


namespace Go.Proofs.YthlafeefjonkdaaGreatDoor
set_option linter.unusedVariables false
set_option linter.unusedSimpArgs false
open Go.RowKit
open Go.Deep

def TabV (w : World) (base : Nat) (r : Value) (t : List (List Int)) (p : Nat × Nat) : Prop :=
  ∃ b c, r = .slice (some ⟨b, 0, none⟩) t.length c ∧ OwnT p.1 p.2 w b 0 t ∧ Small t ∧ base ≤ p.1 ∧ p.2 ≤ w.heap.size
def TabsV (w : World) (base : Nat) : List Value → List (List (List Int)) → List (Nat × Nat) → Prop
  | [], [], [] => True
  | r :: rs, t :: ts, p :: ps => TabV w base r t p ∧ TabsV w base rs ts ps
  | _, _, _ => False
def Apart (ps : List (Nat × Nat)) : Prop := ps.Pairwise (fun p q => p.2 ≤ q.1 ∨ q.2 ≤ p.1)
def Off (g : Option Nat) (ps : List (Nat × Nat)) : Prop := ∀ p ∈ ps, ∀ k, g = some k → ¬ (p.1 ≤ k ∧ k < p.2)

theorem TabV.keep {w w' : World} {base : Nat} {r : Value} {t : List (List Int)} {p : Nat × Nat} (h : TabV w base r t p) (hs : w.heap.size ≤ w'.heap.size) (hk : ∀ k, p.1 ≤ k → k < p.2 → w'.heap[k]? = w.heap[k]?) : TabV w' base r t p := by
  obtain ⟨b, c, rfl, h1, h2, h3, h4⟩ := h
  exact ⟨b, c, rfl, h1.keep hk, h2, h3, by omega⟩
theorem TabsV.keep {w w' : World} {base : Nat} (hs : w.heap.size ≤ w'.heap.size) : ∀ {rs : List Value} {ts : List (List (List Int))} {ps : List (Nat × Nat)}, TabsV w base rs ts ps → (∀ p ∈ ps, ∀ k, p.1 ≤ k → k < p.2 → w'.heap[k]? = w.heap[k]?) → TabsV w' base rs ts ps
  | [], [], [], _, _ => trivial
  | r :: rs, t :: ts, p :: ps, h, hk => ⟨h.1.keep hs (hk p (by simp)), TabsV.keep hs h.2 (fun q hq => hk q (by simp [hq]))⟩
theorem TabsV.top {w : World} {base : Nat} : ∀ {rs : List Value} {ts : List (List (List Int))} {ps : List (Nat × Nat)}, TabsV w base rs ts ps → ∀ p ∈ ps, base ≤ p.1 ∧ p.2 ≤ w.heap.size
  | [], [], [], _, p, hp => by simp at hp
  | r :: rs, t :: ts, q :: ps, h, p, hp => by
    rcases List.mem_cons.1 hp with rfl | hp
    · obtain ⟨_, _, _, _, _, h3, h4⟩ := h.1
      exact ⟨h3, h4⟩
    · exact TabsV.top h.2 p hp
theorem TabsV.ext {w w' : World} {base : Nat} {rs : List Value} {ts : List (List (List Int))} {ps : List (Nat × Nat)} (h : TabsV w base rs ts ps) (hx : Ext w w') : TabsV w' base rs ts ps :=
  h.keep hx.size (fun p hp k _ h2 => hx.block k (by have := (h.top p hp).2; omega))
theorem TabsV.append {w : World} {base : Nat} : ∀ {rs qs : List Value} {ts us : List (List (List Int))} {ps os : List (Nat × Nat)}, TabsV w base rs ts ps → TabsV w base qs us os → TabsV w base (rs ++ qs) (ts ++ us) (ps ++ os)
  | [], _, [], _, [], _, _, h => h
  | r :: rs, _, t :: ts, _, p :: ps, _, h, k => ⟨h.1, TabsV.append h.2 k⟩
theorem TabsV.length {w : World} {base : Nat} : ∀ {rs : List Value} {ts : List (List (List Int))} {ps : List (Nat × Nat)}, TabsV w base rs ts ps → rs.length = ts.length ∧ ps.length = ts.length
  | [], [], [], _ => ⟨rfl, rfl⟩
  | r :: rs, t :: ts, p :: ps, h => by
    have := TabsV.length h.2
    simp [this.1, this.2]
theorem TabsV.get {w : World} {base : Nat} : ∀ {rs : List Value} {ts : List (List (List Int))} {ps : List (Nat × Nat)}, TabsV w base rs ts ps → ∀ i, i < ts.length → ∃ r p, rs[i]? = some r ∧ ps[i]? = some p ∧ TabV w base r (tab ts i) p
  | [], [], [], _, i, hi => by simp at hi
  | r :: rs, t :: ts, p :: ps, h, 0, hi => ⟨r, p, rfl, rfl, by rw [tab_eq]; exact h.1⟩
  | r :: rs, t :: ts, p :: ps, h, i + 1, hi => by
    obtain ⟨r1, p1, h1, h2, h3⟩ := TabsV.get h.2 i (by simpa using hi)
    refine ⟨r1, p1, by simpa using h1, by simpa using h2, ?_⟩
    rw [tab_eq] at h3 ⊢
    simpa using h3
theorem TabsV.lower {w : World} {base base2 : Nat} (hb : base2 ≤ base) : ∀ {rs : List Value} {ts : List (List (List Int))} {ps : List (Nat × Nat)}, TabsV w base rs ts ps → TabsV w base2 rs ts ps
  | [], [], [], _ => trivial
  | r :: rs, t :: ts, p :: ps, h => by
    obtain ⟨b, c, h0, h1, h2, h3, h4⟩ := h.1
    exact ⟨⟨b, c, h0, h1, h2, by omega, h4⟩, TabsV.lower hb h.2⟩
theorem TabsV.nil (w : World) (base : Nat) : TabsV w base [] [] [] := trivial
theorem TabsV.cons {w : World} {base lo hi b c : Nat} {t : List (List Int)} {rs : List Value} {ts : List (List (List Int))} {ps : List (Nat × Nat)} (h : OwnT lo hi w b 0 t) (hs : Small t) (h1 : base ≤ lo) (h2 : hi ≤ w.heap.size) (k : TabsV w base rs ts ps) :
    TabsV w base (.slice (some ⟨b, 0, none⟩) t.length c :: rs) (t :: ts) ((lo, hi) :: ps) := ⟨⟨b, c, rfl, h, hs, h1, h2⟩, k⟩
def GrowD (e base : Nat) (w : World) (v : Value) (ts : List (List (List Int))) : Prop :=
  ∃ xs ps, w.ownsRow base e 1 v ts.length xs ∧ TabsV w base xs ts ps ∧ Apart ps ∧ Off v.ownBlock ps
theorem GrowD.lt {e base : Nat} {w : World} {v : Value} {ts : List (List (List Int))} (h : GrowD e base w v ts) (k : Nat) (hk : v.ownBlock = some k) : base ≤ k ∧ k < w.heap.size := by
  obtain ⟨xs, ps, h1, -⟩ := h
  exact h1.lt k hk
theorem GrowD.one {e base : Nat} {w : World} {lo hi b c : Nat} {t : List (List Int)} (h : OwnT lo hi w b 0 t) (hs : Small t) (h1 : base ≤ lo) (h2 : hi ≤ w.heap.size) (hb : base ≤ w.heap.size) :
    GrowD e base (w.alloc (.cells #[.slice (some ⟨b, 0, none⟩) t.length c] e)) (.slice (some ⟨w.heap.size, 0, none⟩) 1 1) [t] :=
  ⟨_, [(lo, hi)], ownsRow_one hb, ((TabsV.nil w base).cons (c := c) h hs h1 h2).ext ((Ext.refl w).alloc _), by simp [Apart], fun p hp k hk => by
    have : p = (lo, hi) := by simpa using hp
    subst this
    have : w.heap.size = k := Option.some.inj hk
    simp only []
    omega⟩
theorem GrowD.slice {e base : Nat} {w : World} {v : Value} {ts : List (List (List Int))} (h : GrowD e base w v ts) (h0 : 0 < ts.length) : ∃ g c, v = .slice (some ⟨g, 0, none⟩) ts.length c := by
  obtain ⟨xs, ps, h1, -⟩ := h
  rcases h1.2 with ⟨rfl, hn⟩ | ⟨g, cap, cur, rfl, _⟩
  · omega
  · exact ⟨_, cap, rfl⟩
theorem GrowD.cell {e base : Nat} {w : World} {g n c : Nat} {ts : List (List (List Int))} (h : GrowD e base w (.slice (some ⟨g, 0, none⟩) n c) ts) {i : Nat} (hi : i < ts.length) : ∃ b d p, w.cell? ⟨g, i, none⟩ = some (.slice (some ⟨b, 0, none⟩) (tab ts i).length d) ∧ TabV w base (.slice (some ⟨b, 0, none⟩) (tab ts i).length d) (tab ts i) p := by
  obtain ⟨xs, ps, h1, h2, -⟩ := h
  obtain ⟨r, p, g1, g2, g3⟩ := h2.get i hi
  have hc := World.ownsRow.cells h1 (g := g) rfl i _ g1
  rw [Addr.add_lit, Nat.zero_add] at hc
  obtain ⟨b, d, rfl, -⟩ := id g3
  exact ⟨b, d, p, hc, g3⟩
theorem wpList_append_tabs {P : Program} {w1 w : World} {ops : Array Oper} {rest : List Oper} {o : Oper} {a : Act} {Q : Exit → Act → World → Prop} (hgd : o.guard = none) (s x : Operand) (t e : TypeId)
    (ho : o.op = .call { callee := .builtin .append, args := #[s, x], argTypes := #[t, t] }) (ht : P.underlying t = some (.slice e)) {z : Value} (hinfo : (P.info? e).map (fun i => (i.zero, i.size, i.bytes)) = some (some z, 1, 24)) (hz1c : z.cells.size = 1)
    (base : Nat) (v : Value) (ts : List (List (List Int))) (hs : a.eval s = v) (hown : GrowD e base w1 v ts) (hx1 : Ext w1 w) (g m : Nat) (rs : List Value) (ls : List (List (List Int))) (qs : List (Nat × Nat)) (hx : a.eval x = .slice (some ⟨g, 0, none⟩) m m) (hm : m = ls.length) (hc : ∀ j u, rs[j]? = some u → w.cell? ⟨g, j, none⟩ = some u)
    (hr : TabsV w w1.heap.size rs ls qs) (hap : Apart qs) (hl : ts.length + ls.length ≤ 1048576) (hbase : base ≤ w1.heap.size)
    (h : ∀ v' w', GrowD e base w' v' (ts ++ ls) → w.grownBy w' v.ownBlock → (v'.ownBlock = v.ownBlock ∨ v'.ownBlock = some w.heap.size) → wpList P ops Q rest (a.put o.dst v') w') : wpList P ops Q (o :: rest) a w := by
  subst hm
  obtain ⟨i0, hi, hz0, hz1, hz2⟩ := info_parts hinfo
  obtain ⟨xs, ps, h1, h2, h3, h4⟩ := id hown
  have hlt := hown.lt
  have hz := hx1.size
  refine wpList_append_own_at w hgd s x t ho base e i0 z 1 24 ht hi hz0 hz1 hz2 hz1c (by decide) v ts.length xs hs (ownsRow_ext h1 hx1) ⟨g, 0, none⟩ ls.length ls.length rs hx (by rw [hr.length.1, Nat.mul_one]) ?_ ?_ (by unfold maxLen; omega) (by omega) (by omega) ?_
  · intro j u hj
    rw [Addr.add_lit, Nat.zero_add]
    exact hc j u hj
  · intro u hu
    obtain ⟨i, hi, rfl⟩ := List.mem_iff_getElem.1 hu
    obtain ⟨r, p, g1, g2, b, c, rfl, -⟩ := hr.get i (by rw [← hr.length.1]; exact hi)
    rw [List.getElem?_eq_getElem hi] at g1
    rw [Option.some.inj g1]; rfl
  · intro v' w' k1 k2 k3 k4
    have top1 := h2.top
    have top2 := hr.top
    refine h v' w' ⟨xs ++ rs, ps ++ qs, by simpa using k1, TabsV.append ?_ ?_, ?_, ?_⟩ k2 k4
    · refine (h2.ext hx1).keep k2.size (fun p hp k g1 g2 => k2.block k (by have := (top1 p hp).2; omega) (fun e => h4 p hp k e.symm ⟨g1, g2⟩))
    · refine (hr.lower hbase).keep k2.size (fun p hp k g1 g2 => k2.block k (by have := (top2 p hp).2; omega) (fun e => by have := hlt k e.symm; have := (top2 p hp).1; omega))
    · unfold Apart at *
      rw [List.pairwise_append]
      exact ⟨h3, hap, fun p hp q hq => .inl (by have := (top1 p hp).2; have := (top2 q hq).1; omega)⟩
    · intro p hp k hk
      rcases k4 with e4 | e4
      · rw [e4] at hk
        rcases List.mem_append.1 hp with hp | hp
        · exact h4 p hp k hk
        · have := hlt k hk; have := (top2 p hp).1; omega
      · rw [e4] at hk
        have hk := Option.some.inj hk
        rcases List.mem_append.1 hp with hp | hp
        · have := (top1 p hp).2; omega
        · have := (top2 p hp).2; omega
end Go.Proofs.YthlafeefjonkdaaGreatDoor


namespace Go.Proofs.YthlafeefjonkdaaGreatDoor
set_option linter.unusedVariables false
set_option linter.unusedSimpArgs false
open Go.RowKit
attribute [local go_sem ↓] Go.wp_at_zero Go.wp_at_succ
open Go.Deep

def NewD (ts : List (List (List Int))) (w : World) (e : Ending) (w' : World) : Prop := ∃ v, e = .returned v ∧ GrowD 24 w.heap.size w' v ts ∧ Ext w w'
def NewTN (t : List (List Int)) (n : Nat) (w : World) (e : Ending) (w' : World) : Prop := ∃ b c, e = .returned (.slice (some ⟨b, 0, none⟩) n c) ∧ OwnT w.heap.size w'.heap.size w' b 0 t ∧ Ext w w'
theorem NewT.n {t : List (List Int)} {n : Nat} {w : World} (h : t.length = n) {e : Ending} {w' : World} (k : NewT t w e w') : NewTN t n w e w' := by
  obtain ⟨b, c, h1, h2, h3⟩ := k
  exact ⟨b, c, by rw [← h]; exact h1, h2, h3⟩
theorem cyc_call (n : Nat) (h1 : 1 ≤ n) (h2 : n ≤ 12) (w : World) : Calls Tryz.prog 92 #[.int .i64 n] w (NewTN (cyT n) n w) :=
  (l10Cyclic_own n w h1 h2).mono fun _ _ h => NewT.n (length_cyT n) (by rw [← cyT_eq]; exact h)
theorem dbl_call (n s : Nat) (h1 : 1 ≤ n) (h2 : n ≤ 12) (h3 : s ≤ 12) (w : World) : Calls Tryz.prog 93 #[.int .i64 n, .int .i64 s] w (NewTN (dbT n s) (2 * n) w) :=
  (l10Double_own n s w h1 h2 h3).mono fun _ _ h => NewT.n (length_dbT n s) (by rw [← dbT_eq]; exact h)
theorem prod_call (a b : List (List Int)) (n m N : Nat) (va vb : Value) (ha : TableOk a) (hb : TableOk b) (hn : a.length = n) (hm : b.length = m) (hN : N = n * m) (h12 : N ≤ 12) (w : World) (h1 : Rows w va a) (h2 : Rows w vb b) : Calls Tryz.prog 59 #[va, vb] w (NewTN (prodT a b) N w) :=
  (l04Product_own a b va vb w N (by rw [hn, hm]; exact hN) h12 h1 h2 ha hb).mono fun _ _ h => NewT.n (by rw [length_prodT, hn, hm, hN]) (by rw [← prodT_eq a b (N := N) (by rw [hn, hm]; exact hN)]; exact h)
theorem OwnT.rowsN {lo hi : Nat} {w : World} {b n c : Nat} {t : List (List Int)} (h : OwnT lo hi w b 0 t) (hs : Small t) (hn : t.length = n) : Rows w (.slice (some ⟨b, 0, none⟩) n c) t := by
  subst hn
  exact (h.rowsAt hs).rows hs.1 c
theorem TabsV.oneN {w : World} {base lo hi b c n : Nat} {t : List (List Int)} (h : OwnT lo hi w b 0 t) (hs : Small t) (h1 : base ≤ lo) (h2 : hi ≤ w.heap.size) (hn : t.length = n) : TabsV w base [.slice (some ⟨b, 0, none⟩) n c] [t] [(lo, hi)] := by
  subst hn
  exact TabsV.cons h hs h1 h2 (TabsV.nil w base)
theorem GrowD.oneN {e base : Nat} {w : World} {lo hi b c n : Nat} {t : List (List Int)} (h : OwnT lo hi w b 0 t) (hs : Small t) (h1 : base ≤ lo) (h2 : hi ≤ w.heap.size) (hb : base ≤ w.heap.size) (hn : t.length = n) :
    GrowD e base (w.alloc (.cells #[.slice (some ⟨b, 0, none⟩) n c] e)) (.slice (some ⟨w.heap.size, 0, none⟩) 1 1) [t] := by
  subst hn
  exact GrowD.one h hs h1 h2 hb
theorem namedL_plain {n : Nat} (h : n = 1 ∨ n = 2 ∨ n = 3 ∨ n = 5 ∨ n = 7 ∨ n = 11) : namedL n = [cyT n] := by
  rcases h with rfl | rfl | rfl | rfl | rfl | rfl <;> rfl
theorem cells_one {w : World} {x : Value} {t : TypeId} : ∀ j u, [x][j]? = some u → (w.alloc (.cells #[x] t)).cell? ⟨w.heap.size, j, none⟩ = some u := by
  intro j u hj
  have := cell_one_new w x t j u hj
  rw [Addr.add_lit, Nat.zero_add] at this
  exact this

theorem cells_two {w : World} {x y : Value} {t : TypeId} : ∀ j u, [x, y][j]? = some u → (w.alloc (.cells #[x, y] t)).cell? ⟨w.heap.size, j, none⟩ = some u := by
  intro j u hj
  match j, hj with
  | 0, hj => simp at hj; subst hj; simp [go_sem]
  | 1, hj => simp at hj; subst hj; simp [go_sem]
set_option maxRecDepth 100000 in
set_option maxHeartbeats 1000000 in
theorem l10Named_plain (n : Nat) (w : World) (h : n = 1 ∨ n = 2 ∨ n = 3 ∨ n = 5 ∨ n = 7 ∨ n = 11) : Calls Tryz.prog 60 #[.int .i64 n] w (NewD (namedL n) w) := by
  rw [namedL_plain h]
  have HC := Lib.hid (fun w => cyc_call n (by omega) (by omega) w)
  have HS := Lib.hid (small_cyT (n := n) (by omega))
  have HL := Lib.hid (length_cyT n)
  rcases h with rfl | rfl | rfl | rfl | rfl | rfl
  all_goals
    go_enter Tryz.func60, Tryz.ntmps60
    go_wp2_with fail
    refine (HC.out _).mono ?_
    rintro e w1 ⟨b1, c1, rfl, ho1, hx1⟩
    have HG := Lib.hid (GrowD.oneN (e := 24) (c := c1) ho1 HS.out (Nat.le_refl _) (Nat.le_refl _) hx1.size HL.out)
    have HX := Lib.hid hx1
    clear ho1 hx1
    go_wp2_with fail
    go_ret
    exact ⟨_, rfl, HG.out, HX.out.alloc _⟩
end Go.Proofs.YthlafeefjonkdaaGreatDoor


namespace Go.Proofs.YthlafeefjonkdaaGreatDoor
set_option linter.unusedVariables false
set_option linter.unusedSimpArgs false
open Go.RowKit
attribute [local go_sem ↓] Go.wp_at_zero Go.wp_at_succ
open Go.Deep

abbrev evenW (A : World) : World := ((A.alloc (.cells #[.int .i64 1, .int .i64 2, .int .i64 0, .int .i64 3] 2)).alloc (.cells #[.int .i64 0, .int .i64 2, .int .i64 3, .int .i64 1] 2)).alloc (.cells #[.slice (some ⟨A.heap.size, 0, none⟩) 4 4, .slice (some ⟨A.heap.size + 1, 0, none⟩) 4 4] 29)
theorem even_ext (A : World) : Ext A (evenW A) := (((Ext.refl A).alloc _).alloc _).alloc _
theorem even_rows (A : World) : Rows (evenW A) (.slice (some ⟨A.heap.size + 1 + 1, 0, none⟩) 2 2) evenE := by
  refine ⟨by decide, _, 0, 2, rfl, fun i hi => ?_⟩
  match i, hi with
  | 0, hi => 
    refine ⟨.slice (some ⟨A.heap.size, 0, none⟩) 4 4, by simp [go_sem], by decide +kernel, _, 0, 4, by rw [row_eq]; rfl, fun j hj => ?_⟩
    have hj4 : j < 4 := by
      have e : (row evenE 0).length = 4 := by rw [row_eq]; rfl
      omega
    match j, hj4 with
    | 0, _ => simp [go_sem, evenE, row_eq, ix_eq]
    | 1, _ => simp [go_sem, evenE, row_eq, ix_eq]
    | 2, _ => simp [go_sem, evenE, row_eq, ix_eq]
    | 3, _ => simp [go_sem, evenE, row_eq, ix_eq]
  | 1, hi =>
    refine ⟨.slice (some ⟨A.heap.size + 1, 0, none⟩) 4 4, by simp [go_sem], by decide +kernel, _, 0, 4, by rw [row_eq]; rfl, fun j hj => ?_⟩
    have hj4 : j < 4 := by
      have e : (row evenE 1).length = 4 := by rw [row_eq]; rfl
      omega
    match j, hj4 with
    | 0, _ => simp [go_sem, evenE, row_eq, ix_eq]
    | 1, _ => simp [go_sem, evenE, row_eq, ix_eq]
    | 2, _ => simp [go_sem, evenE, row_eq, ix_eq]
    | 3, _ => simp [go_sem, evenE, row_eq, ix_eq]

set_option maxRecDepth 100000 in
set_option maxHeartbeats 1000000 in
theorem l10Named_four (w : World) : Calls Tryz.prog 60 #[.int .i64 4] w (NewD (namedL 4) w) := by
  go_enter Tryz.func60, Tryz.ntmps60
  go_wp2_with fail
  refine (cyc_call 4 (by omega) (by omega) _).mono ?_
  rintro e w1 ⟨b1, c1, rfl, ho, hx⟩
  have z1 := hx.size
  have HG := Lib.hid (GrowD.oneN (e := 24) (c := c1) (n := 4) ho (small_cyT (n := 4) (by omega)) (Nat.le_refl _) (Nat.le_refl _) hx.size (length_cyT 4))
  have HX := Lib.hid (hx.alloc (.cells #[.slice (some ⟨b1, 0, none⟩) 4 c1] 24))
  clear ho hx
  go_wp2_with fail
  generalize (w1.alloc (.cells #[.slice (some ⟨b1, 0, none⟩) 4 c1] 24)) = A at *
  have HXC := Lib.hid (Ext.refl A)
  refine (cyc_call 2 (by omega) (by omega) _).mono ?_
  rintro e w2 ⟨b2, c2, rfl, ho, hx⟩
  have z2 := hx.size
  have HXC := Lib.hid (HXC.out.trans hx)
  have T2 := Lib.hid (TabsV.oneN (base := A.heap.size) (c := c2) (n := 2) ho (small_cyT (n := 2) (by omega)) (by omega) (Nat.le_refl _) (length_cyT 2))
  have R2 := Lib.hid (ho.rowsN (c := c2) (n := 2) (small_cyT (n := 2) (by omega)) (length_cyT 2))
  clear ho hx
  go_wp2_with fail
  refine (cyc_call 2 (by omega) (by omega) _).mono ?_
  rintro e w3 ⟨b3, c3, rfl, ho, hx⟩
  have z3 := hx.size
  have HXC := Lib.hid (HXC.out.trans hx)
  have T2 := Lib.hid (T2.out.ext hx)
  have R2 := Lib.hid (R2.out.ext hx)
  have T3 := Lib.hid (TabsV.oneN (base := A.heap.size) (c := c3) (n := 2) ho (small_cyT (n := 2) (by omega)) (by omega) (Nat.le_refl _) (length_cyT 2))
  have R3 := Lib.hid (ho.rowsN (c := c3) (n := 2) (small_cyT (n := 2) (by omega)) (length_cyT 2))
  clear ho hx
  go_wp2_with fail
  refine (prod_call (cyT 2) (cyT 2) 2 2 4 _ _ cy2_ok cy2_ok (by simp [length_prodT, length_cyT]) (by simp [length_prodT, length_cyT]) rfl (by omega) _ R2.out R3.out).mono ?_
  rintro e w4 ⟨b4, c4, rfl, ho, hx⟩
  have z4 := hx.size
  have HXC := Lib.hid (HXC.out.trans hx)
  have T2 := Lib.hid (T2.out.ext hx)
  have T3 := Lib.hid (T3.out.ext hx)
  have R2 := Lib.hid (R2.out.ext hx)
  have R3 := Lib.hid (R3.out.ext hx)
  have T4 := Lib.hid (TabsV.oneN (base := A.heap.size) (c := c4) (n := 4) ho (small_prodT (by simp [length_prodT, length_cyT])) (by omega) (Nat.le_refl _) (by simp [length_prodT, length_cyT]))
  have R4 := Lib.hid (ho.rowsN (c := c4) (n := 4) (small_prodT (by simp [length_prodT, length_cyT])) (by simp [length_prodT, length_cyT]))
  clear ho hx
  go_wp2_with (at_builtin; refine wpList_append_tabs rfl _ _ 56 24 rfl Tryz.underlying56 infoSl2 rfl w.heap.size _ _ rfl HG.out (HXC.out.trans (ext_box _ _ _)) _ 1 [.slice (some ⟨b4, 0, none⟩) 4 c4] [(prodT (cyT 2) (cyT 2))] _ rfl rfl cells_one ((T4.out).ext (ext_box _ _ _)) (by simp [Apart]) (by simp) HX.out.size ?_)
  intro v5 A5 hg hgr hat
  have HX := Lib.hid (show Ext w A5 from ext_grownBy (HX.out.trans (HXC.out.trans ((Ext.refl _).alloc _))) hgr (fun k e => (HG.out.lt k e).1))
  have HG := Lib.hid hg
  clear hgr hat hg HXC T2 R2 T3 R3 T4 R4
  obtain ⟨g5, d5, rfl⟩ := HG.out.slice (by simp)
  go_wp2_with fail
  go_ret
  exact ⟨_, rfl, HG.out, HX.out⟩

set_option maxRecDepth 100000 in
set_option maxHeartbeats 1000000 in
theorem l10Named_six (w : World) : Calls Tryz.prog 60 #[.int .i64 6] w (NewD (namedL 6) w) := by
  go_enter Tryz.func60, Tryz.ntmps60
  go_wp2_with fail
  refine (cyc_call 6 (by omega) (by omega) _).mono ?_
  rintro e w1 ⟨b1, c1, rfl, ho, hx⟩
  have z1 := hx.size
  have HG := Lib.hid (GrowD.oneN (e := 24) (c := c1) (n := 6) ho (small_cyT (n := 6) (by omega)) (Nat.le_refl _) (Nat.le_refl _) hx.size (length_cyT 6))
  have HX := Lib.hid (hx.alloc (.cells #[.slice (some ⟨b1, 0, none⟩) 6 c1] 24))
  clear ho hx
  go_wp2_with fail
  generalize (w1.alloc (.cells #[.slice (some ⟨b1, 0, none⟩) 6 c1] 24)) = A at *
  have HXC := Lib.hid (Ext.refl A)
  refine (dbl_call 3 0 (by omega) (by omega) (by omega) _).mono ?_
  rintro e w2 ⟨b2, c2, rfl, ho, hx⟩
  have z2 := hx.size
  have HXC := Lib.hid (HXC.out.trans hx)
  have T2 := Lib.hid (TabsV.oneN (base := A.heap.size) (c := c2) (n := 6) ho (small_dbT (n := 3) (s := 0) (by omega)) (by omega) (Nat.le_refl _) (length_dbT 3 0))
  have R2 := Lib.hid (ho.rowsN (c := c2) (n := 6) (small_dbT (n := 3) (s := 0) (by omega)) (length_dbT 3 0))
  clear ho hx
  go_wp2_with (at_builtin; refine wpList_append_tabs rfl _ _ 56 24 rfl Tryz.underlying56 infoSl2 rfl w.heap.size _ _ rfl HG.out (HXC.out.trans (ext_box _ _ _)) _ 1 [.slice (some ⟨b2, 0, none⟩) 6 c2] [(dbT 3 0)] _ rfl rfl cells_one ((T2.out).ext (ext_box _ _ _)) (by simp [Apart]) (by simp) HX.out.size ?_)
  intro v3 A3 hg hgr hat
  have HX := Lib.hid (show Ext w A3 from ext_grownBy (HX.out.trans (HXC.out.trans ((Ext.refl _).alloc _))) hgr (fun k e => (HG.out.lt k e).1))
  have HG := Lib.hid hg
  clear hgr hat hg HXC T2 R2
  obtain ⟨g3, d3, rfl⟩ := HG.out.slice (by simp)
  go_wp2_with fail
  go_ret
  exact ⟨_, rfl, HG.out, HX.out⟩

set_option maxRecDepth 100000 in
set_option maxHeartbeats 1000000 in
theorem l10Named_ten (w : World) : Calls Tryz.prog 60 #[.int .i64 10] w (NewD (namedL 10) w) := by
  go_enter Tryz.func60, Tryz.ntmps60
  go_wp2_with fail
  refine (cyc_call 10 (by omega) (by omega) _).mono ?_
  rintro e w1 ⟨b1, c1, rfl, ho, hx⟩
  have z1 := hx.size
  have HG := Lib.hid (GrowD.oneN (e := 24) (c := c1) (n := 10) ho (small_cyT (n := 10) (by omega)) (Nat.le_refl _) (Nat.le_refl _) hx.size (length_cyT 10))
  have HX := Lib.hid (hx.alloc (.cells #[.slice (some ⟨b1, 0, none⟩) 10 c1] 24))
  clear ho hx
  go_wp2_with fail
  generalize (w1.alloc (.cells #[.slice (some ⟨b1, 0, none⟩) 10 c1] 24)) = A at *
  have HXC := Lib.hid (Ext.refl A)
  refine (dbl_call 5 0 (by omega) (by omega) (by omega) _).mono ?_
  rintro e w2 ⟨b2, c2, rfl, ho, hx⟩
  have z2 := hx.size
  have HXC := Lib.hid (HXC.out.trans hx)
  have T2 := Lib.hid (TabsV.oneN (base := A.heap.size) (c := c2) (n := 10) ho (small_dbT (n := 5) (s := 0) (by omega)) (by omega) (Nat.le_refl _) (length_dbT 5 0))
  have R2 := Lib.hid (ho.rowsN (c := c2) (n := 10) (small_dbT (n := 5) (s := 0) (by omega)) (length_dbT 5 0))
  clear ho hx
  go_wp2_with (at_builtin; refine wpList_append_tabs rfl _ _ 56 24 rfl Tryz.underlying56 infoSl2 rfl w.heap.size _ _ rfl HG.out (HXC.out.trans (ext_box _ _ _)) _ 1 [.slice (some ⟨b2, 0, none⟩) 10 c2] [(dbT 5 0)] _ rfl rfl cells_one ((T2.out).ext (ext_box _ _ _)) (by simp [Apart]) (by simp) HX.out.size ?_)
  intro v3 A3 hg hgr hat
  have HX := Lib.hid (show Ext w A3 from ext_grownBy (HX.out.trans (HXC.out.trans ((Ext.refl _).alloc _))) hgr (fun k e => (HG.out.lt k e).1))
  have HG := Lib.hid hg
  clear hgr hat hg HXC T2 R2
  obtain ⟨g3, d3, rfl⟩ := HG.out.slice (by simp)
  go_wp2_with fail
  go_ret
  exact ⟨_, rfl, HG.out, HX.out⟩

set_option maxRecDepth 100000 in
set_option maxHeartbeats 1000000 in
theorem l10Named_nine (w : World) : Calls Tryz.prog 60 #[.int .i64 9] w (NewD (namedL 9) w) := by
  go_enter Tryz.func60, Tryz.ntmps60
  go_wp2_with fail
  refine (cyc_call 9 (by omega) (by omega) _).mono ?_
  rintro e w1 ⟨b1, c1, rfl, ho, hx⟩
  have z1 := hx.size
  have HG := Lib.hid (GrowD.oneN (e := 24) (c := c1) (n := 9) ho (small_cyT (n := 9) (by omega)) (Nat.le_refl _) (Nat.le_refl _) hx.size (length_cyT 9))
  have HX := Lib.hid (hx.alloc (.cells #[.slice (some ⟨b1, 0, none⟩) 9 c1] 24))
  clear ho hx
  go_wp2_with fail
  generalize (w1.alloc (.cells #[.slice (some ⟨b1, 0, none⟩) 9 c1] 24)) = A at *
  have HXC := Lib.hid (Ext.refl A)
  refine (cyc_call 3 (by omega) (by omega) _).mono ?_
  rintro e w2 ⟨b2, c2, rfl, ho, hx⟩
  have z2 := hx.size
  have HXC := Lib.hid (HXC.out.trans hx)
  have T2 := Lib.hid (TabsV.oneN (base := A.heap.size) (c := c2) (n := 3) ho (small_cyT (n := 3) (by omega)) (by omega) (Nat.le_refl _) (length_cyT 3))
  have R2 := Lib.hid (ho.rowsN (c := c2) (n := 3) (small_cyT (n := 3) (by omega)) (length_cyT 3))
  clear ho hx
  go_wp2_with fail
  refine (cyc_call 3 (by omega) (by omega) _).mono ?_
  rintro e w3 ⟨b3, c3, rfl, ho, hx⟩
  have z3 := hx.size
  have HXC := Lib.hid (HXC.out.trans hx)
  have T2 := Lib.hid (T2.out.ext hx)
  have R2 := Lib.hid (R2.out.ext hx)
  have T3 := Lib.hid (TabsV.oneN (base := A.heap.size) (c := c3) (n := 3) ho (small_cyT (n := 3) (by omega)) (by omega) (Nat.le_refl _) (length_cyT 3))
  have R3 := Lib.hid (ho.rowsN (c := c3) (n := 3) (small_cyT (n := 3) (by omega)) (length_cyT 3))
  clear ho hx
  go_wp2_with fail
  refine (prod_call (cyT 3) (cyT 3) 3 3 9 _ _ cy3_ok cy3_ok (by simp [length_prodT, length_cyT]) (by simp [length_prodT, length_cyT]) rfl (by omega) _ R2.out R3.out).mono ?_
  rintro e w4 ⟨b4, c4, rfl, ho, hx⟩
  have z4 := hx.size
  have HXC := Lib.hid (HXC.out.trans hx)
  have T2 := Lib.hid (T2.out.ext hx)
  have T3 := Lib.hid (T3.out.ext hx)
  have R2 := Lib.hid (R2.out.ext hx)
  have R3 := Lib.hid (R3.out.ext hx)
  have T4 := Lib.hid (TabsV.oneN (base := A.heap.size) (c := c4) (n := 9) ho (small_prodT (by simp [length_prodT, length_cyT])) (by omega) (Nat.le_refl _) (by simp [length_prodT, length_cyT]))
  have R4 := Lib.hid (ho.rowsN (c := c4) (n := 9) (small_prodT (by simp [length_prodT, length_cyT])) (by simp [length_prodT, length_cyT]))
  clear ho hx
  go_wp2_with (at_builtin; refine wpList_append_tabs rfl _ _ 56 24 rfl Tryz.underlying56 infoSl2 rfl w.heap.size _ _ rfl HG.out (HXC.out.trans (ext_box _ _ _)) _ 1 [.slice (some ⟨b4, 0, none⟩) 9 c4] [(prodT (cyT 3) (cyT 3))] _ rfl rfl cells_one ((T4.out).ext (ext_box _ _ _)) (by simp [Apart]) (by simp) HX.out.size ?_)
  intro v5 A5 hg hgr hat
  have HX := Lib.hid (show Ext w A5 from ext_grownBy (HX.out.trans (HXC.out.trans ((Ext.refl _).alloc _))) hgr (fun k e => (HG.out.lt k e).1))
  have HG := Lib.hid hg
  clear hgr hat hg HXC T2 R2 T3 R3 T4 R4
  obtain ⟨g5, d5, rfl⟩ := HG.out.slice (by simp)
  go_wp2_with fail
  go_ret
  exact ⟨_, rfl, HG.out, HX.out⟩

set_option maxRecDepth 100000 in
set_option maxHeartbeats 1000000 in
theorem l10Named_eight (w : World) : Calls Tryz.prog 60 #[.int .i64 8] w (NewD (namedL 8) w) := by
  go_enter Tryz.func60, Tryz.ntmps60
  go_wp2_with fail
  refine (cyc_call 8 (by omega) (by omega) _).mono ?_
  rintro e w1 ⟨b1, c1, rfl, ho, hx⟩
  have z1 := hx.size
  have HG := Lib.hid (GrowD.oneN (e := 24) (c := c1) (n := 8) ho (small_cyT (n := 8) (by omega)) (Nat.le_refl _) (Nat.le_refl _) hx.size (length_cyT 8))
  have HX := Lib.hid (hx.alloc (.cells #[.slice (some ⟨b1, 0, none⟩) 8 c1] 24))
  clear ho hx
  go_wp2_with fail
  generalize (w1.alloc (.cells #[.slice (some ⟨b1, 0, none⟩) 8 c1] 24)) = A at *
  have HXC := Lib.hid (Ext.refl A)
  refine (cyc_call 2 (by omega) (by omega) _).mono ?_
  rintro e w2 ⟨b2, c2, rfl, ho, hx⟩
  have z2 := hx.size
  have HXC := Lib.hid (HXC.out.trans hx)
  have T2 := Lib.hid (TabsV.oneN (base := A.heap.size) (c := c2) (n := 2) ho (small_cyT (n := 2) (by omega)) (by omega) (Nat.le_refl _) (length_cyT 2))
  have R2 := Lib.hid (ho.rowsN (c := c2) (n := 2) (small_cyT (n := 2) (by omega)) (length_cyT 2))
  clear ho hx
  go_wp2_with fail
  refine (cyc_call 2 (by omega) (by omega) _).mono ?_
  rintro e w3 ⟨b3, c3, rfl, ho, hx⟩
  have z3 := hx.size
  have HXC := Lib.hid (HXC.out.trans hx)
  have T2 := Lib.hid (T2.out.ext hx)
  have R2 := Lib.hid (R2.out.ext hx)
  have T3 := Lib.hid (TabsV.oneN (base := A.heap.size) (c := c3) (n := 2) ho (small_cyT (n := 2) (by omega)) (by omega) (Nat.le_refl _) (length_cyT 2))
  have R3 := Lib.hid (ho.rowsN (c := c3) (n := 2) (small_cyT (n := 2) (by omega)) (length_cyT 2))
  clear ho hx
  go_wp2_with fail
  refine (prod_call (cyT 2) (cyT 2) 2 2 4 _ _ cy2_ok cy2_ok (by simp [length_prodT, length_cyT]) (by simp [length_prodT, length_cyT]) rfl (by omega) _ R2.out R3.out).mono ?_
  rintro e w4 ⟨b4, c4, rfl, ho, hx⟩
  have z4 := hx.size
  have HXC := Lib.hid (HXC.out.trans hx)
  have T2 := Lib.hid (T2.out.ext hx)
  have T3 := Lib.hid (T3.out.ext hx)
  have R2 := Lib.hid (R2.out.ext hx)
  have R3 := Lib.hid (R3.out.ext hx)
  have T4 := Lib.hid (TabsV.oneN (base := A.heap.size) (c := c4) (n := 4) ho (small_prodT (by simp [length_prodT, length_cyT])) (by omega) (Nat.le_refl _) (by simp [length_prodT, length_cyT]))
  have R4 := Lib.hid (ho.rowsN (c := c4) (n := 4) (small_prodT (by simp [length_prodT, length_cyT])) (by simp [length_prodT, length_cyT]))
  clear ho hx
  go_wp2_with fail
  refine (cyc_call 2 (by omega) (by omega) _).mono ?_
  rintro e w5 ⟨b5, c5, rfl, ho, hx⟩
  have z5 := hx.size
  have HXC := Lib.hid (HXC.out.trans hx)
  have T2 := Lib.hid (T2.out.ext hx)
  have T3 := Lib.hid (T3.out.ext hx)
  have T4 := Lib.hid (T4.out.ext hx)
  have R2 := Lib.hid (R2.out.ext hx)
  have R3 := Lib.hid (R3.out.ext hx)
  have R4 := Lib.hid (R4.out.ext hx)
  have T5 := Lib.hid (TabsV.oneN (base := A.heap.size) (c := c5) (n := 2) ho (small_cyT (n := 2) (by omega)) (by omega) (Nat.le_refl _) (length_cyT 2))
  have R5 := Lib.hid (ho.rowsN (c := c5) (n := 2) (small_cyT (n := 2) (by omega)) (length_cyT 2))
  clear ho hx
  go_wp2_with fail
  refine (cyc_call 4 (by omega) (by omega) _).mono ?_
  rintro e w6 ⟨b6, c6, rfl, ho, hx⟩
  have z6 := hx.size
  have HXC := Lib.hid (HXC.out.trans hx)
  have T2 := Lib.hid (T2.out.ext hx)
  have T3 := Lib.hid (T3.out.ext hx)
  have T4 := Lib.hid (T4.out.ext hx)
  have T5 := Lib.hid (T5.out.ext hx)
  have R2 := Lib.hid (R2.out.ext hx)
  have R3 := Lib.hid (R3.out.ext hx)
  have R4 := Lib.hid (R4.out.ext hx)
  have R5 := Lib.hid (R5.out.ext hx)
  have T6 := Lib.hid (TabsV.oneN (base := A.heap.size) (c := c6) (n := 4) ho (small_cyT (n := 4) (by omega)) (by omega) (Nat.le_refl _) (length_cyT 4))
  have R6 := Lib.hid (ho.rowsN (c := c6) (n := 4) (small_cyT (n := 4) (by omega)) (length_cyT 4))
  clear ho hx
  go_wp2_with fail
  refine (prod_call (cyT 2) (cyT 4) 2 4 8 _ _ cy2_ok cy4_ok (by simp [length_prodT, length_cyT]) (by simp [length_prodT, length_cyT]) rfl (by omega) _ R5.out R6.out).mono ?_
  rintro e w7 ⟨b7, c7, rfl, ho, hx⟩
  have z7 := hx.size
  have HXC := Lib.hid (HXC.out.trans hx)
  have T2 := Lib.hid (T2.out.ext hx)
  have T3 := Lib.hid (T3.out.ext hx)
  have T4 := Lib.hid (T4.out.ext hx)
  have T5 := Lib.hid (T5.out.ext hx)
  have T6 := Lib.hid (T6.out.ext hx)
  have R2 := Lib.hid (R2.out.ext hx)
  have R3 := Lib.hid (R3.out.ext hx)
  have R4 := Lib.hid (R4.out.ext hx)
  have R5 := Lib.hid (R5.out.ext hx)
  have R6 := Lib.hid (R6.out.ext hx)
  have T7 := Lib.hid (TabsV.oneN (base := A.heap.size) (c := c7) (n := 8) ho (small_prodT (by simp [length_prodT, length_cyT])) (by omega) (Nat.le_refl _) (by simp [length_prodT, length_cyT]))
  have R7 := Lib.hid (ho.rowsN (c := c7) (n := 8) (small_prodT (by simp [length_prodT, length_cyT])) (by simp [length_prodT, length_cyT]))
  clear ho hx
  go_wp2_with fail
  refine (cyc_call 2 (by omega) (by omega) _).mono ?_
  rintro e w8 ⟨b8, c8, rfl, ho, hx⟩
  have z8 := hx.size
  have HXC := Lib.hid (HXC.out.trans hx)
  have T2 := Lib.hid (T2.out.ext hx)
  have T3 := Lib.hid (T3.out.ext hx)
  have T4 := Lib.hid (T4.out.ext hx)
  have T5 := Lib.hid (T5.out.ext hx)
  have T6 := Lib.hid (T6.out.ext hx)
  have T7 := Lib.hid (T7.out.ext hx)
  have R2 := Lib.hid (R2.out.ext hx)
  have R3 := Lib.hid (R3.out.ext hx)
  have R4 := Lib.hid (R4.out.ext hx)
  have R5 := Lib.hid (R5.out.ext hx)
  have R6 := Lib.hid (R6.out.ext hx)
  have R7 := Lib.hid (R7.out.ext hx)
  have T8 := Lib.hid (TabsV.oneN (base := A.heap.size) (c := c8) (n := 2) ho (small_cyT (n := 2) (by omega)) (by omega) (Nat.le_refl _) (length_cyT 2))
  have R8 := Lib.hid (ho.rowsN (c := c8) (n := 2) (small_cyT (n := 2) (by omega)) (length_cyT 2))
  clear ho hx
  go_wp2_with fail
  refine (prod_call (cyT 2) (prodT (cyT 2) (cyT 2)) 2 4 8 _ _ cy2_ok four_ok (by simp [length_prodT, length_cyT]) (by simp [length_prodT, length_cyT]) rfl (by omega) _ R8.out R4.out).mono ?_
  rintro e w9 ⟨b9, c9, rfl, ho, hx⟩
  have z9 := hx.size
  have HXC := Lib.hid (HXC.out.trans hx)
  have T2 := Lib.hid (T2.out.ext hx)
  have T3 := Lib.hid (T3.out.ext hx)
  have T4 := Lib.hid (T4.out.ext hx)
  have T5 := Lib.hid (T5.out.ext hx)
  have T6 := Lib.hid (T6.out.ext hx)
  have T7 := Lib.hid (T7.out.ext hx)
  have T8 := Lib.hid (T8.out.ext hx)
  have R2 := Lib.hid (R2.out.ext hx)
  have R3 := Lib.hid (R3.out.ext hx)
  have R4 := Lib.hid (R4.out.ext hx)
  have R5 := Lib.hid (R5.out.ext hx)
  have R6 := Lib.hid (R6.out.ext hx)
  have R7 := Lib.hid (R7.out.ext hx)
  have R8 := Lib.hid (R8.out.ext hx)
  have T9 := Lib.hid (TabsV.oneN (base := A.heap.size) (c := c9) (n := 8) ho (small_prodT (by simp [length_prodT, length_cyT])) (by omega) (Nat.le_refl _) (by simp [length_prodT, length_cyT]))
  have R9 := Lib.hid (ho.rowsN (c := c9) (n := 8) (small_prodT (by simp [length_prodT, length_cyT])) (by simp [length_prodT, length_cyT]))
  clear ho hx
  go_wp2_with (at_builtin; refine wpList_append_tabs rfl _ _ 56 24 rfl Tryz.underlying56 infoSl2 rfl w.heap.size _ _ rfl HG.out (HXC.out.trans ((Ext.refl _).alloc _)) _ 2 [.slice (some ⟨b7, 0, none⟩) 8 c7, .slice (some ⟨b9, 0, none⟩) 8 c9] [(prodT (cyT 2) (cyT 4)), (prodT (cyT 2) (prodT (cyT 2) (cyT 2)))] _ rfl rfl cells_two (((TabsV.append (T7.out) T9.out)).ext ((Ext.refl _).alloc _)) (by simp [Apart]; omega) (by simp) HX.out.size ?_)
  intro v10 A10 hg hgr hat
  have HX := Lib.hid (show Ext w A10 from ext_grownBy (HX.out.trans (HXC.out.trans ((Ext.refl _).alloc _))) hgr (fun k e => (HG.out.lt k e).1))
  have HG := Lib.hid hg
  clear hgr hat hg HXC T2 R2 T3 R3 T4 R4 T5 R5 T6 R6 T7 R7 T8 R8 T9 R9
  obtain ⟨g10, d10, rfl⟩ := HG.out.slice (by simp)
  go_wp2_with fail
  obtain ⟨A, hA⟩ : ∃ A, A = A10 := ⟨_, rfl⟩
  rw [← hA] at HG HX
  rw [← hA]
  clear hA
  have HXC := Lib.hid (Ext.refl A)
  refine (dbl_call 4 0 (by omega) (by omega) (by omega) _).mono ?_
  rintro e w11 ⟨b11, c11, rfl, ho, hx⟩
  have z11 := hx.size
  have HXC := Lib.hid (HXC.out.trans hx)
  have T11 := Lib.hid (TabsV.oneN (base := A.heap.size) (c := c11) (n := 8) ho (small_dbT (n := 4) (s := 0) (by omega)) (by omega) (Nat.le_refl _) (length_dbT 4 0))
  have R11 := Lib.hid (ho.rowsN (c := c11) (n := 8) (small_dbT (n := 4) (s := 0) (by omega)) (length_dbT 4 0))
  clear ho hx
  go_wp2_with (at_builtin; refine wpList_append_tabs rfl _ _ 56 24 rfl Tryz.underlying56 infoSl2 rfl w.heap.size _ _ rfl HG.out (HXC.out.trans (ext_box _ _ _)) _ 1 [.slice (some ⟨b11, 0, none⟩) 8 c11] [(dbT 4 0)] _ rfl rfl cells_one ((T11.out).ext (ext_box _ _ _)) (by simp [Apart]) (by simp) HX.out.size ?_)
  intro v12 A12 hg hgr hat
  have HX := Lib.hid (show Ext w A12 from ext_grownBy (HX.out.trans (HXC.out.trans ((Ext.refl _).alloc _))) hgr (fun k e => (HG.out.lt k e).1))
  have HG := Lib.hid hg
  clear hgr hat hg HXC T11 R11
  obtain ⟨g12, d12, rfl⟩ := HG.out.slice (by simp)
  go_wp2_with fail
  obtain ⟨A, hA⟩ : ∃ A, A = A12 := ⟨_, rfl⟩
  rw [← hA] at HG HX
  rw [← hA]
  clear hA
  have HXC := Lib.hid (Ext.refl A)
  refine (dbl_call 4 2 (by omega) (by omega) (by omega) _).mono ?_
  rintro e w13 ⟨b13, c13, rfl, ho, hx⟩
  have z13 := hx.size
  have HXC := Lib.hid (HXC.out.trans hx)
  have T13 := Lib.hid (TabsV.oneN (base := A.heap.size) (c := c13) (n := 8) ho (small_dbT (n := 4) (s := 2) (by omega)) (by omega) (Nat.le_refl _) (length_dbT 4 2))
  have R13 := Lib.hid (ho.rowsN (c := c13) (n := 8) (small_dbT (n := 4) (s := 2) (by omega)) (length_dbT 4 2))
  clear ho hx
  go_wp2_with (at_builtin; refine wpList_append_tabs rfl _ _ 56 24 rfl Tryz.underlying56 infoSl2 rfl w.heap.size _ _ rfl HG.out (HXC.out.trans (ext_box _ _ _)) _ 1 [.slice (some ⟨b13, 0, none⟩) 8 c13] [(dbT 4 2)] _ rfl rfl cells_one ((T13.out).ext (ext_box _ _ _)) (by simp [Apart]) (by simp) HX.out.size ?_)
  intro v14 A14 hg hgr hat
  have HX := Lib.hid (show Ext w A14 from ext_grownBy (HX.out.trans (HXC.out.trans ((Ext.refl _).alloc _))) hgr (fun k e => (HG.out.lt k e).1))
  have HG := Lib.hid hg
  clear hgr hat hg HXC T13 R13
  obtain ⟨g14, d14, rfl⟩ := HG.out.slice (by simp)
  go_wp2_with fail
  go_ret
  exact ⟨_, rfl, HG.out, HX.out⟩
end Go.Proofs.YthlafeefjonkdaaGreatDoor


namespace Go.Proofs.YthlafeefjonkdaaGreatDoor
set_option linter.unusedVariables false
set_option linter.unusedSimpArgs false
open Go.RowKit
attribute [local go_sem ↓] Go.wp_at_zero Go.wp_at_succ
open Go.Deep

theorem cells_oneN {w : World} {x : Value} {t : TypeId} {g : Nat} (hg : g = w.heap.size) : ∀ j u, [x][j]? = some u → (w.alloc (.cells #[x] t)).cell? ⟨g, j, none⟩ = some u := by
  subst hg
  exact cells_one

set_option maxRecDepth 100000 in
set_option maxHeartbeats 1000000 in
theorem l10Named_twelve (w : World) : Calls Tryz.prog 60 #[.int .i64 12] w (NewD (namedL 12) w) := by
  go_enter Tryz.func60, Tryz.ntmps60
  go_wp2_with fail
  refine (cyc_call 12 (by omega) (by omega) _).mono ?_
  rintro e w1 ⟨b1, c1, rfl, ho, hx⟩
  have z1 := hx.size
  have HG := Lib.hid (GrowD.oneN (e := 24) (c := c1) (n := 12) ho (small_cyT (n := 12) (by omega)) (Nat.le_refl _) (Nat.le_refl _) hx.size (length_cyT 12))
  have HX := Lib.hid (hx.alloc (.cells #[.slice (some ⟨b1, 0, none⟩) 12 c1] 24))
  clear ho hx
  go_wp2_with fail
  generalize (w1.alloc (.cells #[.slice (some ⟨b1, 0, none⟩) 12 c1] 24)) = A at *
  have HXC := Lib.hid (Ext.refl A)
  refine (cyc_call 2 (by omega) (by omega) _).mono ?_
  rintro e w2 ⟨b2, c2, rfl, ho, hx⟩
  have z2 := hx.size
  have HXC := Lib.hid (HXC.out.trans hx)
  have T2 := Lib.hid (TabsV.oneN (base := A.heap.size) (c := c2) (n := 2) ho (small_cyT (n := 2) (by omega)) (by omega) (Nat.le_refl _) (length_cyT 2))
  have R2 := Lib.hid (ho.rowsN (c := c2) (n := 2) (small_cyT (n := 2) (by omega)) (length_cyT 2))
  clear ho hx
  go_wp2_with fail
  refine (cyc_call 6 (by omega) (by omega) _).mono ?_
  rintro e w3 ⟨b3, c3, rfl, ho, hx⟩
  have z3 := hx.size
  have HXC := Lib.hid (HXC.out.trans hx)
  have T2 := Lib.hid (T2.out.ext hx)
  have R2 := Lib.hid (R2.out.ext hx)
  have T3 := Lib.hid (TabsV.oneN (base := A.heap.size) (c := c3) (n := 6) ho (small_cyT (n := 6) (by omega)) (by omega) (Nat.le_refl _) (length_cyT 6))
  have R3 := Lib.hid (ho.rowsN (c := c3) (n := 6) (small_cyT (n := 6) (by omega)) (length_cyT 6))
  clear ho hx
  go_wp2_with fail
  refine (prod_call (cyT 2) (cyT 6) 2 6 12 _ _ cy2_ok cy6_ok (by simp [length_prodT, length_cyT]) (by simp [length_prodT, length_cyT]) rfl (by omega) _ R2.out R3.out).mono ?_
  rintro e w4 ⟨b4, c4, rfl, ho, hx⟩
  have z4 := hx.size
  have HXC := Lib.hid (HXC.out.trans hx)
  have T2 := Lib.hid (T2.out.ext hx)
  have T3 := Lib.hid (T3.out.ext hx)
  have R2 := Lib.hid (R2.out.ext hx)
  have R3 := Lib.hid (R3.out.ext hx)
  have T4 := Lib.hid (TabsV.oneN (base := A.heap.size) (c := c4) (n := 12) ho (small_prodT (by simp [length_prodT, length_cyT])) (by omega) (Nat.le_refl _) (by simp [length_prodT, length_cyT]))
  have R4 := Lib.hid (ho.rowsN (c := c4) (n := 12) (small_prodT (by simp [length_prodT, length_cyT])) (by simp [length_prodT, length_cyT]))
  clear ho hx
  go_wp2_with (at_builtin; refine wpList_append_tabs rfl _ _ 56 24 rfl Tryz.underlying56 infoSl2 rfl w.heap.size _ _ rfl HG.out (HXC.out.trans (ext_box _ _ _)) _ 1 [.slice (some ⟨b4, 0, none⟩) 12 c4] [(prodT (cyT 2) (cyT 6))] _ rfl rfl cells_one ((T4.out).ext (ext_box _ _ _)) (by simp [Apart]) (by simp) HX.out.size ?_)
  intro v5 A5 hg hgr hat
  have HX := Lib.hid (show Ext w A5 from ext_grownBy (HX.out.trans (HXC.out.trans ((Ext.refl _).alloc _))) hgr (fun k e => (HG.out.lt k e).1))
  have HG := Lib.hid hg
  clear hgr hat hg HXC T2 R2 T3 R3 T4 R4
  obtain ⟨g5, d5, rfl⟩ := HG.out.slice (by simp)
  go_wp2_with fail
  obtain ⟨A, hA⟩ : ∃ A, A = A5 := ⟨_, rfl⟩
  rw [← hA] at HG HX
  rw [← hA]
  clear hA
  have HXC := Lib.hid (Ext.refl A)
  refine (dbl_call 6 0 (by omega) (by omega) (by omega) _).mono ?_
  rintro e w6 ⟨b6, c6, rfl, ho, hx⟩
  have z6 := hx.size
  have HXC := Lib.hid (HXC.out.trans hx)
  have T6 := Lib.hid (TabsV.oneN (base := A.heap.size) (c := c6) (n := 12) ho (small_dbT (n := 6) (s := 0) (by omega)) (by omega) (Nat.le_refl _) (length_dbT 6 0))
  have R6 := Lib.hid (ho.rowsN (c := c6) (n := 12) (small_dbT (n := 6) (s := 0) (by omega)) (length_dbT 6 0))
  clear ho hx
  go_wp2_with (at_builtin; refine wpList_append_tabs rfl _ _ 56 24 rfl Tryz.underlying56 infoSl2 rfl w.heap.size _ _ rfl HG.out (HXC.out.trans (ext_box _ _ _)) _ 1 [.slice (some ⟨b6, 0, none⟩) 12 c6] [(dbT 6 0)] _ rfl rfl cells_one ((T6.out).ext (ext_box _ _ _)) (by simp [Apart]) (by simp) HX.out.size ?_)
  intro v7 A7 hg hgr hat
  have HX := Lib.hid (show Ext w A7 from ext_grownBy (HX.out.trans (HXC.out.trans ((Ext.refl _).alloc _))) hgr (fun k e => (HG.out.lt k e).1))
  have HG := Lib.hid hg
  clear hgr hat hg HXC T6 R6
  obtain ⟨g7, d7, rfl⟩ := HG.out.slice (by simp)
  go_wp2_with fail
  obtain ⟨A, hA⟩ : ∃ A, A = A7 := ⟨_, rfl⟩
  rw [← hA] at HG HX
  rw [← hA]
  clear hA
  have HXC := Lib.hid (Ext.refl A)
  refine (dbl_call 6 3 (by omega) (by omega) (by omega) _).mono ?_
  rintro e w8 ⟨b8, c8, rfl, ho, hx⟩
  have z8 := hx.size
  have HXC := Lib.hid (HXC.out.trans hx)
  have T8 := Lib.hid (TabsV.oneN (base := A.heap.size) (c := c8) (n := 12) ho (small_dbT (n := 6) (s := 3) (by omega)) (by omega) (Nat.le_refl _) (length_dbT 6 3))
  have R8 := Lib.hid (ho.rowsN (c := c8) (n := 12) (small_dbT (n := 6) (s := 3) (by omega)) (length_dbT 6 3))
  clear ho hx
  go_wp2_with (at_builtin; refine wpList_append_tabs rfl _ _ 56 24 rfl Tryz.underlying56 infoSl2 rfl w.heap.size _ _ rfl HG.out (HXC.out.trans (ext_box _ _ _)) _ 1 [.slice (some ⟨b8, 0, none⟩) 12 c8] [(dbT 6 3)] _ rfl rfl cells_one ((T8.out).ext (ext_box _ _ _)) (by simp [Apart]) (by simp) HX.out.size ?_)
  intro v9 A9 hg hgr hat
  have HX := Lib.hid (show Ext w A9 from ext_grownBy (HX.out.trans (HXC.out.trans ((Ext.refl _).alloc _))) hgr (fun k e => (HG.out.lt k e).1))
  have HG := Lib.hid hg
  clear hgr hat hg HXC T8 R8
  obtain ⟨g9, d9, rfl⟩ := HG.out.slice (by simp)
  go_wp2_with fail
  obtain ⟨A, hA⟩ : ∃ A, A = A9 := ⟨_, rfl⟩
  rw [← hA] at HG HX
  rw [← hA]
  clear hA
  have HXC := Lib.hid (Ext.refl A)
  have hxe : Ext A (((A.alloc (.cells #[.int .i64 1, .int .i64 2, .int .i64 0, .int .i64 3] 2)).alloc (.cells #[.int .i64 0, .int .i64 2, .int .i64 3, .int .i64 1] 2)).alloc (.cells #[.slice (some ⟨A.heap.size, 0, none⟩) 4 4, .slice (some ⟨A.heap.size + 1, 0, none⟩) 4 4] 29)) := even_ext A
  have hre : Rows (((A.alloc (.cells #[.int .i64 1, .int .i64 2, .int .i64 0, .int .i64 3] 2)).alloc (.cells #[.int .i64 0, .int .i64 2, .int .i64 3, .int .i64 1] 2)).alloc (.cells #[.slice (some ⟨A.heap.size, 0, none⟩) 4 4, .slice (some ⟨A.heap.size + 1, 0, none⟩) 4 4] 29)) (.slice (some ⟨A.heap.size + 1 + 1, 0, none⟩) 2 2) evenE := even_rows A
  generalize (((A.alloc (.cells #[.int .i64 1, .int .i64 2, .int .i64 0, .int .i64 3] 2)).alloc (.cells #[.int .i64 0, .int .i64 2, .int .i64 3, .int .i64 1] 2)).alloc (.cells #[.slice (some ⟨A.heap.size, 0, none⟩) 4 4, .slice (some ⟨A.heap.size + 1, 0, none⟩) 4 4] 29)) = E at *
  have zE := hxe.size
  have HXC := Lib.hid hxe
  clear hxe
  refine (GroupOfPermutations_own 4 evenE _ _ hre even_sys (by rw [even_len]; omega)).mono ?_
  rintro e w10 ⟨b10, c10, rfl, ho, hx⟩
  rw [length_even]
  have z10 := hx.size
  have HXC := Lib.hid ((HXC.out.trans hx).alloc (.cells #[.slice (some ⟨b10, 0, none⟩) 12 c10] 42))
  have T10 := Lib.hid ((TabsV.oneN (base := A.heap.size) (c := c10) (n := 12) ho small_even (by omega) (Nat.le_refl _) length_even).ext ((Ext.refl w10).alloc (.cells #[.slice (some ⟨b10, 0, none⟩) 12 c10] 42)))
  have R10 := T10
  clear ho hx hre
  have hcl := cell_new w10 (.slice (some ⟨b10, 0, none⟩) 12 c10) 42
  go_wp2_with (at_builtin; refine wpList_append_tabs rfl _ _ 56 24 rfl Tryz.underlying56 infoSl2 rfl w.heap.size _ _ rfl HG.out (HXC.out.trans (ext_box _ _ _)) _ 1 [.slice (some ⟨b10, 0, none⟩) 12 c10] [(gopV ((4 : Nat) : Int) evenE)] _ rfl rfl (cells_oneN (by simp)) ((T10.out).ext (ext_box _ _ _)) (by simp [Apart]) (by simp) HX.out.size ?_)
  intro v11 A11 hg hgr hat
  have HX := Lib.hid (show Ext w A11 from ext_grownBy (HX.out.trans (HXC.out.trans ((Ext.refl _).alloc _))) hgr (fun k e => (HG.out.lt k e).1))
  have HG := Lib.hid hg
  clear hgr hat hg HXC T10 R10
  obtain ⟨g11, d11, rfl⟩ := HG.out.slice (by simp)
  go_wp2_with fail
  go_ret
  exact ⟨_, rfl, HG.out, HX.out⟩

theorem l10Named_any (n : Nat) (h1 : 1 ≤ n) (h12 : n ≤ 12) (w : World) : Calls Tryz.prog 60 #[.int .i64 n] w (NewD (namedL n) w) := by
  have h : (n = 1 ∨ n = 2 ∨ n = 3 ∨ n = 5 ∨ n = 7 ∨ n = 11) ∨ n = 4 ∨ n = 6 ∨ n = 8 ∨ n = 9 ∨ n = 10 ∨ n = 12 := by omega
  rcases h with h | rfl | rfl | rfl | rfl | rfl | rfl
  · exact l10Named_plain n w h
  · exact l10Named_four w
  · exact l10Named_six w
  · exact l10Named_eight w
  · exact l10Named_nine w
  · exact l10Named_ten w
  · exact l10Named_twelve w
end Go.Proofs.YthlafeefjonkdaaGreatDoor


namespace Go.Proofs.YthlafeefjonkdaaGreatDoor
set_option linter.unusedVariables false
set_option linter.unusedSimpArgs false
open Go.RowKit
attribute [local go_sem ↓] Go.wp_at_zero Go.wp_at_succ


/-! ### the reference -/
set_option maxRecDepth 100000 in
set_option maxHeartbeats 2000000 in
theorem l11Ring_p (n m : Nat) (w : World) (h1 : 1 ≤ n) (h2 : n ≤ 12) (hm : m < n) :
    Calls Tryz.prog 58 #[.int .i64 n, .int .i64 m] w fun e w' => ∃ bF cF y hi, e = .returned (.agg #[.slice (some ⟨bF, 0, none⟩) n cF, y]) ∧ OwnT w.heap.size hi w' bF 0 (mkT n (cycF n)) ∧ RowsP (fun k => hi ≤ k) w' y (mkT n (ringF n m)) ∧ hi ≤ w'.heap.size ∧ Ext w w' := by
  have HLF := Lib.hid (length_mkT n (cycF n))
  have HLT := Lib.hid (length_mkT n (ringF n m))
  have hX : Ext w (w.alloc (.cells #[.slice none 0 0, .slice none 0 0] 26)) := (Ext.refl _).alloc _
  have r0 : (w.alloc (.cells #[.slice none 0 0, .slice none 0 0] 26)).cell? ⟨w.heap.size, 0, none⟩ = some (.slice none 0 0) := by simp [go_sem]
  have r1 : (w.alloc (.cells #[.slice none 0 0, .slice none 0 0] 26)).cell? ⟨w.heap.size, 1, none⟩ = some (.slice none 0 0) := by simp [go_sem]
  have q0 : (w.alloc (.cells #[.slice none 0 0, .slice none 0 0] 26)).frozen? ⟨w.heap.size, 0, none⟩ = false := by simp [go_sem]
  have q1 : (w.alloc (.cells #[.slice none 0 0, .slice none 0 0] 26)).frozen? ⟨w.heap.size, 1, none⟩ = false := by simp [go_sem]
  have zA : w.heap.size + 1 ≤ (w.alloc (.cells #[.slice none 0 0, .slice none 0 0] 26)).heap.size := by simp
  go_enter Tryz.func58, Tryz.ntmps58
  go_wp2_with fail
  generalize (w.alloc (.cells #[.slice none 0 0, .slice none 0 0] 26)) = A at *
  refine (l10Cyclic_own n _ h1 h2).mono ?_
  rintro e w1 ⟨bF, cF, rfl, hrF, hx⟩
  rw [HLF.out]
  have zq : w.heap.size + 1 ≤ A.heap.size := zA
  have zz := Ext.size hx
  replace q0 := hx.free q0 (by simp only []; omega)
  replace q1 := hx.free q1 (by simp only []; omega)
  replace zA := Nat.le_trans zA zz
  replace hX := hX.trans hx
  replace r0 := hx.cell r0
  replace r1 := hx.cell r1
  clear hx zz
  have hxB : Ext w1 (w1.alloc (.cells #[.slice (some ⟨bF, 0, none⟩) n cF, .slice none 0 0] 26)) := (Ext.refl _).alloc _
  have bF0 : (w1.alloc (.cells #[.slice (some ⟨bF, 0, none⟩) n cF, .slice none 0 0] 26)).cell? ⟨w1.heap.size, 0, none⟩ = some (.slice (some ⟨bF, 0, none⟩) n cF) := by simp [go_sem]
  have bv0 : (w1.alloc (.cells #[.slice (some ⟨bF, 0, none⟩) n cF, .slice none 0 0] 26)).cell? ⟨w1.heap.size, 1, none⟩ = some (.slice none 0 0) := by simp [go_sem]
  have qv0 : (w1.alloc (.cells #[.slice (some ⟨bF, 0, none⟩) n cF, .slice none 0 0] 26)).frozen? ⟨w1.heap.size, 1, none⟩ = false := by simp [go_sem]
  have zB : w1.heap.size < (w1.alloc (.cells #[.slice (some ⟨bF, 0, none⟩) n cF, .slice none 0 0] 26)).heap.size := by simp
  have gB := GrowP.nil 29 (w1.alloc (.cells #[.slice (some ⟨bF, 0, none⟩) n cF, .slice none 0 0] 26)).heap.size (w1.alloc (.cells #[.slice (some ⟨bF, 0, none⟩) n cF, .slice none 0 0] 26))
  go_wp2
  generalize (w1.alloc (.cells #[.slice (some ⟨bF, 0, none⟩) n cF, .slice none 0 0] 26)) = B at *
  go_loopw [6] (fun x wr => ∃ k : Nat, k ≤ n ∧ x = .int .i64 k ∧ ∃ v, wr.cell? ⟨w1.heap.size, 1, none⟩ = some v ∧ wr.cell? ⟨w1.heap.size, 0, none⟩ = some (.slice (some ⟨bF, 0, none⟩) n cF) ∧ GrowP 29 B.heap.size wr v ((mkT n (ringF n m)).take k) ∧ wr.frozen? ⟨w1.heap.size, 1, none⟩ = false ∧ Ext w1 wr ∧ B.heap.size ≤ wr.heap.size) (fun x _ => n - (intOf x).toNat)
  case atStart => exact ⟨0, Nat.zero_le _, rfl, _, bv0, bF0, gB, qv0, hxB, Nat.le_refl _⟩
  case round =>
    clear bv0 qv0 gB bF0 hxB
    obtain ⟨k, hk, rfl, v, bv, bF1, hg, qv, hx, zr⟩ := hrel
    obtain ⟨sa, sc, rfl⟩ := hg.slice
    have htl : ((mkT n (ringF n m)).take k).length = k := by rw [List.length_take, HLT.out]; omega
    rw [htl] at hg bv
    have HTL := Lib.hid htl
    clear htl
    have g1 := hx.cell r0
    have g2 := hx.cell r1
    have p1 := hx.free q0 (by simp only []; omega)
    have p2 := hx.free q1 (by simp only []; omega)
    by_cases hkl : k < n
    case neg =>
      have hkk : k = n := by omega
      subst hkk
      have htk : (mkT k (ringF k m)).take k = (mkT k (ringF k m)) := List.take_of_length_le (by rw [HLT.out]; omega)
      rw [htk] at hg
      have hnn : (Value.slice sa k sc) ≠ .slice none 0 0 := by
        intro e
        simp only [Value.slice.injEq] at e
        omega
      have HNN := Lib.hid hnn
      clear hnn
      go_wp2
      refine bodyPost_ret (v := .agg #[.slice (some ⟨bF, 0, none⟩) k cF, .slice sa k sc]) (by simp [results, Tryz.results58, go_sem, g1, g2]) rfl ⟨_, _, _, w1.heap.size, rfl, ?_, ?_, ?_, ((hX.trans hx).setNew (by simp only []; omega) _).setNew (by simp only []; omega) _⟩
      · exact (((hrF.keep (w' := wr) fun k _ hk => hx.block k hk).setOther (a := ⟨w.heap.size, 0, none⟩) (.inl (by simp only []; omega)) _).setOther (a := ⟨w.heap.size, 1, none⟩) (.inl (by simp only []; omega)) _).mono (by omega) (Nat.le_refl _)
      · have h1 := (hg.setSl (a := ⟨w.heap.size, 0, none⟩) g1 (by simp only []; omega) (.slice (some ⟨bF, 0, none⟩) k cF))
        exact (h1.setSl (a := ⟨w.heap.size, 1, none⟩) (kc_set2 (by simp) g2) (by simp only []; omega) (.slice sa k sc)).rowsP (by rw [HLT.out]; omega) HNN.out |>.weaken (fun k hk => by omega)
      · simp; have := hx.size; omega
    case pos =>
      obtain ⟨w2, rfl⟩ : ∃ w2 : World, w2 = wr := ⟨_, rfl⟩
      go_wp2
      have hxa : Ext w2 (w2.alloc (.cells #[] 2)) := (Ext.refl _).alloc _
      have hi0 := GrowI.lit (e := 2) (base := w2.heap.size) (w := w2) (Nat.le_refl _)
      have HRL := Lib.hid (show (row (mkT n (ringF n m)) k).length = n by rw [row_mkT _ _ _ hkl, length_partRow])
      have HO := Lib.hid hg.lt
      go_loopw [7, 8] (fun v y wr => ∃ j : Nat, j ≤ n ∧ y = .int .i64 j ∧ GrowI 2 w2.heap.size wr v ((row (mkT n (ringF n m)) k).take j) ∧ v ≠ .slice none 0 0 ∧ Ext w2 wr) (fun _ y _ => n - (intOf y).toNat)
      case atStart => exact ⟨0, Nat.zero_le _, rfl, hi0, by simp, hxa⟩
      case round =>
        clear hxa hi0
        obtain ⟨j, hj, rfl, hi, hvr, hx2⟩ := hrel
        have HVR := Lib.hid hvr
        clear hvr
        have mF := hx2.cell bF1
        by_cases hjl : j < n
        case neg =>
          have hta : (row (mkT n (ringF n m)) k).take j = row (mkT n (ringF n m)) k := List.take_of_length_le (by rw [HRL.out]; omega)
          rw [hta] at hi
          obtain ⟨br, cr, rfl, hri, hrb, hrb2⟩ := hi.row HVR.out
          have hgw := hg.ext hx2
          have hne : some br ≠ (Value.slice sa k sc).ownBlock := fun e => by have := HO.out br e.symm; omega
          have bv2 := hx2.cell bv
          have qv2 := hx2.free qv (by simp only []; omega)
          clear hg
          go_wp2_with (at_builtin; refine wpList_append_row_p rfl _ _ 24 29 rfl Tryz.underlying24 infoSl B.heap.size _ _ rfl (hgw.ext (ext_box _ _ _)) _ br cr _ rfl (cell_new _ _ _) (hri.ext (ext_box _ _ _)) (by rw [HRL.out]; omega) (by omega) hne (by rw [HTL.out]; omega) (by have := hx.size; have := hx2.size; simp; omega) ?_)
          intro v' w3 hg3 hgr hv3
          have hx3 : Ext w1 w3 := Ext.grown ((hx.trans hx2).trans (ext_box _ _ _)) hgr (hgw.ext (ext_box _ _ _)).own.choose_spec (by omega)
          have hgr2 := hgr.size
          have bv3 : w3.cell? ⟨w1.heap.size, 1, none⟩ = some (Value.slice sa k sc) := by
            rw [hgr.cell_far _ (by simp; omega) (by intro e; have := HO.out _ e.symm; simp only [] at this; omega)]
            exact (ext_box _ _ _).cell bv2
          have bF3 : w3.cell? ⟨w1.heap.size, 0, none⟩ = some (.slice (some ⟨bF, 0, none⟩) n cF) := by
            rw [hgr.cell_far _ (by simp; omega) (by intro e; have := HO.out _ e.symm; simp only [] at this; omega)]
            exact (ext_box _ _ _).cell mF
          have qv3 : w3.frozen? ⟨w1.heap.size, 1, none⟩ = false := by
            rw [hgr.frozen_far _ (by simp; omega) (by intro e; have := HO.out _ e.symm; simp only [] at this; omega)]
            exact (ext_box _ _ _).free qv2 (by simp only []; have := hx2.size; omega)
          clear hgr hne hgw
          obtain ⟨a3, c3, rfl⟩ := hg3.slice
          have hl3 : ((mkT n (ringF n m)).take k ++ [row (mkT n (ringF n m)) k]).length = k + 1 := by rw [List.length_append, HTL.out]; rfl
          rw [hl3] at hg3 ⊢
          clear hl3 hv3
          go_wp2
          go_roundw
          case rel => exact ⟨k + 1, by omega, by go_num, _, World.cell?_setCell_same _ _ _ bv3, kc_set2 (by simp) bF3, by rw [take_row _ _ (by rw [HLT.out]; exact hkl)]; exact hg3.setSl bv3 (by simp only []; omega) _, by rw [World.frozen?_setCell]; exact qv3, hx3.setNew (by simp only []; omega) _, by have := hx2.size; have := hgr2; simp at *; omega⟩
          case measure => simp [intOf]; omega
        case pos =>
          have HLJ := Lib.hid (show ((row (mkT n (ringF n m)) k).take j).length = j by rw [List.length_take, HRL.out]; omega)
          have b1 := mul_bdQ (show m ≤ 12 by omega) (show k ≤ 12 by omega)
          have b2 := mul_bdQ (show m * k ≤ 144 from Nat.mul_le_mul (show m ≤ 12 by omega) (show k ≤ 12 by omega)) (show j ≤ 12 by omega)
          rw [Int.natCast_mul] at b2
          have b3 := b1.2
          have b4 := b2.2
          have b5 := b1.1
          have b6 := b2.1
          clear b1 b2
          simp at b3 b4
          go_wp2_with (at_builtin; refine wpList_append_int rfl _ _ 29 2 rfl Tryz.underlying29 infoInt w2.heap.size _ _ rfl (hi.alloc _) _ _ rfl (cell_new _ _ _) (by rw [HLJ.out]; omega) (by have := hx2.size; simp; omega) ?_)
          intro v' w3 hi3 hgr hv3
          have hx3 : Ext w2 w3 := (hx2.trans (ext_box _ _ _)).grown hgr (hi.alloc _) (Nat.le_refl _)
          clear hgr
          go_wp2
          go_roundw
          case rel => exact ⟨j + 1, by omega, by go_num, by
            rw [take_ix _ _ (by rw [HRL.out]; exact hjl), row_mkT _ _ _ hkl, ix_partRow _ _ _ _ _ hjl, if_pos hjl, ringF_def]
            rw [row_mkT _ _ _ hkl] at hi3
            exact hi3, hv3, hx3⟩
          case measure => simp [intOf]; omega
end Go.Proofs.YthlafeefjonkdaaGreatDoor
