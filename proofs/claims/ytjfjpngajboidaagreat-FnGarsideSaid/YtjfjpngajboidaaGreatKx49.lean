/-
  Contract of the reference's GarsideWord.
-/
import Derived.Test.YtjfjpngajboidaaGreatKx47
namespace Go.Proofs.YtjfjpngajboidaaGreat
set_option linter.unusedVariables false
set_option linter.unusedSimpArgs false
open Go.RowKit
attribute [local go_sem ↓] Go.wp_at_zero Go.wp_at_succ
open Go.Deep

theorem cls_true {L S : List (List Int)} {p : List Int} {most : Nat} {w w' : World} {e : Ending} (h : ((clS L S p).length ≤ most ∧ ∃ v, e = .returned (.tuple #[v, .bool true]) ∧ RowsK w.heap.size w' v (clS L S p)) ∨ (most < (clS L S p).length ∧ e = .returned (.tuple #[.slice none 0 0, .bool false]))) (hm : (clS L S p).length ≤ most) : ∃ v, e = .returned (.tuple #[v, .bool true]) ∧ RowsK w.heap.size w' v (clS L S p) := by
  rcases h with ⟨-, h⟩ | ⟨h, -⟩
  · exact h
  · omega
theorem full_iff {n : Nat} {l : List Int} (hn : l.Nodup) (hb : ∀ x, x ∈ l → 0 ≤ x ∧ x < n) : l.length = n ↔ ∀ x : Nat, x < n → (x : Int) ∈ l := by
  have hr : ((List.range n).map fun x : Nat => (x : Int)).Nodup := nodup_map_on List.nodup_range fun a _ b _ e => by omega
  have hlr : ((List.range n).map fun x : Nat => (x : Int)).length = n := by simp
  have hsub : ∀ x, x ∈ l → x ∈ (List.range n).map fun x : Nat => (x : Int) := fun x hx => by
    have := hb x hx
    exact List.mem_map.2 ⟨x.toNat, List.mem_range.2 (by omega), by omega⟩
  constructor
  · intro h x hx
    exact (pigeon l _ hn hsub (by rw [hlr, h]; exact Nat.le_refl _)).1 _ (List.mem_map.2 ⟨x, List.mem_range.2 hx, rfl⟩)
  · intro h
    have h1 := nodup_le _ _ hn hsub
    have h2 := nodup_le _ l hr fun x hx => by
      obtain ⟨y, hy, rfl⟩ := List.mem_map.1 hx
      exact h y (List.mem_range.1 hy)
    omega

set_option maxRecDepth 100000 in
set_option maxHeartbeats 8000000 in
theorem GarsideWord_any (L S : List (List Int)) (v y : Value) (w : World) (hv : Rows w v L) (hy : Rows w y S) :
    Calls Tryz.prog 21 #[.agg #[v, y]] w (RetWI (gaC L S) (gaV L S) w) := by
  obtain ⟨-, b, o, c, rfl, -⟩ := id hv
  obtain ⟨-, b2, o2, c2, rfl, -⟩ := id hy
  have hx0 : Ext w (w.alloc (.cells #[.slice (some ⟨b, o, none⟩) L.length c, .slice (some ⟨b2, o2, none⟩) S.length c2] 26)) := (Ext.refl _).alloc _
  have k0 := cell_new2a w (.slice (some ⟨b, o, none⟩) L.length c) (.slice (some ⟨b2, o2, none⟩) S.length c2) 26
  have k1 := cell_new2b w (.slice (some ⟨b, o, none⟩) L.length c) (.slice (some ⟨b2, o2, none⟩) S.length c2) 26
  have HV := Lib.hid (hv.ext hx0)
  have HY := Lib.hid (hy.ext hx0)
  have HX0 := Lib.hid hx0
  have K0W := Lib.hid k0
  have K1W := Lib.hid k1
  clear hv hy hx0
  go_enter Tryz.func21, Tryz.ntmps21
  go_wp2_with fail
  generalize (w.alloc (.cells #[.slice (some ⟨b, o, none⟩) L.length c, .slice (some ⟨b2, o2, none⟩) S.length c2] 26)) = w1 at *
  refine (l02Is_any L S _ _ _ HV.out HY.out).mono ?_
  rintro e w2 ⟨rfl, hx2⟩
  have k0 := hx2.cell k0
  have k1 := hx2.cell k1
  cases hs : solB L S with
  | false =>
    have HQ := Lib.hid (gaC_1 hs)
    go_wp2
    go_ret2
    exact retWI_bad HQ.out (by decide) (HX0.out.trans hx2)
  | true =>
    have HO := Lib.hid (solB_iff.1 hs)
    have HSB := Lib.hid hs
    have HX2 := Lib.hid hx2
    clear hx2 hs
    go_wp2_with fail
    refine (l02Good_any L S _ _ _ (HV.out.ext HX2.out) (HY.out.ext HX2.out) HO.out.pair).mono ?_
    rintro e w3 ⟨rfl, hx3⟩
    have HX3 := Lib.hid (HX2.out.trans hx3)
    have k0 := hx3.cell k0
    have k1 := hx3.cell k1
    clear hx3 HX2
    cases hg : goodB L S with
    | false =>
      have HQ := Lib.hid (gaC_5 HSB.out (by rw [ndiB_def, hg]; rfl))
      go_wp2
      go_ret2
      exact retWI_bad HQ.out (by decide) (HX0.out.trans HX3.out)
    | true =>
      go_wp2_with fail
      refine (l02Twice_any L S _ _ _ (HV.out.ext HX3.out) (HY.out.ext HX3.out) HO.out.pair).mono ?_
      rintro e w4 ⟨rfl, hx4⟩
      have HX4 := Lib.hid (HX3.out.trans hx4)
      have k0 := hx4.cell k0
      have k1 := hx4.cell k1
      clear hx4 HX3
      cases hi : invB L.length (mulN L) (mulN S) with
      | false =>
        have HQ := Lib.hid (gaC_5 HSB.out (by rw [ndiB_def, hg, hi]; rfl))
        go_wp2
        go_ret2
        exact retWI_bad HQ.out (by decide) (HX0.out.trans HX4.out)
      | true =>
        have HND := Lib.hid (show ndiB L S = true by rw [ndiB_def, hg, hi]; rfl)
        clear hg hi
        have h1 := HO.out.l.1
        by_cases h5 : L.length ≤ 5
        case neg =>
          have HQ := Lib.hid (gaC_3 HSB.out HND.out h5)
          have h5i : (5 : Int) < (L.length : Int) := by omega
          go_wp2
          go_ret2
          exact retWI_bad HQ.out (by decide) (HX0.out.trans HX4.out)
        case pos =>
          have h5i : ¬ (5 : Int) < (L.length : Int) := by omega
          have HPF := Lib.hid (pow_few h5)
          have hb := HPF.out L.length (Nat.le_refl _)
          obtain ⟨N, hN⟩ : ∃ N, N = L.length ^ L.length := ⟨_, rfl⟩
          rw [← hN] at hb
          have HN := Lib.hid hN
          clear hN
          go_wp2_with fail
          refine (l09Normals_any L S L.length N _ _ _ (HV.out.ext HX4.out) (HY.out.ext HX4.out) HO.out h5 h5 HN.out.symm hb).mono ?_
          rintro e w5 ⟨vn, rfl, hnm, hx5⟩
          have HX5 := Lib.hid (HX4.out.trans hx5)
          have HK0 := Lib.hid K0W.out
          have HK1 := Lib.hid K1W.out
          obtain ⟨⟨an, cn, rfl⟩, hkn⟩ := hnm
          have HKN := Lib.hid hkn
          have HNW := Lib.hid (fun i (hi : i < (nmT L S L.length N).length) => nmT_word (L := L) (S := S) (k := L.length) (m := N) h1 (by rw [row_eq, List.getD_eq_getElem?_getD, List.getElem?_eq_getElem hi]; exact List.getElem_mem hi : row (nmT L S L.length N) i ∈ nmT L S L.length N))
          have HGA := Lib.hid (fun i => @gaF_at L S i)
          have HGN := Lib.hid (@gaF_none L S)
          rw [← HN.out] at HGA HGN
          obtain ⟨nm, hnme⟩ : ∃ q, q = nmT L S L.length N := ⟨_, rfl⟩
          rw [← hnme] at HKN HNW HGA HGN ⊢
          have HX45 := Lib.hid hx5
          have HCNT := Lib.hid (show nm.length ≤ 3125 from by rw [hnme]; exact Nat.le_trans (nmT_few _ _) hb)
          clear hnme hkn hx5
          go_wp2_with fail
          go_loopw [6] (fun vi wr => ∃ i : Nat, i ≤ nm.length ∧ vi = .int .i64 i ∧ (∀ a, a < i → ¬ AllB L S (row nm a)) ∧ Ext w5 wr) (fun vi _ => nm.length - (intOf vi).toNat)
          case atStart => exact ⟨0, Nat.zero_le _, rfl, fun a ha => absurd ha (Nat.not_lt_zero _), Ext.refl _⟩
          case round =>
            obtain ⟨i, hi, rfl, hno, hx⟩ := hrel
            have HNO := Lib.hid hno
            have HX := Lib.hid hx
            clear hno hx
            by_cases hil : i < nm.length
            case neg =>
              have hie : i = nm.length := by omega
              have hii : ¬ (i : Int) < (nm.length : Int) := by omega
              have HQ := Lib.hid (gaC_4 HSB.out HND.out h5 (HGN.out (fun a ha => HNO.out a (by omega))))
              clear hie
              go_wp2
              go_ret2
              exact retWI_bad HQ.out (by decide) (HX0.out.trans (HX5.out.trans HX.out))
            case pos =>
              have hii : (i : Int) < (nm.length : Int) := by omega
              obtain ⟨-, gn, dn, en, -⟩ := id (HKN.out (by omega))
              simp only [Value.slice.injEq] at en
              obtain ⟨rfl, -, rfl⟩ := en
              obtain ⟨br, dr, r1, -, -, -, i1, n1⟩ := (HKN.out (by omega)).get hil
              obtain ⟨wo, wl⟩ := HNW.out i hil
              rw [wl] at r1
              have r2 := HX.out.cell r1
              have HIR := Lib.hid (show ∀ W, Ext wr W → Ints W (.slice (some ⟨br, 0, none⟩) L.length dr) (row nm i) from fun W hW => by
                have := (i1.ext (HX.out.trans hW)).ints n1 dr
                rwa [wl] at this)
              have HWO := Lib.hid wo
              have HWL := Lib.hid wl
              have HFW := Lib.hid (clS_few HO.out wo)
              have k6 := (HX5.out.trans HX.out).cell HK0.out
              have k7 := (HX5.out.trans HX.out).cell HK1.out
              clear r1 i1 n1 wo wl
              go_wp2_with fail
              go_region_with ((go_at_call 56; refine (l09Class_S L S (row nm i) 5000 _ _ _ _ ((HV.out.ext (HX5.out.trans HX.out)).ext (by (repeat first | (with_reducible exact Ext.refl _) | (with_reducible assumption) | (with_reducible apply Ext.drew) | (with_reducible apply kx_drewN) | (with_reducible apply kx_alloc) | ((with_reducible refine kx_set ?_ ?_); (first | (simp only []; omega) | (simp; omega) | (focus (simp; done)))) ))) ((HY.out.ext (HX5.out.trans HX.out)).ext (by (repeat first | (with_reducible exact Ext.refl _) | (with_reducible assumption) | (with_reducible apply Ext.drew) | (with_reducible apply kx_drewN) | (with_reducible apply kx_alloc) | ((with_reducible refine kx_set ?_ ?_); (first | (simp only []; omega) | (simp; omega) | (focus (simp; done)))) ))) (HIR.out _ (by (repeat first | (with_reducible exact Ext.refl _) | (with_reducible assumption) | (with_reducible apply Ext.drew) | (with_reducible apply kx_drewN) | (with_reducible apply kx_alloc) | ((with_reducible refine kx_set ?_ ?_); (first | (simp only []; omega) | (simp; omega) | (focus (simp; done)))) ))) HO.out HWO.out (by rw [HWL.out]; omega) (by omega) (by omega)).mono ?_; rintro e w6 ⟨hcl, hx6⟩; have hx6 := Ext.trans (show Ext wr _ by (repeat first | (with_reducible exact Ext.refl _) | (with_reducible assumption) | (with_reducible apply Ext.drew) | (with_reducible apply kx_drewN) | (with_reducible apply kx_alloc) | ((with_reducible refine kx_set ?_ ?_); (first | (simp only []; omega) | (simp; omega) | (focus (simp; done)))) )) hx6; obtain ⟨vc, rfl, hkc⟩ := cls_true hcl (show (clS L S (row nm i)).length ≤ 5000 by have := HFW.out; rw [HWL.out, ← HN.out] at this; omega); obtain ⟨-, gc, cc, rfl, -⟩ := id hkc))
              all_goals
                have HK := Lib.hid hkc
                have HX6 := Lib.hid hx6
                have HFW2 := Lib.hid (show (clS L S (row nm i)).length ≤ 3125 from by have := HFW.out; rw [HWL.out, ← HN.out] at this; omega)
                have HCW := Lib.hid (fun t (ht : t < (clS L S (row nm i)).length) => clS_word HO.out HWO.out (clS_row HO.out HWO.out ht))
                have HAB := Lib.hid (allB_iff (L := L) (S := S) (w := row nm i))
                obtain ⟨cls, hcls⟩ : ∃ q, q = clS L S (row nm i) := ⟨_, rfl⟩
                rw [← hcls] at HK HCW HAB HFW2 ⊢
                have R2 := Lib.hid r2
                clear hcls hkc hx6 hcl k6 k7
                go_wp2_with fail
                go_loopw [9, 10] (fun vf vk wr => ∃ (t : Nat) (fl : List Int), t ≤ cls.length ∧ vk = .int .i64 t ∧ GrowI 2 w6.heap.size wr vf fl ∧ vf ≠ .slice none 0 0 ∧ fl.Nodup ∧ (∀ x : Int, x ∈ fl ↔ ∃ a, a < t ∧ ix (row cls a) 0 = x) ∧ fl.length ≤ t ∧ Ext w6 wr) (fun _ vk _ => cls.length - (intOf vk).toNat)
                case atStart => exact ⟨0, [], Nat.zero_le _, rfl, GrowI.lit (Nat.le_refl _), by simp, List.nodup_nil, fun x => ⟨(fun h => by cases h), fun ⟨a, ha, _⟩ => absurd ha (Nat.not_lt_zero _)⟩, Nat.le_refl _, (Ext.refl _).alloc _⟩
                case round =>
                  obtain ⟨t, fl, ht, rfl, hg, hvf, hnd, hfl, hfl2, hx⟩ := hrel
                  have HG := Lib.hid hg
                  have HVF := Lib.hid hvf
                  have HND2 := Lib.hid hnd
                  have HFL := Lib.hid hfl
                  have HX8 := Lib.hid hx
                  have hcf := HFW2.out
                  have hzx : w6.heap.size ≤ wr.heap.size := Below.size hx
                  have hint := hg.ints (by omega) hvf
                  have HINT := Lib.hid hint
                  obtain ⟨-, bf, of, cf, rfl, -⟩ := id hint
                  clear hg hvf hnd hfl hx hint
                  have HBD := Lib.hid (show ∀ x, x ∈ fl → 0 ≤ x ∧ x < L.length from fun x hx => by
                    obtain ⟨a, ha, rfl⟩ := (HFL.out x).1 hx
                    obtain ⟨q1, q2⟩ := HCW.out a (by omega)
                    rw [HWL.out] at q2
                    exact q1 0 (by omega))
                  by_cases htl : t < cls.length
                  case pos =>
                    have hti : (t : Int) < (cls.length : Int) := by omega
                    obtain ⟨bq, dq, s1, -, -, -, i2, n2⟩ := HK.out.get htl
                    obtain ⟨q1, q2⟩ := HCW.out t htl
                    rw [HWL.out] at q2
                    rw [q2] at s1
                    have s2 := HX8.out.cell s1
                    have s3 := HX8.out.cell (i2 0 (by omega))
                    rw [Nat.zero_add] at s3
                    obtain ⟨z, hz⟩ : ∃ z, z = ix (row cls t) 0 := ⟨_, rfl⟩
                    rw [← hz] at s3
                    have hl0 : (0 : Int) < (L.length : Int) := by omega
                    have HZ := Lib.hid hz
                    clear hz q1 q2 s1 i2 n2
                    go_wp2_with fail
                    refine (l01Has_any fl _ z _ HINT.out).mono ?_
                    rintro e w9 ⟨rfl, rfl⟩
                    cases hh : hasB fl z with
                    | true =>
                      have HMEM := Lib.hid (show z ∈ fl from by
                        obtain ⟨j, hj, e⟩ := hasB_has.1 hh
                        rw [← e]
                        exact ix_mem fl j hj)
                      have HFL2 := Lib.hid (show ∀ x : Int, x ∈ fl ↔ ∃ a, a < t + 1 ∧ ix (row cls a) 0 = x from fun x => by
                        rw [HFL.out x]
                        constructor
                        · rintro ⟨a, ha, q⟩
                          exact ⟨a, by omega, q⟩
                        · rintro ⟨a, ha, q⟩
                          rcases Nat.lt_succ_iff_lt_or_eq.1 ha with g | g
                          · exact ⟨a, g, q⟩
                          · subst g
                            rw [← HZ.out] at q
                            subst q
                            exact (HFL.out _).1 HMEM.out)
                      clear hh
                      go_wp2
                      go_roundw
                      case rel => exact ⟨t + 1, fl, by omega, by go_num, HG.out, HVF.out, HND2.out, HFL2.out, by omega, HX8.out⟩
                      case measure => simp [intOf]; omega
                    | false =>
                      have HNM := Lib.hid (show z ∉ fl from fun hm => by
                        obtain ⟨j, hj, e⟩ := List.getElem_of_mem hm
                        have : hasB fl z = true := hasB_has.2 ⟨j, hj, by rw [ix_eq, List.getD_eq_getElem?_getD, List.getElem?_eq_getElem hj]; exact e⟩
                        rw [hh] at this
                        cases this)
                      have HFL2 := Lib.hid (show ∀ x : Int, x ∈ fl ++ [z] ↔ ∃ a, a < t + 1 ∧ ix (row cls a) 0 = x from fun x => by
                        rw [List.mem_append, List.mem_singleton, HFL.out x]
                        constructor
                        · rintro (⟨a, ha, q⟩ | rfl)
                          · exact ⟨a, by omega, q⟩
                          · exact ⟨t, by omega, HZ.out.symm⟩
                        · rintro ⟨a, ha, q⟩
                          rcases Nat.lt_succ_iff_lt_or_eq.1 ha with g | g
                          · exact .inl ⟨a, g, q⟩
                          · subst g
                            exact .inr (by rw [← q, HZ.out]))
                      have HND3 := Lib.hid (show (fl ++ [z]).Nodup from by
                        rw [List.nodup_append]
                        exact ⟨HND2.out, by simp, fun a ha b hb e => HNM.out (by rw [List.mem_singleton.1 hb] at e; rw [← e]; exact ha)⟩)
                      clear hh
                      go_wp2_with (at_builtin; refine wpList_append_int_at rfl _ _ 27 2 rfl Tryz.underlying27 infoInt w6.heap.size _ fl rfl (HG.out.alloc _) _ _ rfl (cell_new _ _ _) (by omega) (by simp; omega) ?_)
                      intro v' w10 hi3 hgr hv3 hbl
                      have hx3 : Ext w6 w10 := (HX8.out.trans ((Ext.refl wr).alloc _)).grown hgr (HG.out.alloc _) (Nat.le_refl _)
                      have HI3 := Lib.hid hi3
                      have HX3 := Lib.hid hx3
                      clear hi3 hgr hbl hx3
                      go_wp2
                      go_roundw
                      case rel => exact ⟨t + 1, fl ++ [z], by omega, by go_num, HI3.out, hv3, HND3.out, HFL2.out, by simp; omega, HX3.out⟩
                      case measure => simp [intOf]; omega
                  case neg =>
                    have hte : t = cls.length := by omega
                    have hti : ¬ (t : Int) < (cls.length : Int) := by omega
                    have HAL := Lib.hid (show fl.length = L.length ↔ AllB L S (row nm i) from by
                      rw [HAB.out, full_iff HND2.out HBD.out]
                      refine forall_congr' fun x => imp_congr_right fun hx => ?_
                      rw [HFL.out, hte]
                      rfl)
                    have HXW := Lib.hid (HX6.out.trans HX8.out)
                    have r2 := HXW.out.cell R2.out
                    clear hte htl
                    by_cases hfull : fl.length = L.length
                    case pos =>
                      have HALL := Lib.hid (HAL.out.1 hfull)
                      have HGG := Lib.hid (gaC_0 HSB.out HND.out h5 (HGA.out i hil HNO.out HALL.out))
                      have HIF := Lib.hid (HIR.out _ HXW.out)
                      rw [hfull]
                      clear hfull
                      go_wp2
                      go_ret2
                      exact ⟨_, by rw [HGG.out.1]; rfl, fun _ => by rw [HGG.out.2]; exact HIF.out, fun q => absurd HGG.out.1 q, HX0.out.trans ((HX5.out.trans HX.out).trans HXW.out)⟩
                    case neg =>
                      have HNA := Lib.hid (show ¬ AllB L S (row nm i) from fun q => hfull (HAL.out.2 q))
                      have HNO2 := Lib.hid (show ∀ a, a < i + 1 → ¬ AllB L S (row nm a) from fun a ha => by
                        rcases Nat.lt_succ_iff_lt_or_eq.1 ha with g | g
                        · exact HNO.out a g
                        · rw [g]; exact HNA.out)
                      have hcnt := HCNT.out
                      have hfb : ((fl.length : Int) == (L.length : Int)) = false := beq_eq_false_iff_ne.2 (by omega)
                      have hfi : (fl.length : Int) ≠ (L.length : Int) := by omega
                      clear hfull
                      go_wp2
                      go_roundw
                      case rel => exact ⟨i + 1, by omega, by go_num, HNO2.out, HX.out.trans HXW.out⟩
                      case measure => simp [intOf]; omega
end Go.Proofs.YtjfjpngajboidaaGreat


namespace Go.Proofs.YtjfjpngajboidaaGreat
set_option linter.unusedVariables false
set_option linter.unusedSimpArgs false
open Go.RowKit
open Go.Deep

def RetDv (L S : List (List Int)) (p q : List Int) (w : World) (e : Ending) (w' : World) : Prop := e = .returned (.tuple #[.bool (dvB L S p q), .int .i64 (dvC L S p q)]) ∧ Ext w w'
end Go.Proofs.YtjfjpngajboidaaGreat
