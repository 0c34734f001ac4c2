/-
  Contract of the program's wordClass.
-/
import Derived.Test.YtjfjpngajboidaaGreatJx41
import Derived.Test.YtjfjpngajboidaaGreatJx42
import Derived.Test.YtjfjpngajboidaaGreatJx43
import Derived.Test.YtjfjpngajboidaaGreatJx44
import Derived.Test.YtjfjpngajboidaaGreatJx46
namespace Go.Proofs.YtjfjpngajboidaaGreat
set_option linter.unusedVariables false
set_option linter.unusedSimpArgs false
open Go.RowKit
attribute [local go_sem ↓] Go.wp_at_zero Go.wp_at_succ
open Go.Deep

set_option maxRecDepth 100000 in
set_option maxHeartbeats 8000000 in
theorem wordClass_any (L S : List (List Int)) (p : List Int) (most : Nat) (v y u : Value) (w : World) (hv : Rows w v L) (hy : Rows w y S) (hu : Ints w u p) (hO : SolOk L S) (hp : WordOk L.length p) (hl8 : p.length ≤ 9) (h1m : 1 ≤ most) (hm : most ≤ 5000) :
    Calls Tryz.prog 50 #[.agg #[v, y], u, .int .i64 most] w (RetClsS L S p most w) := by
  obtain ⟨-, b, o, c, rfl, -⟩ := id hv
  obtain ⟨-, b2, o2, c2, rfl, -⟩ := id hy
  obtain ⟨-, b3, o3, c3, rfl, -⟩ := id hu
  have HO := Lib.hid hO
  have HP := Lib.hid hO.pair
  have h12 := hO.l.2.1
  have hx0 : Ext w (w.alloc (.cells #[.slice (some ⟨b, o, none⟩) L.length c, .slice (some ⟨b2, o2, none⟩) S.length c2] 26)) := (Ext.refl _).alloc _
  have k0 := cell_new2a w (.slice (some ⟨b, o, none⟩) L.length c) (.slice (some ⟨b2, o2, none⟩) S.length c2) 26
  have k1 := cell_new2b w (.slice (some ⟨b, o, none⟩) L.length c) (.slice (some ⟨b2, o2, none⟩) S.length c2) 26
  have HV := Lib.hid (hv.ext hx0)
  have HY := Lib.hid (hy.ext hx0)
  have HU := Lib.hid (hu.ext hx0)
  have HW := Lib.hid hp
  have hmm := @run_makeMap Tryz.prog
  clear hv hy hu hO hp
  go_enter Tryz.func50, Tryz.ntmps50
  go_wp2_with fail
  generalize (w.alloc (.cells #[.slice (some ⟨b, o, none⟩) L.length c, .slice (some ⟨b2, o2, none⟩) S.length c2] 26)) = w1 at *
  refine (InverseSolution_ok L S _ _ _ HV.out HY.out HO.out).mono ?_
  rintro e w2 ⟨bT, cT, bU, cU, T, U, rfl, hT, hU, hI, hx2⟩
  have HM := Lib.hid (mv_of HO.out hI)
  have HI := Lib.hid hI
  have HB := Lib.hid (inv_pair HO.out hI)
  have HT := Lib.hid hT
  have HTU := Lib.hid hU
  have HX2 := Lib.hid hx2
  clear hT hU hI hx2
  go_wp2_with fail
  have hxb : Ext w2 (w2.alloc (.cells #[.slice (some ⟨bT, 0, none⟩) L.length cT, .slice (some ⟨bU, 0, none⟩) L.length cU] 26)) := (Ext.refl _).alloc _
  have HK0 := Lib.hid (hxb.cell (HX2.out.cell k0))
  have HK1 := Lib.hid (hxb.cell (HX2.out.cell k1))
  have HK2 := Lib.hid (cell_new2a w2 (.slice (some ⟨bT, 0, none⟩) L.length cT) (.slice (some ⟨bU, 0, none⟩) L.length cU) 26)
  have HK3 := Lib.hid (cell_new2b w2 (.slice (some ⟨bT, 0, none⟩) L.length cT) (.slice (some ⟨bU, 0, none⟩) L.length cU) 26)
  have HXB := Lib.hid (hx0.trans (HX2.out.trans hxb))
  have HV := Lib.hid (HV.out.ext (HX2.out.trans hxb))
  have HY := Lib.hid (HY.out.ext (HX2.out.trans hxb))
  have HU := Lib.hid (HU.out.ext (HX2.out.trans hxb))
  have HT := Lib.hid (HT.out.ext hxb)
  have HTU := Lib.hid (HTU.out.ext hxb)
  clear k0 k1 hx0 HX2 hxb
  generalize (w2.alloc (.cells #[.slice (some ⟨bT, 0, none⟩) L.length cT, .slice (some ⟨bU, 0, none⟩) L.length cU] 26)) = wb at *
  refine (slicesClone_c p _ _ HU.out).mono ?_
  rintro e w3 ⟨bp, cp, rfl, ho3, hc3, hl3, hx3⟩
  have hr3 : RK wb.heap.size (fun b => b = w3.heap.size ∨ b = w3.heap.size + 1) w3 (.slice (some ⟨bp, 0, none⟩) p.length cp) p := ⟨hl3, bp, cp, rfl, hc3, ho3.1, ho3.2.1, by have := ho3.2.1; omega, ho3.2.2.1⟩
  have hm3 : MineK 27 wb.heap.size (fun b => b = w3.heap.size + 1) (w3.alloc (.cells #[.slice (some ⟨bp, 0, none⟩) p.length cp] 27)) w3.heap.size 1 [.slice (some ⟨bp, 0, none⟩) p.length cp] [p] :=
    ⟨ownsRow_one hx3.size, (XK.one hr3).ext ((Ext.refl _).alloc _)⟩
  have hxc : Ext wb (w3.alloc (.cells #[.slice (some ⟨bp, 0, none⟩) p.length cp] 27)) := hx3.alloc _
  have hz3 : (w3.alloc (.cells #[.slice (some ⟨bp, 0, none⟩) p.length cp] 27)).heap.size = w3.heap.size + 1 := by simp
  have hdig : ∀ q : List Int, WordOk L.length q → ∀ i, i < q.length → 0 ≤ ix q i ∧ ix q i < 12 := fun q hq i hi => by have := hq i hi; omega
  have HDIG := Lib.hid hdig
  have hsm3 := SeenMap.made (w3.alloc (.cells #[.slice (some ⟨bp, 0, none⟩) p.length cp] 27))
  have HM3 := Lib.hid (hm3.ext ((Ext.refl _).alloc (.map #[] 0)))
  have HX3 := Lib.hid (hxc.alloc (.map #[] 0))
  rw [hz3] at hsm3
  have HS3 := Lib.hid hsm3
  have hgz : wb.heap.size ≤ w3.heap.size := hx3.size
  clear hsm3 hm3 hxc hz3 hr3 ho3 hc3 hl3 hx3 hdig
  go_wp2_with fail
  clear hmm
  generalize ((w3.alloc (.cells #[.slice (some ⟨bp, 0, none⟩) p.length cp] 27)).alloc (.map #[] 0)) = w4 at *
  generalize w3.heap.size = g0 at *
  refine (digitsText_any p _ _ (HU.out.ext HX3.out) (by omega) (HDIG.out p HW.out)).mono ?_
  rintro e w5 ⟨rfl, hx5⟩
  have HS5 := Lib.hid (HS3.out.ext hx5)
  have HM5 := Lib.hid (HM3.out.ext hx5)
  have HX5 := Lib.hid (HX3.out.trans hx5)
  clear HS3 HM3 HX3 hx5
  go_wp2_with (refine wpList_seen_update rfl _ _ _ (.inr rfl) rfl HS5.out (by unfold maxLen; omega) rfl rfl (HDIG.out p HW.out) (by omega) ?_)
  intro w6 hs6 hg6
  have HS6 := Lib.hid hs6
  have HM6 := Lib.hid (HM5.out.other hg6 rfl (by omega))
  have HX6 := Lib.hid (ext_grownBy HX5.out hg6 (fun k e => by injection e with e; omega))
  clear hs6 hg6 HS5 HM5 HX5
  obtain ⟨gm, hgm⟩ : ∃ gm, gm = g0 + 1 := ⟨_, rfl⟩
  have hne6 : g0 ≠ gm := by omega
  have hbm : wb.heap.size ≤ gm := by omega
  rw [← hgm] at HS6 HM6 ⊢
  clear hgm hgz
  obtain ⟨N, hN⟩ : ∃ N, N = (wclL L.length (mulN L) (mulN S) (mulN T) (mulN U) p).length := ⟨_, rfl⟩
  have HFEW := Lib.hid (fun F i k j (h : BfsI (mulN L) (mulN S) (mulN T) (mulN U) p F i k j) => show F.length ≤ N by rw [hN]; exact h.few HM.out HW.out)
  have HALL := Lib.hid (fun F i (h : BfsI (mulN L) (mulN S) (mulN T) (mulN U) p F i 0 0) (hi : F.length ≤ i) => show F.length = N by rw [hN]; exact h.all HM.out HW.out hi)
  have HNN := Lib.hid hN
  clear hN
  go_wp2_with fail
  go_loopw [10, 12] (fun vf vi wr => ∃ (i f cf : Nat) (xf : List Value) (F : List (List Int)), vf = .slice (some ⟨f, 0, none⟩) F.length cf ∧ vi = .int .i64 i ∧ BfsI (mulN L) (mulN S) (mulN T) (mulN U) p F i 0 0 ∧ MineK 27 wb.heap.size (fun b => b = gm) wr f cf xf F ∧ f ≠ gm ∧ SeenMap wr gm F.length F ∧ i ≤ F.length ∧ F.length ≤ most ∧ Ext wb wr) (fun _ x _ => N - (intOf x).toNat)
  case atStart => exact ⟨0, _, _, _, [p], rfl, rfl, BfsI.start _ _ _ _ _, HM6.out, hne6, HS6.out, by simp, by simpa using h1m, HX6.out⟩
  case round =>
    clear HM6 HS6 HX6 hne6
    obtain ⟨i, f, cf, xf, F, rfl, rfl, hB, hC, hfm, hS, hi, hFm, hX⟩ := hrel
    have HBI := Lib.hid hB
    have HC := Lib.hid hC
    have HS := Lib.hid hS
    have HX := Lib.hid hX
    clear hB hC hS hX
    by_cases hil : i < F.length
    case neg =>
      have hki : ¬ (i : Int) < (F.length : Int) := by omega
      have hii : F.length ≤ i := by omega
      have hall := HALL.out F i HBI.out hii
      have HAL := Lib.hid hall
      have hpos : 0 < F.length := List.length_pos_of_mem HBI.out.head
      clear hall
      go_wp2_with fail
      refine (sortRows_any 27 wb.heap.size _ f cf xf F _ HC.out hpos (by omega)).mono ?_
      rintro e w7 ⟨rfl, ys, G, hperm, hpw, hGl, hm7, hg7⟩
      have hlen : ∀ x, x ∈ G → x.length = p.length := fun x hx => (HBI.out.eq x (hperm.mem_iff.1 hx)).len
      have hnd : G.Nodup := hperm.nodup_iff.2 HBI.out.nd
      have hlex : G.Pairwise LexLt := by
        refine List.Pairwise.imp_of_mem ?_ (hpw.and hnd)
        intro a b ha hb hab
        refine (lex_less (by rw [hlen a ha, hlen b hb])).1 ?_
        rcases less_tri a b with h | h | h
        · exact h
        · exact absurd h hab.2
        · exact absurd h hab.1
      have hGW := HBI.out.sorted HM.out HW.out hii hlex (fun x => hperm.mem_iff)
      have HX7 := Lib.hid (show Ext wb w7 from Ext.grown (v := .slice (some ⟨f, 0, none⟩) F.length cf) HX.out hg7 HC.out.own (Nat.le_refl _))
      have hr7 := (hm7.toRows (by omega)).low (Below.size HXB.out)
      rw [hGl] at hr7
      rw [hGW, clS_eq HO.out HI.out] at hr7
      have HR7 := Lib.hid hr7
      clear hm7 hg7 hperm hpw hlen hnd hlex hGW hr7
      go_wp2
      go_ret2
      exact ⟨.inl ⟨by rw [← clS_eq HO.out HI.out, ← HNN.out, ← HAL.out]; exact hFm, _, rfl, HR7.out⟩, (HXB.out.trans HX7.out)⟩
    case pos =>
      have hki : (i : Int) < (F.length : Int) := by omega
      go_wp2_with fail
      go_loopw [10, 39] (fun vf vk wr => ∃ (k f cf : Nat) (xf : List Value) (F : List (List Int)), vf = .slice (some ⟨f, 0, none⟩) F.length cf ∧ vk = .int .i64 k ∧ BfsI (mulN L) (mulN S) (mulN T) (mulN U) p F i k 0 ∧ MineK 27 wb.heap.size (fun b => b = gm) wr f cf xf F ∧ f ≠ gm ∧ SeenMap wr gm F.length F ∧ i < F.length ∧ k ≤ p.length ∧ F.length ≤ most ∧ Ext wb wr) (fun _ x _ => p.length - (intOf x).toNat)
      case atStart => exact ⟨0, _, _, _, F, rfl, rfl, HBI.out, HC.out, hfm, HS.out, hil, Nat.zero_le _, hFm, HX.out⟩
      case round =>
        clear HBI HC HS HX hil hFm hi hfm
        obtain ⟨k, f, cf, xf, F, rfl, rfl, hB, hC, hfm, hS, hil, hkp, hFm, hX⟩ := hrel
        have HBI := Lib.hid hB
        have HC := Lib.hid hC
        have HS := Lib.hid hS
        have HX := Lib.hid hX
        clear hB hC hS hX
        by_cases hkl : k + 1 < p.length
        case neg =>
          have hkk : ¬ (k : Int) < (p.length : Int) - 1 := by omega
          go_wp2
          go_roundw
          case rel => exact ⟨i + 1, _, _, _, F, rfl, by go_num, HBI.out.nextI hkl, HC.out, hfm, HS.out, by omega, hFm, HX.out⟩
          case measure =>
            have := HFEW.out _ _ _ _ HBI.out
            simp [intOf]; omega
        case pos =>
          have hkk : (k : Int) < (p.length : Int) - 1 := by omega
          have k0 := HX.out.cell HK0.out
          have k1 := HX.out.cell HK1.out
          have k2 := HX.out.cell HK2.out
          have k3 := HX.out.cell HK3.out
          obtain ⟨V, hV⟩ : ∃ V, V = row F i := ⟨_, rfl⟩
          have hVF : V ∈ F := by rw [hV]; exact rowB_mem hil
          have hVE := HBI.out.eq V hVF
          have HVE := Lib.hid hVE
          have HVW := Lib.hid (hVE.ok HM.out HW.out)
          have HVL := Lib.hid hVE.len
          have HV1 := Lib.hid hV.symm
          clear hVF hVE hV
          go_wp2_with fail
          go_loopw [10, 45] (fun vf vj wr => ∃ (j f cf : Nat) (xf : List Value) (F : List (List Int)), vf = .slice (some ⟨f, 0, none⟩) F.length cf ∧ vj = .int .i64 j ∧ BfsI (mulN L) (mulN S) (mulN T) (mulN U) p F i k j ∧ MineK 27 wb.heap.size (fun b => b = gm) wr f cf xf F ∧ f ≠ gm ∧ SeenMap wr gm F.length F ∧ i < F.length ∧ row F i = V ∧ j ≤ 2 ∧ F.length ≤ most ∧ Ext wb wr) (fun _ x _ => 2 - (intOf x).toNat)
          case atStart => exact ⟨0, _, _, _, F, rfl, rfl, HBI.out, HC.out, hfm, HS.out, hil, HV1.out, Nat.zero_le _, hFm, HX.out⟩
          case round =>
            clear HBI HC HS HX hil hFm hfm k0 k1 k2 k3 HV1
            obtain ⟨j, f, cf, xf, F, rfl, rfl, hB, hC, hfm, hS, hil, hVr, hj2, hFm, hX⟩ := hrel
            have HBI := Lib.hid hB
            have HC := Lib.hid hC
            have HS := Lib.hid hS
            have HX := Lib.hid hX
            have HV1 := Lib.hid hVr
            clear hB hC hS hX hVr
            by_cases hjl : j < 2
            case neg =>
              have hjj : ¬ (j : Int) < 2 := by omega
              have hj22 : j = 2 := by omega
              go_wp2
              go_roundw
              case rel => exact ⟨k + 1, _, _, _, F, rfl, by go_num, BfsI.nextK (by have := HBI.out; rw [hj22] at this; exact this), HC.out, hfm, HS.out, hil, by omega, hFm, HX.out⟩
              case measure => simp [intOf]; omega
            case pos =>
              have hjj : (j : Int) < 2 := by omega
              have hki : (i : Int) < (F.length : Int) := by omega
              have hcell : ∃ bi ci, wr.cell? ⟨f, i, none⟩ = some (.slice (some ⟨bi, 0, none⟩) V.length ci) ∧ Ints wr (.slice (some ⟨bi, 0, none⟩) V.length ci) V := by
                obtain ⟨x, h1, h2⟩ := HC.out.rows.2 i hil
                rw [HV1.out] at h2
                have hI := h2.ints
                obtain ⟨-, bi, ci, rfl, -⟩ := h2
                have h3 := HC.out.own.cells (g := f) rfl i _ h1
                rw [Addr.add_lit, Nat.zero_add] at h3
                exact ⟨bi, ci, h3, hI⟩
              obtain ⟨bi, ci, r5, hI5⟩ := hcell
              have HI5 := Lib.hid hI5
              have hgf := HC.out.at_g
              have hk2 : k + 1 < V.length := by rw [HVL.out]; exact hkl
              obtain ⟨Z, hZ⟩ : ∃ Z, Z = mvJ (mulN L) (mulN S) (mulN T) (mulN U) V k j := ⟨_, rfl⟩
              have HZ := Lib.hid hZ
              have HZL := Lib.hid (show Z.length = p.length by rw [hZ, length_mvJ]; exact HVL.out)
              have HZW := Lib.hid (show WordOk L.length Z by rw [hZ]; exact mvJ_ok HM.out HVW.out hk2 j)
              clear hI5 hZ
              go_upto_region 12 with fail
              go_cut [15] (fun vb wx => ∃ x1 x2 x3 x4 y1 y2 y3 y4 : Nat, vb = .pointer (some ⟨wr.heap.size, 0, none⟩) ∧ wx = wr.alloc (.cells #[.slice (some ⟨x1, x2, none⟩) x3 x4, .slice (some ⟨y1, y2, none⟩) y3 y4] 26) ∧ ∀ u w', Ext wr w' → Ints w' u V → Calls Tryz.prog 91 #[.agg #[.slice (some ⟨x1, x2, none⟩) x3 x4, .slice (some ⟨y1, y2, none⟩) y3 y4], u, .int .i64 k] w' (NewIc Z w'))
              case first =>
                match j, hjl with
                | 0, _ =>
                  have hix : ∀ w', (Instr.index 108 (.agg #[.slice (some ⟨b, o, none⟩) L.length c, .slice (some ⟨b2, o2, none⟩) S.length c2, .slice (some ⟨bT, 0, none⟩) L.length cT, .slice (some ⟨bU, 0, none⟩) L.length cU]) (.int .i64 0)).run Tryz.prog w' = .ok (.agg #[.slice (some ⟨b, o, none⟩) L.length c, .slice (some ⟨b2, o2, none⟩) S.length c2]) w' := fun _ => rfl
                  go_wp2_with fail
                  go_meet
                  case rel => exact ⟨_, _, _, _, _, _, _, _, rfl, rfl, fun u w' hx hu => by rw [HZ.out]; exact moved_any L S V k _ _ _ w' (HV.out.ext (HX.out.trans hx)) (HY.out.ext (HX.out.trans hx)) hu HP.out HVW.out hk2⟩
                | 1, _ =>
                  have hix : ∀ w', (Instr.index 108 (.agg #[.slice (some ⟨b, o, none⟩) L.length c, .slice (some ⟨b2, o2, none⟩) S.length c2, .slice (some ⟨bT, 0, none⟩) L.length cT, .slice (some ⟨bU, 0, none⟩) L.length cU]) (.int .i64 1)).run Tryz.prog w' = .ok (.agg #[.slice (some ⟨bT, 0, none⟩) L.length cT, .slice (some ⟨bU, 0, none⟩) L.length cU]) w' := fun _ => rfl
                  go_wp2_with fail
                  go_meet
                  case rel => exact ⟨_, _, _, _, _, _, _, _, rfl, rfl, fun u w' hx hu => by rw [HZ.out]; exact moved_any T U V k _ _ _ w' (HT.out.ext (HX.out.trans hx)) (HTU.out.ext (HX.out.trans hx)) hu HB.out (by rw [HI.out.1]; exact HVW.out) hk2⟩
              case rest =>
                obtain ⟨x1, x2, x3, x4, y1, y2, y3, y4, rfl, rfl, hmv⟩ := hcut
                have kb0 := cell_new2a wr (.slice (some ⟨x1, x2, none⟩) x3 x4) (.slice (some ⟨y1, y2, none⟩) y3 y4) 26
                have kb1 := cell_new2b wr (.slice (some ⟨x1, x2, none⟩) x3 x4) (.slice (some ⟨y1, y2, none⟩) y3 y4) 26
                have hxr : Ext wr (wr.alloc (.cells #[.slice (some ⟨x1, x2, none⟩) x3 x4, .slice (some ⟨y1, y2, none⟩) y3 y4] 26)) := (Ext.refl _).alloc _
                have HMV := Lib.hid hmv
                have r5' := hxr.cell r5
                have hzr : (wr.alloc (.cells #[.slice (some ⟨x1, x2, none⟩) x3 x4, .slice (some ⟨y1, y2, none⟩) y3 y4] 26)).heap.size = wr.heap.size + 1 := by simp
                have HXR := Lib.hid hxr
                clear hmv hxr r5
                generalize (wr.alloc (.cells #[.slice (some ⟨x1, x2, none⟩) x3 x4, .slice (some ⟨y1, y2, none⟩) y3 y4] 26)) = wq at *
                have hzq : wr.heap.size + 1 ≤ wq.heap.size := by omega
                clear hzr
                go_upto_region 13 with fail
                go_cut [16] (fun v wx => ∃ bz cz, v = .slice (some ⟨bz, 0, none⟩) Z.length cz ∧ RK wq.heap.size (fun _ => False) wx v Z ∧ Ext wq wx)
                case first =>
                  go_region_held3 (fun w' => w'.cell? ⟨wr.heap.size, 0, none⟩ = some (.slice (some ⟨x1, x2, none⟩) x3 x4) ∧ w'.cell? ⟨wr.heap.size, 1, none⟩ = some (.slice (some ⟨y1, y2, none⟩) y3 y4) ∧ w'.cell? ⟨f, i, none⟩ = some (.slice (some ⟨bi, 0, none⟩) V.length ci))
                    ((refine ⟨?_, ?_, ?_⟩ <;> (repeat first | (with_reducible assumption) | (with_reducible refine Ext.cell xE ?_) |  (with_reducible exact kc_new) | ((with_reducible refine kc_newE ?_); (simp; done)) | ((with_reducible refine kc_newEa ?_); (simp; done)) | ((with_reducible refine kc_newEb ?_); (simp; done)) | (with_reducible apply kc_alloc) | (with_reducible apply kc_drewN) | (with_reducible apply kc_drew) | ((with_reducible refine kc_set ?_ ?_); (first | (simp only []; omega) | (simp; omega) | (focus (simp; done)))) | ((with_reducible refine kc_set2 ?_ ?_); (focus (simp; done))) | (with_reducible refine kc_same (v := .slice none 0 0) ?_))))
                    (first
                      | (go_at_call 91; refine (HMV.out _ _ (HXR.out.trans (by (repeat first | (with_reducible exact Ext.refl _) | (with_reducible assumption) | (with_reducible apply Ext.drew) | (with_reducible apply kx_drewN) | (with_reducible apply kx_alloc) | ((with_reducible refine kx_set ?_ ?_); (first | (simp only []; omega) | (simp; omega) | (focus (simp; done)))) | (with_reducible refine Ext.trans ?_ xE) ))) (HI5.out.ext (HXR.out.trans (by (repeat first | (with_reducible exact Ext.refl _) | (with_reducible assumption) | (with_reducible apply Ext.drew) | (with_reducible apply kx_drewN) | (with_reducible apply kx_alloc) | ((with_reducible refine kx_set ?_ ?_); (first | (simp only []; omega) | (simp; omega) | (focus (simp; done)))) | (with_reducible refine Ext.trans ?_ xE) ))))).mono ?_; rintro e wE ⟨bE, cE, rfl, oE, hcE, hlE, xE⟩))
                  all_goals
                    go_wp2
                    go_meet
                    case rel =>
                      refine ⟨_, _, rfl, (RK.mono (lo := _) ⟨hlE, bE, cE, rfl, hcE, oE.1, oE.2.1, fun h => h, oE.2.2.1⟩ (by first | exact Nat.le_refl _ | simp) (fun _ _ _ q => q)).ext ?_, ?_⟩
                      all_goals (repeat first | (with_reducible exact Ext.refl _) | (with_reducible assumption) | (with_reducible apply Ext.drew) | (with_reducible apply kx_drewN) | (with_reducible apply kx_alloc) | ((with_reducible refine kx_set ?_ ?_); (first | (simp only []; omega) | (simp; omega) | (focus (simp; done)))) | (with_reducible refine Ext.trans ?_ xE) )
                case rest =>
                  obtain ⟨bz, cz, rfl, hz, hxz⟩ := hcut
                  rename_i wz
                  have hxx := HXR.out.trans hxz
                  have HRZ := Lib.hid (hz.mono (lo' := wb.heap.size) (D' := fun b => b = f ∨ b = gm) (by have := (Below.size HX.out : wb.heap.size ≤ wr.heap.size); omega) (fun b h1 h2 q => by have := HS.out.lt; omega))
                  have HC := Lib.hid (HC.out.ext hxx)
                  have HS := Lib.hid (HS.out.ext hxx)
                  have HX := Lib.hid (HX.out.trans hxx)
                  clear hz hxz hxx HXR HMV kb0 kb1 r5' HI5 hgf hzq
                  go_wp2_with fail
                  refine (digitsText_any Z _ _ HRZ.out.ints (by rw [HZL.out]; omega) (HDIG.out Z HZW.out)).mono ?_
                  rintro e w5 ⟨rfl, hx5⟩
                  have HC := Lib.hid (HC.out.ext hx5)
                  have HS := Lib.hid (HS.out.ext hx5)
                  have HX := Lib.hid (HX.out.trans hx5)
                  have HRZ := Lib.hid (HRZ.out.ext hx5)
                  clear hx5
                  cases hmem : decide (Z ∈ F) with
                  | true =>
                    have HIN := Lib.hid (show Z ∈ F from of_decide_eq_true hmem)
                    go_wp2_with (at_lookup; refine wpList_seen_lookup rfl _ _ rfl rfl HS.out rfl (HDIG.out Z HZW.out) (by rw [HZL.out]; omega) ?_; rw [hmem])
                    go_roundw
                    case rel => exact ⟨j + 1, _, _, _, F, rfl, by go_num, HBI.out.skip (by rw [HV1.out, ← HZ.out]; exact HIN.out), HC.out, hfm, HS.out, hil, HV1.out, by omega, hFm, HX.out⟩
                    case measure => simp [intOf]; omega
                  | false =>
                    have HNI := Lib.hid (show Z ∉ F from of_decide_eq_false hmem)
                    have HADD := Lib.hid (HBI.out.add hil hkl (by rw [HV1.out, ← HZ.out]; exact HNI.out))
                    by_cases hfull : F.length = most
                    case pos =>
                      have hfi : ((F.length : Int) == (most : Int)) = true := by simp; omega
                      have hbig := HFEW.out _ _ _ _ HADD.out
                      rw [List.length_append] at hbig
                      have HBIG := Lib.hid (show most < N by simp at hbig; omega)
                      clear hbig hfull
                      go_wp2_with (at_lookup; refine wpList_seen_lookup rfl _ _ rfl rfl HS.out rfl (HDIG.out Z HZW.out) (by rw [HZL.out]; omega) ?_; rw [hmem])
                      go_ret2
                      exact ⟨.inr ⟨by rw [← clS_eq HO.out HI.out, ← HNN.out]; exact HBIG.out, rfl⟩, HXB.out.trans HX.out⟩
                    case neg =>
                      have hfi : ((F.length : Int) == (most : Int)) = false := by simp; omega
                      have hlt : F.length < most := by omega
                      clear hfull
                      go_wp2_with (first
                        | (at_lookup; refine wpList_seen_lookup rfl _ _ rfl rfl HS.out rfl (HDIG.out Z HZW.out) (by rw [HZL.out]; omega) ?_; rw [hmem])
                        | (refine wpList_seen_update rfl _ _ _ (.inl rfl) rfl HS.out (by unfold maxLen; omega) rfl rfl (HDIG.out Z HZW.out) (by rw [HZL.out]; omega) ?_))
                      intro w6 hs6 hg6
                      have hsz6 := hg6.size
                      have HS6 := Lib.hid hs6
                      have HC6 := Lib.hid (HC.out.other hg6 rfl hfm)
                      have HR6 := Lib.hid (HRZ.out.grown hg6 (.inr rfl))
                      have HX6 := Lib.hid (ext_grownBy HX.out hg6 (fun k e => by injection e with e; omega))
                      clear hs6 hg6 HC HS HX HRZ
                      have hrz := HR6.out
                      obtain ⟨-, bz', cz', hze, -⟩ := id hrz
                      simp only [Value.slice.injEq, Option.some.injEq, Addr.mk.injEq, and_true, true_and] at hze
                      obtain ⟨rfl, rfl⟩ := hze
                      have hxb6 := ext_box w6 (.slice (some ⟨bz, 0, none⟩) Z.length cz) 27
                      have HC7 := Lib.hid (HC6.out.ext hxb6)
                      have HR7 := Lib.hid (HR6.out.ext hxb6)
                      have HX7 := Lib.hid (HX6.out.trans hxb6)
                      have hone := hrz.cell
                      have hs7 := HS6.out.ext hxb6
                      have HS7 := Lib.hid hs7
                      have hzb : wb.heap.size ≤ (w6.alloc (.cells #[.slice (some ⟨bz, 0, none⟩) Z.length cz] 27)).heap.size := Below.size HX7.out
                      clear hrz hxb6 hs7
                      go_wp2_with (at_builtin; refine wpList_append_one rfl _ _ 24 27 rfl Tryz.underlying24 infoSl wb.heap.size _ _ xf rfl HC7.out.own _ _ hone rfl (cell_new _ _ _) (by omega) hzb ?_)
                      intro v' w8 hown8 hgr8 hv8 hbl8
                      obtain ⟨g', c', rfl, hm8, hg8⟩ := HC7.out.app HR7.out hown8 hgr8 hv8 (by
                        rcases hbl8 with e | e
                        · exact .inl e
                        · exact .inr (by rw [show (w6.alloc (.cells #[.slice (some ⟨bz, 0, none⟩) Z.length cz] 27)).heap.size = w6.heap.size + 1 by simp]; exact e))
                      have hX8 : Ext wb w8 := Ext.grown HX7.out hgr8 HC7.out.own (Nat.le_refl _)
                      have hlg := HS7.out.lt
                      have hfm8 : g' ≠ gm := by
                        rcases hg8 with e | e
                        · omega
                        · omega
                      have hs8 := HS7.out.kept hgr8 (fun e => hfm (Option.some.inj (show some gm = some f from e)).symm)
                      have hadd := HADD.out
                      rw [HV1.out, ← HZ.out] at hadd
                      have hrow : row (F ++ [Z]) i = V := by rw [rowB_app hil]; exact HV1.out
                      have hFl : (F ++ [Z]).length = F.length + 1 := by simp
                      rw [← hFl] at hs8
                      have hil8 : i < (F ++ [Z]).length := by rw [hFl]; omega
                      have hFm8 : (F ++ [Z]).length ≤ most := by rw [hFl]; omega
                      have HM8 := Lib.hid hm8
                      have HS8 := Lib.hid hs8
                      have HX8 := Lib.hid hX8
                      have HAD := Lib.hid hadd
                      have HRO := Lib.hid hrow
                      clear hm8 hs8 hX8 hadd hrow hFl hown8 hgr8 hv8 hbl8 hg8 HADD
                      generalize F ++ [Z] = F' at *
                      go_wp2
                      go_roundw
                      case rel => exact ⟨j + 1, _, _, _, F', rfl, by go_num, HAD.out, HM8.out, hfm8, HS8.out, hil8, HRO.out, by omega, hFm8, HX8.out⟩
                      case measure => simp [intOf]; omega
end Go.Proofs.YtjfjpngajboidaaGreat


namespace Go.Proofs.YtjfjpngajboidaaGreat
set_option linter.unusedVariables false
set_option linter.unusedSimpArgs false
open Go.RowKit
open Go.Deep

@[irreducible] noncomputable def wordsB (n : Nat) (t : List (List Int)) : Bool := t.all (wordB n)
theorem wordsB_one (n : Nat) (p : List Int) : wordsB n [p] = wordB n p := by unfold wordsB; simp
theorem wordsB_two (n : Nat) (p q : List Int) : wordsB n [p, q] = (wordB n p && wordB n q) := by unfold wordsB; simp
theorem wordsB_no {n : Nat} {t : List (List Int)} {i : Nat} (hi : i < t.length) (h : wordB n (row t i) = false) : wordsB n t = false := by
  unfold wordsB
  rw [List.all_eq_false]
  refine ⟨row t i, ?_, by rw [h]; simp⟩
  rw [row_eq, List.getD_eq_getElem?_getD, List.getElem?_eq_getElem hi]; exact List.getElem_mem hi
theorem wordsB_yes {n : Nat} {t : List (List Int)} (h : ∀ i, i < t.length → wordB n (row t i) = true) : wordsB n t = true := by
  unfold wordsB
  rw [List.all_eq_true]
  intro x hx
  obtain ⟨i, hi, rfl⟩ := List.mem_iff_getElem.1 hx
  have := h i hi
  rwa [row_eq, List.getD_eq_getElem?_getD, List.getElem?_eq_getElem hi] at this
theorem wordB_long {n : Nat} {l : List Int} (h : 8 < l.length) : wordB n l = false := wordB_no.2 fun ⟨_, k⟩ => by omega
theorem wordB_all {n : Nat} {l : List Int} (h : l.length ≤ 8) : wordB n l = allInB l 0 ((n : Int) - 1) := by
  rw [Bool.eq_iff_iff, wordB_iff, allInB_iff]
  constructor
  · rintro ⟨h1, -⟩ i hi
    have := h1 i hi
    omega
  · intro h1
    refine ⟨fun i hi => ?_, h⟩
    have := h1 i hi
    omega
@[irreducible] noncomputable def codeA (L S : List (List Int)) (t : List (List Int)) : Int := if solB L S then (if wordsB L.length t then 0 else 2) else 1
theorem codeA_bad {L S t : List (List Int)} (h : solB L S = false) : codeA L S t = 1 := by unfold codeA; rw [h]; rfl
theorem codeA_out {L S t : List (List Int)} (h : solB L S = true) (k : wordsB L.length t = false) : codeA L S t = 2 := by unfold codeA; rw [h, k]; rfl
theorem codeA_ok {L S t : List (List Int)} (h : solB L S = true) (k : wordsB L.length t = true) : codeA L S t = 0 := by unfold codeA; rw [h, k]; rfl
theorem codeA_two (L S : List (List Int)) (p q : List Int) : codeA L S [p, q] = codeW L S p q := by unfold codeA codeW; rw [wordsB_two]
theorem codeA_one (L S : List (List Int)) (p : List Int) : codeA L S [p] = codeW L S p p := by unfold codeA codeW; rw [wordsB_one, Bool.and_self]

set_option maxRecDepth 100000 in
set_option maxHeartbeats 1000000 in
theorem checkWords_any (L S t : List (List Int)) (v y z : Value) (w : World) (hv : Rows w v L) (hy : Rows w y S) (hz : Rows w z t) :
    Calls Tryz.prog 30 #[.agg #[v, y], z] w fun e w' => e = .returned (.int .i64 (codeA L S t)) ∧ Ext w w' := by
  obtain ⟨hll, b, o, c, rfl, -⟩ := id hv
  obtain ⟨-, b2, o2, c2, rfl, -⟩ := id hy
  obtain ⟨htl, b3, o3, c3, rfl, -⟩ := id hz
  have hx0 : Ext w (w.alloc (.cells #[.slice (some ⟨b, o, none⟩) L.length c, .slice (some ⟨b2, o2, none⟩) S.length c2] 26)) := (Ext.refl _).alloc _
  have k0 := cell_new2a w (.slice (some ⟨b, o, none⟩) L.length c) (.slice (some ⟨b2, o2, none⟩) S.length c2) 26
  have k1 := cell_new2b w (.slice (some ⟨b, o, none⟩) L.length c) (.slice (some ⟨b2, o2, none⟩) S.length c2) 26
  have HV := Lib.hid (hv.ext hx0)
  have HY := Lib.hid (hy.ext hx0)
  have HZ := Lib.hid (hz.ext hx0)
  clear hv hy hz
  go_enter Tryz.func30, Tryz.ntmps30
  go_wp2_with fail
  generalize (w.alloc (.cells #[.slice (some ⟨b, o, none⟩) L.length c, .slice (some ⟨b2, o2, none⟩) S.length c2] 26)) = w1 at *
  refine (IsSolution_any L S _ _ _ HV.out HY.out).mono ?_
  rintro e w2 ⟨rfl, hx⟩
  replace k0 := hx.cell k0
  replace k1 := hx.cell k1
  have HZ := Lib.hid (HZ.out.ext hx)
  cases hs : solB L S with
  | false =>
    have HC := Lib.hid (codeA_bad (t := t) hs)
    clear hs
    go_wp2
    go_ret
    exact ⟨by rw [HC.out]; rfl, hx0.trans hx⟩
  | true =>
    have HS := Lib.hid hs
    have HXX := Lib.hid (hx0.trans hx)
    have h12 := (solB_iff.1 hs).l.2.1
    clear hs hx hx0
    go_wp2_with fail
    go_loopw [12] (fun x wr => ∃ i : Nat, i ≤ t.length ∧ x = .int .i64 i ∧ (∀ j, j < i → wordB L.length (row t j) = true) ∧ Ext w2 wr) (fun x _ => t.length - (intOf x).toNat)
    case atStart => exact ⟨0, Nat.zero_le _, rfl, fun j hj => by omega, Ext.refl _⟩
    case round =>
      obtain ⟨i, hi, rfl, hok, hx⟩ := hrel
      have HOK := Lib.hid hok
      have HX := Lib.hid hx
      have k0 := hx.cell k0
      have k1 := hx.cell k1
      clear hok hx
      by_cases hil : i < t.length
      case neg =>
        have hii : ¬ (i : Int) < (t.length : Int) := by omega
        have HC := Lib.hid (codeA_ok HS.out (wordsB_yes fun j hj => HOK.out j (by omega)))
        go_wp2
        go_ret
        exact ⟨by rw [HC.out]; rfl, HXX.out.trans HX.out⟩
      case pos =>
        have hii : (i : Int) < (t.length : Int) := by omega
        obtain ⟨-, b4, o4, c4, he4, hc4⟩ := HZ.out.ext HX.out
        simp only [Value.slice.injEq, Option.some.injEq, Addr.mk.injEq, and_true, true_and] at he4
        obtain ⟨⟨rfl, rfl⟩, rfl⟩ := he4
        obtain ⟨b5, o5, c5, r5, i5, m5⟩ := hc4.get hil
        have I5 := Lib.hid (i5.ints m5 c5)
        clear i5 hc4
        by_cases h8 : (row t i).length ≤ 8
        case neg =>
          have h8i : (8 : Int) < ((row t i).length : Int) := by omega
          have HC := Lib.hid (codeA_out (t := t) HS.out (wordsB_no hil (wordB_long (by omega))))
          go_wp2
          go_ret
          exact ⟨by rw [HC.out]; rfl, HXX.out.trans HX.out⟩
        case pos =>
          have h8i : ¬ (8 : Int) < ((row t i).length : Int) := by omega
          have HWA := Lib.hid (wordB_all (n := L.length) h8)
          go_wp2_with fail
          refine (areElements_any L.length (row t i) _ _ I5.out (by omega)).mono ?_
          rintro e w5 ⟨rfl, rfl⟩
          cases hb : allInB (row t i) 0 ((L.length : Int) - 1) with
          | false =>
            have HC := Lib.hid (codeA_out (t := t) HS.out (wordsB_no hil (by rw [HWA.out]; exact hb)))
            clear hb
            go_wp2
            go_ret
            exact ⟨by rw [HC.out]; rfl, HXX.out.trans HX.out⟩
          | true =>
            have HWB := Lib.hid (show wordB L.length (row t i) = true by rw [HWA.out]; exact hb)
            clear hb
            go_wp2
            go_roundw
            case rel => exact ⟨i + 1, by omega, by go_num, fun j hj => by
              by_cases e : j = i
              · subst e; exact HWB.out
              · exact HOK.out j (by omega), HX.out⟩
            case measure => simp [intOf]; omega

@[irreducible] noncomputable def limC (L S : List (List Int)) (p : List Int) : Int := if (clS L S p).length ≤ 1000 then 0 else 3
theorem limC_ok {L S : List (List Int)} {p : List Int} (h : (clS L S p).length ≤ 1000) : limC L S p = 0 := by unfold limC; rw [if_pos h]
theorem limC_many {L S : List (List Int)} {p : List Int} (h : 1000 < (clS L S p).length) : limC L S p = 3 := by unfold limC; rw [if_neg (by omega)]
theorem limC_zero {L S : List (List Int)} {p : List Int} (h : limC L S p = 0) : (clS L S p).length ≤ 1000 := by
  by_cases k : (clS L S p).length ≤ 1000
  · exact k
  · rw [limC_many (by omega)] at h; cases h

set_option maxRecDepth 100000 in
set_option maxHeartbeats 1000000 in
theorem limitedClass_any (L S : List (List Int)) (p : List Int) (v y u : Value) (w : World) (hv : Rows w v L) (hy : Rows w y S) (hu : Ints w u p) (hO : SolOk L S) (hp : WordOk L.length p) (hp8 : p.length ≤ 8) :
    Calls Tryz.prog 31 #[.agg #[v, y], u] w (RetL (limC L S p) (clS L S p) w) := by
  obtain ⟨-, b, o, c, rfl, -⟩ := id hv
  obtain ⟨-, b2, o2, c2, rfl, -⟩ := id hy
  have hx0 : Ext w (w.alloc (.cells #[.slice (some ⟨b, o, none⟩) L.length c, .slice (some ⟨b2, o2, none⟩) S.length c2] 26)) := (Ext.refl _).alloc _
  have k0 := cell_new2a w (.slice (some ⟨b, o, none⟩) L.length c) (.slice (some ⟨b2, o2, none⟩) S.length c2) 26
  have k1 := cell_new2b w (.slice (some ⟨b, o, none⟩) L.length c) (.slice (some ⟨b2, o2, none⟩) S.length c2) 26
  have HV := Lib.hid (hv.ext hx0)
  have HY := Lib.hid (hy.ext hx0)
  have HU := Lib.hid (hu.ext hx0)
  have HO := Lib.hid hO
  have HP := Lib.hid hp
  clear hv hy hu hO hp
  go_enter Tryz.func31, Tryz.ntmps31
  go_wp2_with fail
  generalize (w.alloc (.cells #[.slice (some ⟨b, o, none⟩) L.length c, .slice (some ⟨b2, o2, none⟩) S.length c2] 26)) = w1 at *
  refine (wordClass_any L S p 1000 _ _ _ _ HV.out HY.out HU.out HO.out HP.out (by omega) (by omega) (by omega)).mono ?_
  rintro e w3 ⟨⟨hle, v3, rfl, hr3⟩ | ⟨hgt, rfl⟩, hx3⟩
  · have HC := Lib.hid (limC_ok hle)
    go_wp2
    go_ret2
    exact ⟨v3, by rw [HC.out]; rfl, fun _ => hr3.low (Below.size hx0), fun h => absurd HC.out h, hx0.trans hx3⟩
  · have HC := Lib.hid (limC_many hgt)
    go_wp2
    go_ret2
    exact retL_bad (by rw [HC.out]; decide) HC.out.symm (hx0.trans hx3)

set_option maxRecDepth 100000 in
set_option maxHeartbeats 1000000 in
theorem normalWord_any (L S : List (List Int)) (p : List Int) (v y u : Value) (w : World) (hv : Rows w v L) (hy : Rows w y S) (hu : Ints w u p) (hO : SolOk L S) (hp : WordOk L.length p) (hp8 : p.length ≤ 8) :
    Calls Tryz.prog 37 #[.agg #[v, y], u] w (RetW (limC L S p) (nfS L S p) w) := by
  obtain ⟨-, b, o, c, rfl, -⟩ := id hv
  obtain ⟨-, b2, o2, c2, rfl, -⟩ := id hy
  have hx0 : Ext w (w.alloc (.cells #[.slice (some ⟨b, o, none⟩) L.length c, .slice (some ⟨b2, o2, none⟩) S.length c2] 26)) := (Ext.refl _).alloc _
  have k0 := cell_new2a w (.slice (some ⟨b, o, none⟩) L.length c) (.slice (some ⟨b2, o2, none⟩) S.length c2) 26
  have k1 := cell_new2b w (.slice (some ⟨b, o, none⟩) L.length c) (.slice (some ⟨b2, o2, none⟩) S.length c2) 26
  have HV := Lib.hid (hv.ext hx0)
  have HY := Lib.hid (hy.ext hx0)
  have HU := Lib.hid (hu.ext hx0)
  have HO := Lib.hid hO
  have HP := Lib.hid hp
  clear hv hy hu hO hp
  go_enter Tryz.func37, Tryz.ntmps37
  go_wp2_with fail
  generalize (w.alloc (.cells #[.slice (some ⟨b, o, none⟩) L.length c, .slice (some ⟨b2, o2, none⟩) S.length c2] 26)) = w1 at *
  refine (limitedClass_any L S p _ _ _ _ HV.out HY.out HU.out HO.out HP.out hp8).mono ?_
  rintro e w2 ⟨v2, rfl, h1, h2, hx⟩
  by_cases hc : limC L S p = 0
  case neg =>
    go_wp2
    go_ret2
    exact retW_bad hc rfl (hx0.trans hx)
  case pos =>
    have hr := h1 hc
    obtain ⟨-, g3, c3, rfl, -⟩ := id hr
    have hpos := clS_pos HO.out HP.out
    obtain ⟨b4, c4, r4, q4, l4, z4, i4, m4⟩ := hr.get hpos
    have I4 := Lib.hid (show RK w.heap.size (fun _ => False) w2 (.slice (some ⟨b4, 0, none⟩) (row (clS L S p) 0).length c4) (row (clS L S p) 0) from ⟨m4, b4, c4, rfl, q4, by have := Below.size hx0; omega, z4, fun h => h, i4⟩)
    have HNF := Lib.hid (nfS_row HO.out HP.out)
    have HC := Lib.hid hc
    rw [hc]
    clear hc h1 h2 hr q4 i4
    go_wp2
    go_ret2
    exact ⟨_, by rw [HC.out]; rfl, fun _ => by rw [HNF.out]; exact I4.out, fun h => absurd HC.out h, hx0.trans hx⟩
end Go.Proofs.YtjfjpngajboidaaGreat


namespace Go.Proofs.YtjfjpngajboidaaGreat
set_option linter.unusedVariables false
set_option linter.unusedSimpArgs false
open Go.RowKit
open Go.Deep

def RowsW (lo : Nat) (w : World) (v : Value) (t : List (List Int)) : Prop := (∃ a c, v = .slice a t.length c) ∧ (0 < t.length → RowsK lo w v t)
theorem RowsW.nil (lo : Nat) (w : World) : RowsW lo w (.slice none 0 0) [] := ⟨⟨none, 0, rfl⟩, fun h => by simp at h⟩
theorem ListK.rowsW {e lo : Nat} {D : Nat → Prop} {w : World} {v : Value} {xs : List Value} {t : List (List Int)} (h : ListK e lo D w v xs t) (hl : t.length ≤ 1048576) : RowsW lo w v t := ⟨h.shape, fun hp => by
  obtain ⟨g, c, rfl, hm⟩ := h.mine hp
  exact hm.toRows hl⟩
theorem RowsW.low {lo lo' : Nat} {w : World} {v : Value} {t : List (List Int)} (h : RowsW lo w v t) (hl : lo' ≤ lo) : RowsW lo' w v t := ⟨h.1, fun hp => (h.2 hp).low hl⟩
def RetN (c : Int) (t : List (List Int)) (w : World) (e : Ending) (w' : World) : Prop := ∃ v, e = .returned (.tuple #[v, .int .i64 c]) ∧ RowsW w.heap.size w' v t ∧ Ext w w'
theorem retN_bad {c d : Int} {t : List (List Int)} {w w' : World} (ht : t = []) (e : d = c) (hx : Ext w w') : RetN c t w (.returned (.tuple #[.slice none 0 0, .int .i64 d])) w' := ⟨_, by rw [e], by rw [ht]; exact RowsW.nil _ _, hx⟩
theorem rows_two {w : World} {x y : Value} {p q : List Int} {g : Nat} (hg : g = w.heap.size) (e : TypeId) (hx : Ints w x p) (hy : Ints w y q) : Rows (w.alloc (.cells #[x, y] e)) (.slice (some ⟨g, 0, none⟩) 2 2) [p, q] := by
  subst hg
  refine ⟨by simp, w.heap.size, 0, 2, rfl, fun i hi => ?_⟩
  match i, hi with
  | 0, _ => exact ⟨x, by rw [Nat.zero_add]; simp [go_sem], by rw [row_eq]; exact hx.ext ((Ext.refl w).alloc _)⟩
  | 1, _ => exact ⟨y, by rw [Nat.zero_add]; simp [go_sem], by rw [row_eq]; exact hy.ext ((Ext.refl w).alloc _)⟩
theorem rows_one {w : World} {x : Value} {p : List Int} {g : Nat} (hg : g = w.heap.size) (e : TypeId) (hx : Ints w x p) : Rows (w.alloc (.cells #[x] e)) (.slice (some ⟨g, 0, none⟩) 1 1) [p] := by
  subst hg
  refine ⟨by simp, w.heap.size, 0, 1, rfl, fun i hi => ?_⟩
  match i, hi with
  | 0, _ => exact ⟨x, by rw [Nat.zero_add]; simp [go_sem], by rw [row_eq]; exact hx.ext ((Ext.refl w).alloc _)⟩

set_option maxRecDepth 100000 in
set_option maxHeartbeats 4000000 in
theorem restsOf_any (L S : List (List Int)) (p q : List Int) (v y u z : Value) (w : World) (hv : Rows w v L) (hy : Rows w y S) (hu : Ints w u p) (hz : Ints w z q) :
    Calls Tryz.prog 26 #[.agg #[v, y], u, z] w (RetN (dvC L S p q) (rsV L S p q) w) := by
  obtain ⟨-, b, o, c, rfl, -⟩ := id hv
  obtain ⟨-, b2, o2, c2, rfl, -⟩ := id hy
  obtain ⟨-, b3, o3, c3, rfl, -⟩ := id hu
  obtain ⟨-, b4, o4, c4, rfl, -⟩ := id hz
  have hx0 : Ext w (w.alloc (.cells #[.slice (some ⟨b, o, none⟩) L.length c, .slice (some ⟨b2, o2, none⟩) S.length c2] 26)) := (Ext.refl _).alloc _
  have k0 := cell_new2a w (.slice (some ⟨b, o, none⟩) L.length c) (.slice (some ⟨b2, o2, none⟩) S.length c2) 26
  have k1 := cell_new2b w (.slice (some ⟨b, o, none⟩) L.length c) (.slice (some ⟨b2, o2, none⟩) S.length c2) 26
  have HV := Lib.hid (hv.ext hx0)
  have HY := Lib.hid (hy.ext hx0)
  have HU := Lib.hid (hu.ext hx0)
  have HZ := Lib.hid (hz.ext hx0)
  clear hv hy hu hz
  go_enter Tryz.func26, Tryz.ntmps26
  go_wp2_with fail
  have hz1 : w.heap.size + 1 = (w.alloc (.cells #[.slice (some ⟨b, o, none⟩) L.length c, .slice (some ⟨b2, o2, none⟩) S.length c2] 26)).heap.size := by simp
  generalize (w.alloc (.cells #[.slice (some ⟨b, o, none⟩) L.length c, .slice (some ⟨b2, o2, none⟩) S.length c2] 26)) = w1 at *
  have hxa : Ext w1 (w1.alloc (.cells #[.slice (some ⟨b3, o3, none⟩) p.length c3, .slice (some ⟨b4, o4, none⟩) q.length c4] 27)) := (Ext.refl _).alloc _
  refine (checkWords_any L S [p, q] _ _ _ _ (HV.out.ext hxa) (HY.out.ext hxa) (rows_two hz1 27 HU.out HZ.out)).mono ?_
  rintro e w2 ⟨rfl, hx⟩
  rw [codeA_two]
  replace hx := hxa.trans hx
  replace k0 := hx.cell k0
  replace k1 := hx.cell k1
  have HV := Lib.hid (HV.out.ext hx)
  have HY := Lib.hid (HY.out.ext hx)
  have HU := Lib.hid (HU.out.ext hx)
  have HZ := Lib.hid (HZ.out.ext hx)
  have HX := Lib.hid (hx0.trans hx)
  clear hx hxa hx0 hz1
  by_cases hc : codeW L S p q = 0
  case neg =>
    have HQ := Lib.hid (dvC_bad hc)
    have HR := Lib.hid (rsV_no (show dvC L S p q ≠ 0 by rw [HQ.out]; exact hc))
    go_wp2_with fail
    go_ret2
    exact retN_bad HR.out HQ.out.symm HX.out
  case pos =>
    obtain ⟨hO, ⟨hp, hp8⟩, hq, hq8⟩ := codeW_zero hc
    have HC := Lib.hid hc
    have HO := Lib.hid hO
    have HWP := Lib.hid hp
    have HWQ := Lib.hid hq
    rw [hc]
    clear hc hO hp hq
    go_wp2_with fail
    refine (limitedClass_any L S p _ _ _ _ HV.out HY.out HU.out HO.out HWP.out hp8).mono ?_
    rintro e w3 ⟨v3, rfl, -, h32, hx3⟩
    replace k0 := hx3.cell k0
    replace k1 := hx3.cell k1
    have HX := Lib.hid (HX.out.trans hx3)
    by_cases hl1 : limC L S p = 0
    case neg =>
      have HQ := Lib.hid (show dvC L S p q = limC L S p from by
        by_cases k : (clS L S p).length ≤ 1000
        · exact absurd (limC_ok k) hl1
        · rw [limC_many (by omega)]; exact dvC_many HC.out (fun h => k h.1))
      have HR := Lib.hid (rsV_no (show dvC L S p q ≠ 0 by rw [HQ.out]; exact hl1))
      clear h32
      go_wp2
      go_ret2
      exact retN_bad HR.out HQ.out.symm HX.out
    case pos =>
      have hle1 := limC_zero hl1
      rw [hl1]
      clear hl1 h32
      go_wp2_with fail
      refine (limitedClass_any L S q _ _ _ _ (HV.out.ext hx3) (HY.out.ext hx3) (HZ.out.ext hx3) HO.out HWQ.out hq8).mono ?_
      rintro e w4 ⟨v4, rfl, h41, h42, hx4⟩
      have HX := Lib.hid (HX.out.trans hx4)
      by_cases hl2 : limC L S q = 0
      case neg =>
        have HQ := Lib.hid (show dvC L S p q = limC L S q from by
          by_cases k : (clS L S q).length ≤ 1000
          · exact absurd (limC_ok k) hl2
          · rw [limC_many (by omega)]; exact dvC_many HC.out (fun h => k h.2))
        have HR := Lib.hid (rsV_no (show dvC L S p q ≠ 0 by rw [HQ.out]; exact hl2))
        clear h42 h41
        go_wp2
        go_ret2
        exact retN_bad HR.out HQ.out.symm HX.out
      case pos =>
        have hle2 := limC_zero hl2
        have HDC := Lib.hid (dvC_ok HC.out hle1 hle2)
        have hr := h41 hl2
        obtain ⟨-, g4, cg4, rfl, -⟩ := id hr
        have HR4 := Lib.hid hr
        have HU := Lib.hid ((HU.out.ext hx3).ext hx4)
        rw [hl2]
        clear hl2 h41 h42 hr hx4 hx3 k0 k1 hle1
        go_wp2_with fail
        go_loopw [13, 44] (fun vr vi wr => ∃ (i : Nat) (xs : List Value), i ≤ (clS L S q).length ∧ vi = .int .i64 i ∧ ListK 27 w4.heap.size (fun _ => False) wr vr xs (rstS p ((clS L S q).take i)) ∧ Ext w4 wr) (fun _ x _ => (clS L S q).length - (intOf x).toNat)
        case atStart => exact ⟨0, [], Nat.zero_le _, rfl, by rw [List.take_zero, rstS_nil]; exact ListK.nil _ _ _ _, Ext.refl _⟩
        case round =>
          obtain ⟨i, xs, hi, rfl, hL, hx⟩ := hrel
          have HL := Lib.hid hL
          have HXW := Lib.hid hx
          have hlen := rstS_len p ((clS L S q).take i)
          rw [List.length_take] at hlen
          clear hx
          by_cases hil : i < (clS L S q).length
          case neg =>
            have hki : ¬ (i : Int) < ((clS L S q).length : Int) := by omega
            rw [List.take_of_length_le (by omega), rstS_all] at hL
            have HN := Lib.hid ((hL.rowsW (by rw [← rstS_all]; have := rstS_len p (clS L S q); omega)).low (lo' := w.heap.size) (Below.size HX.out))
            have HRV := Lib.hid (rsV_ok HDC.out)
            clear hL hlen
            go_wp2
            go_ret2
            exact ⟨_, by rw [HDC.out]; rfl, by rw [HRV.out]; exact HN.out, HX.out.trans HXW.out⟩
          case pos =>
            have hki : (i : Int) < ((clS L S q).length : Int) := by omega
            clear hL
            obtain ⟨b5, d5, r5, q5, -, -, i5, m5⟩ := (HR4.out.ext HXW.out).get hil
            obtain ⟨hxw, hxl⟩ := clS_word HO.out HWQ.out (clS_row HO.out HWQ.out hil)
            have HTK := Lib.hid (show (clS L S q).take (i + 1) = (clS L S q).take i ++ [row (clS L S q) i] from take_row _ i hil)
            obtain ⟨x, hxe⟩ : ∃ x, x = row (clS L S q) i := ⟨_, rfl⟩
            rw [← hxe] at r5 q5 i5 m5 hxw hxl HTK
            have HXL := Lib.hid hxl
            have I5 := Lib.hid i5
            clear hxe hxw hxl
            by_cases hpx : p.length ≤ x.length
            case neg =>
              have hpxi : ¬ (p.length : Int) ≤ (x.length : Int) := by omega
              have HNO := Lib.hid (rstS_no (l := (clS L S q).take i) (show x.take p.length ≠ p from fun e => by
                have := congrArg List.length e
                rw [List.length_take] at this
                omega))
              clear i5
              go_wp2
              go_roundw
              case rel => exact ⟨i + 1, xs, by omega, by go_num, by rw [HTK.out, HNO.out]; exact HL.out, HXW.out⟩
              case measure => simp [intOf]; omega
            case pos =>
              have hpxi : (p.length : Int) ≤ (x.length : Int) := by omega
              have hpd : p.length ≤ d5 := by omega
              have hpdi : (p.length : Int) ≤ (d5 : Int) := by omega
              have HF := Lib.hid (intsW_take (c := d5) i5 m5 hpx)
              have HD := Lib.hid (intsW_drop (c := d5 - p.length) i5 m5 hpx)
              clear i5
              go_wp2_with fail
              refine (slicesEqual_any (x.take p.length) p _ _ _ HF.out (HU.out.ext HXW.out)).mono ?_
              rintro e w5 ⟨rfl, hx5⟩
              have HL := Lib.hid (HL.out.ext hx5)
              have HXW := Lib.hid (HXW.out.trans hx5)
              have HD := Lib.hid (HD.out.ext hx5)
              clear hx5 r5
              cases heq : eqIB (x.take p.length) p with
              | false =>
                have HNO := Lib.hid (rstS_no (l := (clS L S q).take i) (show x.take p.length ≠ p from fun e => by rw [eqIB_yes e] at heq; cases heq))
                clear heq
                go_wp2
                go_roundw
                case rel => exact ⟨i + 1, xs, by omega, by go_num, by rw [HTK.out, HNO.out]; exact HL.out, HXW.out⟩
                case measure => simp [intOf]; omega
              | true =>
                have HYE := Lib.hid (rstS_yes (l := (clS L S q).take i) (eqIB_iff.1 heq))
                have hnil : d5 = p.length → x.drop p.length = [] := fun e => List.drop_eq_nil_of_le (by omega)
                clear heq
                have hcl : ∃ xv, (if d5 = p.length then (.slice (some ⟨b5, 0, none⟩) (x.length - p.length) 0 : Value) else .slice (some ⟨b5, 0 + p.length, none⟩) (x.length - p.length) (d5 - p.length)) = xv ∧ Ints w5 xv (x.drop p.length) := by
                  by_cases hd : d5 = p.length
                  · exact ⟨_, by rw [if_pos hd], by rw [hnil hd]; exact ⟨by simp, b5, 0, 0, by rw [show x.length - p.length = 0 by omega]; rfl, fun i hi => by simp at hi⟩⟩
                  · exact ⟨_, by rw [if_neg hd], HD.out⟩
                obtain ⟨xv, hxv, hxi⟩ := hcl
                have HXI := Lib.hid hxi
                clear hnil hxi HD
                by_cases hd : d5 = p.length
                · rw [if_pos hd] at hxv
                  subst hxv
                  have HXP := Lib.hid (show x.length = p.length by omega)
                  subst hd
                  clear q5
                  go_wp2_with fail
                  refine (slicesClone_k (x.drop p.length) _ _ HXI.out).mono ?_
                  rintro e w6 ⟨x6, rfl, hr6, hx6⟩
                  obtain ⟨-, b6, c6, rfl, -⟩ := id hr6
                  rw [List.length_drop] at hr6
                  have zx : w4.heap.size ≤ w5.heap.size := Below.size HXW.out
                  have hone := hr6.cell
                  have hxb := hx6.trans (ext_box w6 (.slice (some ⟨b6, 0, none⟩) (x.length - p.length) c6) 27)
                  have HR6 := Lib.hid ((hr6.mono (lo' := w4.heap.size) (D' := fun b => u13.ownBlock = some b ∨ False) zx (fun b h1 h2 q => q.elim (fun e => absurd (HL.out.lt b e).2 (by omega)) id)).ext (ext_box w6 (.slice (some ⟨b6, 0, none⟩) (x.length - p.length) c6) 27))
                  have HL6 := Lib.hid (HL.out.ext hxb)
                  have HX6 := Lib.hid (HXW.out.trans hxb)
                  have hzb : w4.heap.size ≤ (w6.alloc (.cells #[.slice (some ⟨b6, 0, none⟩) (x.length - p.length) c6] 27)).heap.size := Below.size HX6.out
                  clear hr6 hx6 hxb HL HXW
                  go_wp2_with (at_builtin; refine wpList_append_one rfl _ _ 24 27 rfl Tryz.underlying24 infoSl w4.heap.size _ _ xs rfl HL6.out.own _ _ hone rfl (cell_new _ _ _) (by omega) hzb ?_)
                  intro v' w8 hown8 hgr8 hv8 hbl8
                  have hm8 := HL6.out.app HR6.out hown8 hgr8 (by
                    rcases hbl8 with e | e
                    · exact .inl e
                    · exact .inr (by rw [show (w6.alloc (.cells #[.slice (some ⟨b6, 0, none⟩) (x.length - p.length) c6] 27)).heap.size = w6.heap.size + 1 by simp]; exact e))
                  have hX8 : Ext w4 w8 := Ext.grown HX6.out hgr8 HL6.out.own (Nat.le_refl _)
                  have HM8 := Lib.hid hm8
                  clear hown8 hgr8 hv8 hbl8 hm8
                  go_wp2
                  go_roundw
                  case rel => exact ⟨i + 1, _, by omega, by go_num, by rw [HTK.out, HYE.out]; exact HM8.out, hX8⟩
                  case measure => simp [intOf]; omega
                · rw [if_neg hd] at hxv
                  subst hxv
                  go_wp2_with fail
                  refine (slicesClone_k (x.drop p.length) _ _ (by first | exact HXI.out | (have := HXI.out; simpa using this))).mono ?_
                  rintro e w6 ⟨x6, rfl, hr6, hx6⟩
                  obtain ⟨-, b6, c6, rfl, -⟩ := id hr6
                  rw [List.length_drop] at hr6
                  have zx : w4.heap.size ≤ w5.heap.size := Below.size HXW.out
                  have hone := hr6.cell
                  have hxb := hx6.trans (ext_box w6 (.slice (some ⟨b6, 0, none⟩) (x.length - p.length) c6) 27)
                  have HR6 := Lib.hid ((hr6.mono (lo' := w4.heap.size) (D' := fun b => u13.ownBlock = some b ∨ False) zx (fun b h1 h2 q => q.elim (fun e => absurd (HL.out.lt b e).2 (by omega)) id)).ext (ext_box w6 (.slice (some ⟨b6, 0, none⟩) (x.length - p.length) c6) 27))
                  have HL6 := Lib.hid (HL.out.ext hxb)
                  have HX6 := Lib.hid (HXW.out.trans hxb)
                  have hzb : w4.heap.size ≤ (w6.alloc (.cells #[.slice (some ⟨b6, 0, none⟩) (x.length - p.length) c6] 27)).heap.size := Below.size HX6.out
                  clear hr6 hx6 hxb HL HXW
                  go_wp2_with (at_builtin; refine wpList_append_one rfl _ _ 24 27 rfl Tryz.underlying24 infoSl w4.heap.size _ _ xs rfl HL6.out.own _ _ hone rfl (cell_new _ _ _) (by omega) hzb ?_)
                  intro v' w8 hown8 hgr8 hv8 hbl8
                  have hm8 := HL6.out.app HR6.out hown8 hgr8 (by
                    rcases hbl8 with e | e
                    · exact .inl e
                    · exact .inr (by rw [show (w6.alloc (.cells #[.slice (some ⟨b6, 0, none⟩) (x.length - p.length) c6] 27)).heap.size = w6.heap.size + 1 by simp]; exact e))
                  have hX8 : Ext w4 w8 := Ext.grown HX6.out hgr8 HL6.out.own (Nat.le_refl _)
                  have HM8 := Lib.hid hm8
                  clear hown8 hgr8 hv8 hbl8 hm8
                  go_wp2
                  go_roundw
                  case rel => exact ⟨i + 1, _, by omega, by go_num, by rw [HTK.out, HYE.out]; exact HM8.out, hX8⟩
                  case measure => simp [intOf]; omega
end Go.Proofs.YtjfjpngajboidaaGreat


namespace Go.Proofs.YtjfjpngajboidaaGreat
set_option linter.unusedVariables false
set_option linter.unusedSimpArgs false
open Go.RowKit
open Go.Deep

set_option maxRecDepth 100000 in
set_option maxHeartbeats 1000000 in
theorem DividesWord_impl (L S : List (List Int)) (p q : List Int) (v y u z : Value) (w : World) (hv : Rows w v L) (hy : Rows w y S) (hu : Ints w u p) (hz : Ints w z q) :
    Calls Tryz.prog 9 #[.agg #[v, y], u, z] w (RetDv L S p q w) := by
  obtain ⟨-, b, o, c, rfl, -⟩ := id hv
  obtain ⟨-, b2, o2, c2, rfl, -⟩ := id hy
  have hx0 : Ext w (w.alloc (.cells #[.slice (some ⟨b, o, none⟩) L.length c, .slice (some ⟨b2, o2, none⟩) S.length c2] 26)) := (Ext.refl _).alloc _
  have k0 := cell_new2a w (.slice (some ⟨b, o, none⟩) L.length c) (.slice (some ⟨b2, o2, none⟩) S.length c2) 26
  have k1 := cell_new2b w (.slice (some ⟨b, o, none⟩) L.length c) (.slice (some ⟨b2, o2, none⟩) S.length c2) 26
  have HV := Lib.hid (hv.ext hx0)
  have HY := Lib.hid (hy.ext hx0)
  have HU := Lib.hid (hu.ext hx0)
  have HZ := Lib.hid (hz.ext hx0)
  clear hv hy hu hz
  go_enter Tryz.func9, Tryz.ntmps9
  go_wp2_with fail
  generalize (w.alloc (.cells #[.slice (some ⟨b, o, none⟩) L.length c, .slice (some ⟨b2, o2, none⟩) S.length c2] 26)) = w1 at *
  refine (restsOf_any L S p q _ _ _ _ _ HV.out HY.out HU.out HZ.out).mono ?_
  rintro e w2 ⟨v2, rfl, ⟨⟨a2, d2, rfl⟩, -⟩, hx⟩
  have HB := Lib.hid (dvB_rs L S p q)
  have hd : decide ((0 : Int) < ((rsV L S p q).length : Int)) = decide (0 < (rsV L S p q).length) := by rw [decide_eq_decide]; omega
  go_wp2
  go_ret2
  exact ⟨by rw [HB.out, ← hd]; rfl, hx0.trans hx⟩

set_option maxRecDepth 100000 in
set_option maxHeartbeats 1000000 in
theorem QuotientWord_impl (L S : List (List Int)) (p q : List Int) (v y u z : Value) (w : World) (hv : Rows w v L) (hy : Rows w y S) (hu : Ints w u p) (hz : Ints w z q) :
    Calls Tryz.prog 7 #[.agg #[v, y], u, z] w (RetW (quC L S p q) (quV L S p q) w) := by
  obtain ⟨-, b, o, c, rfl, -⟩ := id hv
  obtain ⟨-, b2, o2, c2, rfl, -⟩ := id hy
  have hx0 : Ext w (w.alloc (.cells #[.slice (some ⟨b, o, none⟩) L.length c, .slice (some ⟨b2, o2, none⟩) S.length c2] 26)) := (Ext.refl _).alloc _
  have k0 := cell_new2a w (.slice (some ⟨b, o, none⟩) L.length c) (.slice (some ⟨b2, o2, none⟩) S.length c2) 26
  have k1 := cell_new2b w (.slice (some ⟨b, o, none⟩) L.length c) (.slice (some ⟨b2, o2, none⟩) S.length c2) 26
  have HV := Lib.hid (hv.ext hx0)
  have HY := Lib.hid (hy.ext hx0)
  have HU := Lib.hid (hu.ext hx0)
  have HZ := Lib.hid (hz.ext hx0)
  clear hv hy hu hz
  go_enter Tryz.func7, Tryz.ntmps7
  go_wp2_with fail
  generalize (w.alloc (.cells #[.slice (some ⟨b, o, none⟩) L.length c, .slice (some ⟨b2, o2, none⟩) S.length c2] 26)) = w1 at *
  refine (restsOf_any L S p q _ _ _ _ _ HV.out HY.out HU.out HZ.out).mono ?_
  rintro e w2 ⟨v2, rfl, ⟨⟨a2, d2, rfl⟩, hr⟩, hx⟩
  have HX := Lib.hid (hx0.trans hx)
  clear hx
  by_cases hc : dvC L S p q = 0
  case neg =>
    have HQ := Lib.hid (quC_bad hc)
    clear hr
    go_wp2
    go_ret2
    exact retW_bad (by rw [HQ.out]; exact hc) HQ.out.symm HX.out
  case pos =>
    have HD := Lib.hid hc
    rw [rsV_ok hc] at hr
    have hlen : (rsV L S p q).length = (rsS L S p q).length := by rw [rsV_ok hc]
    rw [hc, hlen]
    clear hc hlen
    by_cases hp : 0 < (rsS L S p q).length
    case neg =>
      have HQ := Lib.hid (quC_no HD.out (show (rsS L S p q).isEmpty = true by rw [List.isEmpty_iff]; exact List.eq_nil_of_length_eq_zero (by omega)))
      have hz0 : (rsS L S p q).length = 0 := by omega
      clear hr
      rw [hz0]
      go_wp2
      go_ret2
      exact retW_bad (by rw [HQ.out]; decide) HQ.out.symm HX.out
    case pos =>
      have hne : (rsS L S p q).isEmpty = false := by
        cases e : rsS L S p q with
        | nil => rw [e] at hp; simp at hp
        | cons a r => rfl
      have HQ := Lib.hid (quC_ok HD.out hne)
      have hh := quV_head hne
      have HV0 := Lib.hid (show row (rsS L S p q) 0 = quV L S p q by
        rw [row_eq, List.getD_eq_getElem?_getD]
        cases e : rsS L S p q with
        | nil => rw [e] at hp; simp at hp
        | cons a r => rw [e] at hh; simpa using hh)
      obtain ⟨hl0, g3, c3, he, -⟩ := id (hr hp)
      simp only [Value.slice.injEq] at he
      obtain ⟨rfl, -, rfl⟩ := he
      have hr := hr hp
      obtain ⟨b4, c4, r4, q4, l4, z4, i4, m4⟩ := hr.get hp
      rw [HV0.out] at r4 q4 i4 m4
      have I4 := Lib.hid (show RK w.heap.size (fun _ => False) w2 (.slice (some ⟨b4, 0, none⟩) (quV L S p q).length c4) (quV L S p q) from ⟨m4, b4, c4, rfl, q4, by have hb := (Below.size hx0 : w.heap.size ≤ w1.heap.size); exact Nat.le_trans hb l4, z4, fun h => h, i4⟩)
      have hpi : (((rsS L S p q).length : Int) == 0) = false := by rw [beq_eq_false_iff_ne]; omega
      clear hr q4 i4 hne hh
      go_wp2
      go_ret2
      exact ⟨_, by rw [HQ.out]; rfl, fun _ => I4.out, fun h => absurd HQ.out h, HX.out⟩

@[irreducible] noncomputable def aeC (L S : List (List Int)) (p q : List Int) : Int := if codeW L S p q = 0 then limC L S p else codeW L S p q
theorem aeC_bad {L S : List (List Int)} {p q : List Int} (h : codeW L S p q ≠ 0) : aeC L S p q = codeW L S p q := by unfold aeC; rw [if_neg h]
theorem aeC_ok {L S : List (List Int)} {p q : List Int} (h : codeW L S p q = 0) : aeC L S p q = limC L S p := by unfold aeC; rw [if_pos h]
@[irreducible] noncomputable def aeB (L S : List (List Int)) (p q : List Int) : Bool := decide (aeC L S p q = 0) && decide (q ∈ clS L S p)
theorem aeB_bad {L S : List (List Int)} {p q : List Int} (h : aeC L S p q ≠ 0) : aeB L S p q = false := by unfold aeB; rw [decide_eq_false h]; rfl
theorem aeB_ok {L S : List (List Int)} {p q : List Int} (h : aeC L S p q = 0) : aeB L S p q = decide (q ∈ clS L S p) := by unfold aeB; rw [decide_eq_true h]; rfl
def RetAe (L S : List (List Int)) (p q : List Int) (w : World) (e : Ending) (w' : World) : Prop := e = .returned (.tuple #[.bool (aeB L S p q), .int .i64 (aeC L S p q)]) ∧ Ext w w'
theorem retAe_bad {L S : List (List Int)} {p q : List Int} {w w' : World} {c : Int} (hc : aeC L S p q = c) (h0 : c ≠ 0) (hx : Ext w w') : RetAe L S p q w (.returned (.tuple #[.bool false, .int .i64 c])) w' := by
  subst hc
  unfold RetAe
  rw [aeB_bad h0]
  exact ⟨rfl, hx⟩
theorem find_mem (S : List (List Int)) (p : List Int) : decide ((0 : Int) ≤ findL S p) = decide (p ∈ S) := by
  rw [← anyB_mem, anyB_find, findL_eq]

set_option maxRecDepth 100000 in
set_option maxHeartbeats 1000000 in
theorem AreEqualWords_impl (L S : List (List Int)) (p q : List Int) (v y u z : Value) (w : World) (hv : Rows w v L) (hy : Rows w y S) (hu : Ints w u p) (hz : Ints w z q) :
    Calls Tryz.prog 12 #[.agg #[v, y], u, z] w (RetAe L S p q w) := by
  obtain ⟨-, b, o, c, rfl, -⟩ := id hv
  obtain ⟨-, b2, o2, c2, rfl, -⟩ := id hy
  obtain ⟨-, b3, o3, c3, rfl, -⟩ := id hu
  obtain ⟨-, b4, o4, c4, rfl, -⟩ := id hz
  have hx0 : Ext w (w.alloc (.cells #[.slice (some ⟨b, o, none⟩) L.length c, .slice (some ⟨b2, o2, none⟩) S.length c2] 26)) := (Ext.refl _).alloc _
  have k0 := cell_new2a w (.slice (some ⟨b, o, none⟩) L.length c) (.slice (some ⟨b2, o2, none⟩) S.length c2) 26
  have k1 := cell_new2b w (.slice (some ⟨b, o, none⟩) L.length c) (.slice (some ⟨b2, o2, none⟩) S.length c2) 26
  have HV := Lib.hid (hv.ext hx0)
  have HY := Lib.hid (hy.ext hx0)
  have HU := Lib.hid (hu.ext hx0)
  have HZ := Lib.hid (hz.ext hx0)
  clear hv hy hu hz
  go_enter Tryz.func12, Tryz.ntmps12
  go_wp2_with fail
  have hz1 : w.heap.size + 1 = (w.alloc (.cells #[.slice (some ⟨b, o, none⟩) L.length c, .slice (some ⟨b2, o2, none⟩) S.length c2] 26)).heap.size := by simp
  generalize (w.alloc (.cells #[.slice (some ⟨b, o, none⟩) L.length c, .slice (some ⟨b2, o2, none⟩) S.length c2] 26)) = w1 at *
  have hxa : Ext w1 (w1.alloc (.cells #[.slice (some ⟨b3, o3, none⟩) p.length c3, .slice (some ⟨b4, o4, none⟩) q.length c4] 27)) := (Ext.refl _).alloc _
  refine (checkWords_any L S [p, q] _ _ _ _ (HV.out.ext hxa) (HY.out.ext hxa) (rows_two hz1 27 HU.out HZ.out)).mono ?_
  rintro e w2 ⟨rfl, hx⟩
  rw [codeA_two]
  replace hx := hxa.trans hx
  replace k0 := hx.cell k0
  replace k1 := hx.cell k1
  have HV := Lib.hid (HV.out.ext hx)
  have HY := Lib.hid (HY.out.ext hx)
  have HU := Lib.hid (HU.out.ext hx)
  have HZ := Lib.hid (HZ.out.ext hx)
  have HX := Lib.hid (hx0.trans hx)
  clear hx hxa hx0 hz1
  by_cases hc : codeW L S p q = 0
  case neg =>
    have HQ := Lib.hid (aeC_bad hc)
    go_wp2_with fail
    go_ret2
    exact retAe_bad HQ.out hc HX.out
  case pos =>
    obtain ⟨hO, ⟨hp, hp8⟩, hq, hq8⟩ := codeW_zero hc
    have HC := Lib.hid hc
    have HO := Lib.hid hO
    have HWP := Lib.hid hp
    rw [hc]
    clear hc hO hp hq
    go_wp2_with fail
    refine (limitedClass_any L S p _ _ _ _ HV.out HY.out HU.out HO.out HWP.out hp8).mono ?_
    rintro e w3 ⟨v3, rfl, h31, h32, hx3⟩
    have HX := Lib.hid (HX.out.trans hx3)
    have HQ := Lib.hid (aeC_ok HC.out)
    by_cases hl1 : limC L S p = 0
    case neg =>
      clear h31 h32
      go_wp2
      go_ret2
      exact retAe_bad HQ.out hl1 HX.out
    case pos =>
      have HR := Lib.hid (h31 hl1).rows
      have HZ := Lib.hid (HZ.out.ext hx3)
      have HB := Lib.hid (show aeB L S p q = decide ((0 : Int) ≤ findL (clS L S p) q) by rw [aeB_ok (by rw [HQ.out]; exact hl1), find_mem])
      have HQ0 := Lib.hid (HQ.out.trans hl1)
      rw [hl1]
      clear h31 h32 hl1 hx3
      go_wp2_with fail
      refine (listIndex_any (clS L S p) q _ _ _ HR.out HZ.out).mono ?_
      rintro e w4 ⟨rfl, hx4⟩
      go_wp2
      go_ret2
      exact ⟨by rw [HB.out, HQ0.out]; rfl, HX.out.trans hx4⟩
end Go.Proofs.YtjfjpngajboidaaGreat


namespace Go.Proofs.YtjfjpngajboidaaGreat
set_option linter.unusedVariables false
set_option linter.unusedSimpArgs false

theorem dvB_zero {L S : List (List Int)} {u w : List Int} (h : dvB L S u w = true) : dvC L S u w = 0 ∧ (rsS L S u w).isEmpty = false := by
  by_cases hc : dvC L S u w = 0
  · rw [dvB_ok hc] at h
    exact ⟨hc, by simpa using h⟩
  · rw [dvB_no hc] at h; cases h
theorem quot_same {L S : List (List Int)} {u w : List Int} (h : dvB L S u w = true) : aeC L S (u ++ quV L S u w) w = 0 ∧ aeB L S (u ++ quV L S u w) w = true := by
  obtain ⟨hc, he⟩ := dvB_zero h
  obtain ⟨h0, h1, h2⟩ := dvC_zero hc
  obtain ⟨hO, ⟨hu, hu8⟩, hw, hw8⟩ := codeW_zero h0
  obtain ⟨-, hv, hE⟩ := rest_nf hO hw (quV_head he)
  have hlen := hE.len
  have hok := hE.ok hO hw
  have hcode : codeW L S (u ++ quV L S u w) w = 0 := codeW_ok (solB_iff.2 hO) (wordB_iff.2 ⟨hok, by rw [hlen]; exact hw8⟩) (wordB_iff.2 ⟨hw, hw8⟩)
  have hcl := clS_same hO hw hE
  have hae : aeC L S (u ++ quV L S u w) w = 0 := by
    rw [aeC_ok hcode]
    exact limC_ok (by rw [hcl]; exact h2)
  refine ⟨hae, ?_⟩
  rw [aeB_ok hae, decide_eq_true_iff, hcl]
  exact clS_self hO hw
theorem quot_code {L S : List (List Int)} {u w : List Int} (h : dvC L S u w = 0) : (dvB L S u w = true ∧ quC L S u w = 0) ∨ (dvB L S u w = false ∧ quC L S u w = 4) := by
  cases he : (rsS L S u w).isEmpty with
  | true => exact .inr ⟨by rw [dvB_ok h, he]; rfl, quC_no h he⟩
  | false => exact .inl ⟨by rw [dvB_ok h, he]; rfl, quC_ok h he⟩
theorem div_all {L S : List (List Int)} {w v : List Int} (hc : clsC L S w = 0) (hv : v ∈ dvT L S w (w.length + 1)) : dvC L S v w = 0 ∧ dvB L S v w = true := by
  obtain ⟨h0, h1⟩ := clsC_zero hc
  obtain ⟨hO, ⟨hw, hw8⟩, -⟩ := codeW_zero h0
  obtain ⟨k, hk, hm⟩ := mem_dvT.1 hv
  obtain ⟨hr, hvo, hvl, hcl⟩ := dvK_divides hO hw (by omega) hm
  have hcode : codeW L S v w = 0 := codeW_ok (solB_iff.2 hO) (wordB_iff.2 ⟨hvo, by omega⟩) (wordB_iff.2 ⟨hw, hw8⟩)
  have hd := dvC_ok hcode (by omega) h1
  refine ⟨hd, ?_⟩
  rw [dvB_ok hd]
  cases e : rsS L S v w with
  | nil => exact absurd e hr
  | cons a r => rfl
theorem div_some {L S : List (List Int)} {w : List Int} (hc : clsC L S w = 0) : 0 < (dvT L S w (w.length + 1)).length := by
  obtain ⟨h0, h1⟩ := clsC_zero hc
  obtain ⟨hO, ⟨hw, hw8⟩, -⟩ := codeW_zero h0
  refine List.length_pos_of_mem (a := nfS L S (w.take 0)) (mem_dvT.2 ⟨0, by omega, (mem_dvK hO hw (Nat.zero_le _)).2 ⟨w, clS_self hO hw, rfl⟩⟩)
theorem div_row {L S : List (List Int)} {w : List Int} {j : Nat} (hc : clsC L S w = 0) (hj : j < (dvT L S w (w.length + 1)).length) : dvC L S (row (dvT L S w (w.length + 1)) j) w = 0 ∧ dvB L S (row (dvT L S w (w.length + 1)) j) w = true :=
  div_all hc (by rw [row_eq, List.getD_eq_getElem?_getD, List.getElem?_eq_getElem hj]; exact List.getElem_mem hj)
end Go.Proofs.YtjfjpngajboidaaGreat


namespace Go.Proofs.YtjfjpngajboidaaGreat
set_option linter.unusedVariables false
set_option linter.unusedSimpArgs false
open Go.RowKit
attribute [local go_sem ↓] Go.wp_at_zero Go.wp_at_succ
open Go.Deep

set_option maxRecDepth 100000 in
theorem indexFunc_nil (f : Value) (w : World) : Calls Tryz.prog 71 #[.slice none 0 0, f] w fun e w' => e = .returned (.int .i64 (-1)) ∧ w = w' := by
  go_enter Tryz.func71, Tryz.ntmps71
  go_wp2_with fail
  go_loop [8] (fun i => i = .int .i64 (0 : Nat)) (fun _ => 0)
  case atStart => rfl
  case round =>
    subst hrel
    go_wp2
    go_ret
    exact ⟨rfl, rfl⟩

set_option maxRecDepth 100000 in
theorem listIndex_nil (p : List Int) (u : Value) (w : World) (hu : Ints w u p) :
    Calls Tryz.prog 32 #[.slice none 0 0, u] w fun e w' => e = .returned (.int .i64 (-1)) ∧ Ext w w' := by
  obtain ⟨hlen2, b2, o2, c2, rfl, -⟩ := id hu
  have HX := Lib.hid (ext_box w (.slice (some ⟨b2, o2, none⟩) p.length c2) 27)
  go_enter Tryz.func32, Tryz.ntmps32
  go_wp2_with fail
  refine (indexFunc_nil _ _).mono ?_
  rintro e w2 ⟨rfl, rfl⟩
  go_wp2_with fail
  go_ret
  exact ⟨rfl, HX.out⟩
theorem listIndex_N (lo : Nat) (G : List (List Int)) (p : List Int) (v u : Value) (w : World) (h0 : v = .slice none 0 0 ∨ 0 < G.length) (hG : v = .slice none 0 0 → G = []) (hv : RowsW lo w v G) (hu : Ints w u p) :
    Calls Tryz.prog 32 #[v, u] w fun e w' => (∃ k : Int, e = .returned (.int .i64 k) ∧ (k < 0 ↔ p ∉ G)) ∧ Ext w w' := by
  by_cases hn : v = .slice none 0 0
  · subst hn
    refine (listIndex_nil p u w hu).mono ?_
    rintro e w' ⟨rfl, hx⟩
    exact ⟨⟨-1, rfl, by rw [hG rfl]; simp⟩, hx⟩
  · have hp := h0.resolve_left hn
    refine (listIndex_any G p v u w (hv.2 hp).rows hu).mono ?_
    rintro e w' ⟨rfl, hx⟩
    refine ⟨⟨_, rfl, ?_⟩, hx⟩
    have := anyB_mem G p
    rw [anyB_find, findL_eq, decide_eq_decide] at this
    rw [← this]
    omega
@[irreducible] noncomputable def dvV (L S : List (List Int)) (p : List Int) : List (List Int) := if clsC L S p = 0 then dvT L S p (p.length + 1) else []
theorem dvV_ok {L S : List (List Int)} {p : List Int} (h : clsC L S p = 0) : dvV L S p = dvT L S p (p.length + 1) := by unfold dvV; rw [if_pos h]
theorem dvV_no {L S : List (List Int)} {p : List Int} (h : clsC L S p ≠ 0) : dvV L S p = [] := by unfold dvV; rw [if_neg h]
theorem normalWord_0 (L S : List (List Int)) (p : List Int) (hc : limC L S p = 0) (hO : SolOk L S) (hp : WordOk L.length p) (hp8 : p.length ≤ 8) (v y u : Value) (w : World) (hv : Rows w v L) (hy : Rows w y S) (hu : Ints w u p) :
    Calls Tryz.prog 37 #[.agg #[v, y], u] w (fun e w' => ∃ b c, e = .returned (.tuple #[.slice (some ⟨b, 0, none⟩) (nfS L S p).length c, .int .i64 0]) ∧ RK w.heap.size (fun _ => False) w' (.slice (some ⟨b, 0, none⟩) (nfS L S p).length c) (nfS L S p) ∧ Ext w w') := by
  refine (normalWord_any L S p v y u w hv hy hu hO hp hp8).mono ?_
  rintro e w' ⟨x, h1, h2, -, h3⟩
  have h4 := h2 hc
  obtain ⟨-, b, c, rfl, -⟩ := id h4
  exact ⟨b, c, by rw [h1, hc], h4, h3⟩

set_option maxRecDepth 100000 in
set_option maxHeartbeats 8000000 in
theorem DivisorsOfWord_impl (L S : List (List Int)) (p : List Int) (v y u : Value) (w : World) (hv : Rows w v L) (hy : Rows w y S) (hu : Ints w u p) :
    Calls Tryz.prog 14 #[.agg #[v, y], u] w (RetN (clsC L S p) (dvV L S p) w) := by
  obtain ⟨-, b, o, c, rfl, -⟩ := id hv
  obtain ⟨-, b2, o2, c2, rfl, -⟩ := id hy
  obtain ⟨-, b3, o3, c3, rfl, -⟩ := id hu
  have hx0 : Ext w (w.alloc (.cells #[.slice (some ⟨b, o, none⟩) L.length c, .slice (some ⟨b2, o2, none⟩) S.length c2] 26)) := (Ext.refl _).alloc _
  have k0 := cell_new2a w (.slice (some ⟨b, o, none⟩) L.length c) (.slice (some ⟨b2, o2, none⟩) S.length c2) 26
  have k1 := cell_new2b w (.slice (some ⟨b, o, none⟩) L.length c) (.slice (some ⟨b2, o2, none⟩) S.length c2) 26
  have HV := Lib.hid (hv.ext hx0)
  have HY := Lib.hid (hy.ext hx0)
  have HU := Lib.hid (hu.ext hx0)
  clear hv hy hu
  go_enter Tryz.func14, Tryz.ntmps14
  go_wp2_with fail
  have hz1 : w.heap.size + 1 = (w.alloc (.cells #[.slice (some ⟨b, o, none⟩) L.length c, .slice (some ⟨b2, o2, none⟩) S.length c2] 26)).heap.size := by simp
  generalize (w.alloc (.cells #[.slice (some ⟨b, o, none⟩) L.length c, .slice (some ⟨b2, o2, none⟩) S.length c2] 26)) = w1 at *
  have hxa : Ext w1 (w1.alloc (.cells #[.slice (some ⟨b3, o3, none⟩) p.length c3] 27)) := (Ext.refl _).alloc _
  refine (checkWords_any L S [p] _ _ _ _ (HV.out.ext hxa) (HY.out.ext hxa) (rows_one hz1 27 HU.out)).mono ?_
  rintro e w2 ⟨rfl, hx⟩
  rw [codeA_one]
  replace hx := hxa.trans hx
  replace k0 := hx.cell k0
  replace k1 := hx.cell k1
  have HV := Lib.hid (HV.out.ext hx)
  have HY := Lib.hid (HY.out.ext hx)
  have HU := Lib.hid (HU.out.ext hx)
  have HX := Lib.hid (hx0.trans hx)
  clear hx hxa hx0 hz1
  by_cases hc : codeW L S p p = 0
  case neg =>
    have HQ := Lib.hid (clsC_bad hc)
    have HR := Lib.hid (dvV_no (show clsC L S p ≠ 0 by rw [HQ.out]; exact hc))
    go_wp2_with fail
    go_ret2
    exact retN_bad HR.out HQ.out.symm HX.out
  case pos =>
    obtain ⟨hO, ⟨hp, hp8⟩, -⟩ := codeW_zero hc
    have HC := Lib.hid hc
    have HO := Lib.hid hO
    have HWP := Lib.hid hp
    rw [hc]
    clear hc hO hp
    go_wp2_with fail
    refine (limitedClass_any L S p _ _ _ _ HV.out HY.out HU.out HO.out HWP.out hp8).mono ?_
    rintro e w3 ⟨v3, rfl, h31, h32, hx3⟩
    replace k0 := hx3.cell k0
    replace k1 := hx3.cell k1
    have HX := Lib.hid (HX.out.trans hx3)
    by_cases hl1 : limC L S p = 0
    case neg =>
      have HQ := Lib.hid (show clsC L S p = limC L S p from by
        by_cases k : (clS L S p).length ≤ 1000
        · exact absurd (limC_ok k) hl1
        · rw [limC_many (by omega)]; exact clsC_many HC.out (by omega))
      have HR := Lib.hid (dvV_no (show clsC L S p ≠ 0 by rw [HQ.out]; exact hl1))
      clear h31 h32
      go_wp2
      go_ret2
      exact retN_bad HR.out HQ.out.symm HX.out
    case pos =>
      have hN3 := limC_zero hl1
      have HCC := Lib.hid (clsC_ok HC.out hN3)
      have HDV := Lib.hid (dvV_ok HCC.out)
      have hr := h31 hl1
      obtain ⟨-, g2, cg2, rfl, -⟩ := id hr
      have HR2 := Lib.hid hr
      have HV := Lib.hid (HV.out.ext hx3)
      have HY := Lib.hid (HY.out.ext hx3)
      have HK0 := Lib.hid k0
      have HK1 := Lib.hid k1
      rw [hl1]
      clear hl1 h31 h32 hr hx3 k0 k1
      go_wp2_with fail
      go_loopw [9, 35] (fun vd vk wr => ∃ (k : Nat) (xs : List Value), k ≤ p.length + 1 ∧ vk = .int .i64 k ∧ ListK 27 w3.heap.size (fun _ => False) wr vd xs (dvT L S p k) ∧ (dvT L S p k).length ≤ 1000 * k ∧ Ext w3 wr) (fun _ x _ => p.length + 1 - (intOf x).toNat)
      case atStart => exact ⟨0, [], Nat.zero_le _, rfl, by rw [dvT_zero]; exact ListK.nil _ _ _ _, by rw [dvT_zero]; simp, Ext.refl _⟩
      case round =>
        obtain ⟨k, xs, hk, rfl, hM, hml, hx2⟩ := hrel
        have HM := Lib.hid hM
        have HX2 := Lib.hid hx2
        clear hM hx2
        by_cases hkl : k < p.length + 1
        case neg =>
          have hkk : ¬ (k : Int) < (p.length : Int) + 1 := by omega
          have hke : k = p.length + 1 := by omega
          have HN := Lib.hid ((HM.out.rowsW (by omega)).low (lo' := w.heap.size) (Below.size HX.out))
          have HKE := Lib.hid hke
          clear hke
          go_wp2
          go_ret2
          exact ⟨_, by rw [HCC.out]; rfl, by rw [HDV.out, ← HKE.out]; exact HN.out, HX.out.trans HX2.out⟩
        case pos =>
          have hkk : (k : Int) < (p.length : Int) + 1 := by omega
          have hkp : k ≤ p.length := by omega
          have hM2 := HM.out.mono (D' := fun b => (none : Option Nat) = some b) (fun _ _ _ q => by cases q)
          have HM2 := Lib.hid hM2
          clear hM2 HM
          go_wp2_with fail
          go_loopw [11, 40] (fun vo vi wr => ∃ (i : Nat) (ys : List Value) (G : List (List Int)), i ≤ (clS L S p).length ∧ vi = .int .i64 i ∧ ListK 27 w3.heap.size (fun b => u9.ownBlock = some b) wr vo ys G ∧ ListK 27 w3.heap.size (fun b => vo.ownBlock = some b) wr u9 xs (dvT L S p k) ∧ (∀ k, u9.ownBlock = some k → vo.ownBlock ≠ some k) ∧ (vo = .slice none 0 0 → G = []) ∧ (vo = .slice none 0 0 ∨ 0 < G.length) ∧ G.Nodup ∧ (∀ x, x ∈ G ↔ ∃ j, j < i ∧ nfS L S ((row (clS L S p) j).take k) = x) ∧ G.length ≤ i ∧ Ext w3 wr) (fun _ x _ => (clS L S p).length - (intOf x).toNat)
          case atStart => exact ⟨0, [], [], Nat.zero_le _, rfl, ListK.nil _ _ _ _, HM2.out, (fun _ _ h => by cases h), fun _ => rfl, .inl rfl, List.nodup_nil, fun x => ⟨(fun h => by cases h), fun ⟨j, hj, _⟩ => absurd hj (by omega)⟩, Nat.zero_le _, HX2.out⟩
          case round =>
            clear HM2 HX2
            obtain ⟨i, ys, G, hi, rfl, hL, hM, hgg, hvn, hv0, hnd, hG, hGl, hx⟩ := hrel
            have HL := Lib.hid hL
            have HM := Lib.hid hM
            have HGG := Lib.hid hgg
            have HVN := Lib.hid hvn
            have HV0 := Lib.hid hv0
            have HND := Lib.hid hnd
            have HG := Lib.hid hG
            have HX3 := Lib.hid hx
            clear hL hM hgg hvn hv0 hnd hG hx
            by_cases hil : i < (clS L S p).length
            case neg =>
              have hki : ¬ (i : Int) < ((clS L S p).length : Int) := by omega
              have hie : i = (clS L S p).length := by omega
              have hpos : 0 < G.length := List.length_pos_of_mem ((HG.out _).2 ⟨0, by have := clS_pos HO.out HWP.out; omega, rfl⟩)
              have HGE := Lib.hid (fun (G2 : List (List Int)) (hp : G2.Perm G) (hs : G2.Pairwise (fun a b => ¬ b < a)) => dvK_eq (G := G2) HO.out HWP.out hkp (by
                refine List.Pairwise.imp ?_ (hs.and (hp.nodup_iff.2 HND.out))
                intro a b hab
                rcases less_tri a b with h | h | h
                · exact h
                · exact absurd h hab.2
                · exact absurd h hab.1) (fun x => by rw [hp.mem_iff, HG.out, hie]))
              clear hie
              obtain ⟨g, cg, rfl, hmine⟩ := HL.out.mine hpos
              have HMI := Lib.hid hmine
              clear hmine
              go_wp2_with fail
              refine (sortRows_any 27 w3.heap.size _ g cg ys G _ HMI.out hpos (by omega)).mono ?_
              rintro e w7 ⟨rfl, zs, G2, hperm, hpw, hGl2, hm7, hg7⟩
              have hge := HGE.out G2 hperm hpw
              have HM7 := Lib.hid (HM.out.otherTo (ob' := some g) hg7 HGG.out (.inl rfl))
              have HX7 := Lib.hid (show Ext w3 w7 from Ext.grown (v := .slice (some ⟨g, 0, none⟩) G.length cg) HX3.out hg7 HMI.out.own (Nat.le_refl _))
              have HZL := Lib.hid (hm7.rows.1.trans hGl2)
              have HCE := Lib.hid (show ∀ i x, zs[i]? = some x → w7.cell? ⟨g, 0 + i, none⟩ = some x from fun i x h => by
                have := hm7.own.cells (g := g) rfl i x h
                rwa [Addr.add_lit] at this)
              have HONE := Lib.hid hm7.rows.cell
              have HROWS := Lib.hid (hm7.rows.mono (D' := fun b => u9.ownBlock = some b ∨ some g = some b) (Nat.le_refl _) (fun b _ _ q => q.elim .inr (fun e => .inl (Option.some.inj e).symm)))
              have hzz := (Below.size HX7.out : w3.heap.size ≤ w7.heap.size)
              clear hperm hpw hm7 hg7 HM HL HX3 HMI
              go_wp2_with (at_builtin; refine wpList_append_xsN rfl _ _ 24 27 rfl Tryz.underlying24 infoSl w3.heap.size _ _ xs rfl HM7.out.own g 0 cg G.length zs HZL.out rfl HCE.out HONE.out (by omega) (by omega) hzz ?_)
              intro v' w8 hown8 hgr8 hbl8
              rw [← hGl2] at hown8
              have hm8 := HM7.out.apps HROWS.out hown8 hgr8 hbl8
              have hX8 : Ext w3 w8 := Ext.grown HX7.out hgr8 HM7.out.own (Nat.le_refl _)
              have hsum : (dvT L S p k ++ G2).length ≤ 1000 * (k + 1) := by rw [List.length_append, hGl2]; omega
              have hse : dvT L S p k ++ G2 = dvT L S p (k + 1) := by rw [dvT_succ, hge]
              rw [hse] at hm8 hsum
              have HM8 := Lib.hid (hm8.mono (D' := fun _ => False) (fun _ _ _ q => q.elim))
              clear hm8 hown8 hgr8 hbl8 hse hge
              go_wp2
              go_roundw
              case rel => exact ⟨k + 1, _, by omega, by go_num, HM8.out, hsum, hX8⟩
              case measure => simp [intOf]; omega
            case pos =>
              have hki : (i : Int) < ((clS L S p).length : Int) := by omega
              obtain ⟨b5, d5, r5, q5, -, -, i5, m5⟩ := (HR2.out.ext HX3.out).get hil
              have hxc := clS_row HO.out HWP.out hil
              obtain ⟨hxw, hxl⟩ := clS_word HO.out HWP.out hxc
              have hxe := (mem_clS HO.out HWP.out).1 hxc
              obtain ⟨x, hxx⟩ : ∃ x, x = row (clS L S p) i := ⟨_, rfl⟩
              rw [← hxx] at r5 q5 i5 m5 hxw hxl hxc hxe
              have hkx : k ≤ x.length := by omega
              have hkd : k ≤ d5 := by omega
              have hkdi : (k : Int) ≤ (d5 : Int) := by omega
              have hcp := (clsC_part (p := x.take k) (q := x.drop k) HO.out HWP.out hp8 (by rw [List.take_append_drop]; exact hxe) hN3).1
              have hcz := clsC_zero hcp
              obtain ⟨-, ⟨hwt, hw8⟩, -⟩ := codeW_zero hcz.1
              have CN := Lib.hid (normalWord_0 L S (x.take k) (limC_ok hcz.2) HO.out hwt hw8)
              have HIT := Lib.hid (intsW_take (c := d5) i5 m5 hkx)
              have HXX := Lib.hid hxx
              have k0 := HX3.out.cell HK0.out
              have k1 := HX3.out.cell HK1.out
              clear hxx hxc hxw hxe hxl i5 hcp hcz hwt hw8
              go_upto_region 15 with fail
              go_cut [14, 15] (fun v1 v2 wx => v2 = .int .i64 0 ∧ ∃ b c, v1 = .slice (some ⟨b, 0, none⟩) (nfS L S (x.take k)).length c ∧ RK wr.heap.size (fun _ => False) wx v1 (nfS L S (x.take k)) ∧ Ext wr wx)
              case first =>
                go_region_held3 (fun w' => w'.cell? ⟨w.heap.size, 0, none⟩ = some (.slice (some ⟨b, o, none⟩) L.length c) ∧ w'.cell? ⟨w.heap.size, 1, none⟩ = some (.slice (some ⟨b2, o2, none⟩) S.length c2))
                  ((refine ⟨?_, ?_⟩ <;> (repeat first | (with_reducible assumption) | (with_reducible refine Ext.cell xE ?_) |  (with_reducible exact kc_new) | ((with_reducible refine kc_newE ?_); (simp; done)) | ((with_reducible refine kc_newEa ?_); (simp; done)) | ((with_reducible refine kc_newEb ?_); (simp; done)) | (with_reducible apply kc_alloc) | (with_reducible apply kc_drewN) | (with_reducible apply kc_drew) | ((with_reducible refine kc_set ?_ ?_); (first | (simp only []; omega) | (simp; omega) | (focus (simp; done)))) | ((with_reducible refine kc_set2 ?_ ?_); (focus (simp; done))) | (with_reducible refine kc_same (v := .slice none 0 0) ?_))))
                  (first
                    | (go_at_call 37; refine (CN.out _ _ _ _ (HV.out.ext (HX3.out.trans (by (repeat first | (with_reducible exact Ext.refl _) | (with_reducible assumption) | (with_reducible apply Ext.drew) | (with_reducible apply kx_drewN) | (with_reducible apply kx_alloc) | ((with_reducible refine kx_set ?_ ?_); (first | (simp only []; omega) | (simp; omega) | (focus (simp; done)))) | (with_reducible refine Ext.trans ?_ xE) )))) (HY.out.ext (HX3.out.trans (by (repeat first | (with_reducible exact Ext.refl _) | (with_reducible assumption) | (with_reducible apply Ext.drew) | (with_reducible apply kx_drewN) | (with_reducible apply kx_alloc) | ((with_reducible refine kx_set ?_ ?_); (first | (simp only []; omega) | (simp; omega) | (focus (simp; done)))) | (with_reducible refine Ext.trans ?_ xE) )))) (HIT.out.ext (by (repeat first | (with_reducible exact Ext.refl _) | (with_reducible assumption) | (with_reducible apply Ext.drew) | (with_reducible apply kx_drewN) | (with_reducible apply kx_alloc) | ((with_reducible refine kx_set ?_ ?_); (first | (simp only []; omega) | (simp; omega) | (focus (simp; done)))) | (with_reducible refine Ext.trans ?_ xE) )))).mono ?_; rintro e wE ⟨bE, cE, rfl, hE, xE⟩))
                all_goals
                  go_wp2
                  go_meet
                  case rel =>
                    refine ⟨by first | rfl | trivial, _, _, rfl, (hE.mono (by first | exact Nat.le_refl _ | simp) fun _ _ _ q => q).ext ?_, ?_⟩
                    all_goals (repeat first | (with_reducible exact Ext.refl _) | (with_reducible assumption) | (with_reducible apply Ext.drew) | (with_reducible apply kx_drewN) | (with_reducible apply kx_alloc) | ((with_reducible refine kx_set ?_ ?_); (first | (simp only []; omega) | (simp; omega) | (focus (simp; done)))) | (with_reducible refine Ext.trans ?_ xE) )
              case rest =>
                obtain ⟨rfl, bN, cN, rfl, hN, hxN⟩ := hcut
                have hlL := HL.out.lt
                have hlM := HM.out.lt
                have hr0 := hN.mono (lo' := w3.heap.size) (D' := fun b => u11.ownBlock = some b ∨ u9.ownBlock = some b) (Below.size HX3.out) (fun b h1 h2 q => q.elim (fun e => absurd (hlL b e).2 (by omega)) (fun e => absurd (hlM b e).2 (by omega)))
                have HL := Lib.hid (HL.out.ext hxN)
                have HM := Lib.hid (HM.out.ext hxN)
                have HX3 := Lib.hid (HX3.out.trans hxN)
                have HN := Lib.hid hr0
                have HGN := Lib.hid (show ∀ z, (∃ j, j < i + 1 ∧ nfS L S ((row (clS L S p) j).take k) = z) ↔ (∃ j, j < i ∧ nfS L S ((row (clS L S p) j).take k) = z) ∨ z = nfS L S (x.take k) from fun z => by
                  constructor
                  · rintro ⟨j, hj, e⟩
                    by_cases h : j = i
                    · right; rw [← e, h, HXX.out]
                    · exact .inl ⟨j, by omega, e⟩
                  · rintro (⟨j, hj, e⟩ | e)
                    · exact ⟨j, by omega, e⟩
                    · exact ⟨i, by omega, by rw [e, HXX.out]⟩)
                clear hN hxN k0 k1 r5 CN HIT hlL hlM hr0
                go_wp2_with fail
                refine (listIndex_N w3.heap.size G (nfS L S (x.take k)) _ _ _ HV0.out HVN.out (HL.out.rowsW (by omega)) HN.out.ints).mono ?_
                rintro e w6 ⟨⟨kk, rfl, hkk⟩, hx6⟩
                have HL := Lib.hid (HL.out.ext hx6)
                have HM := Lib.hid (HM.out.ext hx6)
                have HX3 := Lib.hid (HX3.out.trans hx6)
                have HN := Lib.hid (HN.out.ext hx6)
                clear hx6
                obtain ⟨Z, hZ⟩ : ∃ Z, Z = nfS L S (x.take k) := ⟨_, rfl⟩
                rw [← hZ] at HGN HN hkk ⊢
                clear hZ
                by_cases hin : Z ∈ G
                case pos =>
                  have hkn : ¬ kk < 0 := fun h => (hkk.1 h) hin
                  have HG2 := Lib.hid (show ∀ z, z ∈ G ↔ ∃ j, j < i + 1 ∧ nfS L S ((row (clS L S p) j).take k) = z from fun z => by
                    rw [HGN.out, HG.out]
                    exact ⟨fun h => .inl h, fun h => h.elim id fun e => by rw [e]; exact (HG.out _).1 hin⟩)
                  clear hkk hin
                  go_wp2
                  go_roundw
                  case rel => exact ⟨i + 1, ys, G, by omega, by go_num, HL.out, HM.out, HGG.out, HVN.out, HV0.out, HND.out, HG2.out, by omega, HX3.out⟩
                  case measure => simp [intOf]; omega
                case neg =>
                  have hkn : kk < 0 := hkk.2 hin
                  have HNI := Lib.hid hin
                  clear hkk hin
                  have hone := HN.out.cell
                  have hxb := ext_box w6 (.slice (some ⟨bN, 0, none⟩) Z.length cN) 27
                  have HL7 := Lib.hid (HL.out.ext hxb)
                  have HM7 := Lib.hid (HM.out.ext hxb)
                  have HN7 := Lib.hid (HN.out.ext hxb)
                  have HX7 := Lib.hid (HX3.out.trans hxb)
                  have hzb : w3.heap.size ≤ (w6.alloc (.cells #[.slice (some ⟨bN, 0, none⟩) Z.length cN] 27)).heap.size := Below.size HX7.out
                  clear hxb HL HM HN HX3
                  go_wp2_with (at_builtin; refine wpList_append_one rfl _ _ 24 27 rfl Tryz.underlying24 infoSl w3.heap.size _ _ ys rfl HL7.out.own _ _ hone rfl (cell_new _ _ _) (by omega) hzb ?_)
                  intro v' w8 hown8 hgr8 hv8 hbl8
                  have hbl : v'.ownBlock = u11.ownBlock ∨ v'.ownBlock = some (w6.alloc (.cells #[.slice (some ⟨bN, 0, none⟩) Z.length cN] 27)).heap.size := by
                    rcases hbl8 with e | e
                    · exact .inl e
                    · exact .inr (by rw [show (w6.alloc (.cells #[.slice (some ⟨bN, 0, none⟩) Z.length cN] 27)).heap.size = w6.heap.size + 1 by simp]; exact e)
                  have hl8 := HL7.out.app HN7.out hown8 hgr8 hbl
                  have hm8 := HM7.out.otherTo hgr8 HGG.out hbl
                  have hX8 : Ext w3 w8 := Ext.grown HX7.out hgr8 HL7.out.own (Nat.le_refl _)
                  have hgg8 : ∀ k, u9.ownBlock = some k → v'.ownBlock ≠ some k := fun k hk e => by
                    rcases hbl with e2 | e2
                    · exact HGG.out k hk (by rw [← e2]; exact e)
                    · rw [e2] at e
                      have := Option.some.inj e
                      have := (HM7.out.lt k hk).2
                      omega
                  have hnd8 : (G ++ [Z]).Nodup := by
                    rw [List.nodup_append]
                    exact ⟨HND.out, by simp, fun a ha b hb e => HNI.out (by rw [← List.mem_singleton.1 hb, ← e]; exact ha)⟩
                  have hmem8 : ∀ z, z ∈ G ++ [Z] ↔ ∃ j, j < i + 1 ∧ nfS L S ((row (clS L S p) j).take k) = z := fun z => by
                    rw [HGN.out, ← HG.out]; simp
                  have hlen8 : (G ++ [Z]).length ≤ i + 1 := by simp; omega
                  have hpos8 : 0 < (G ++ [Z]).length := by simp
                  have HL8 := Lib.hid hl8
                  have HM8 := Lib.hid hm8
                  have HX8 := Lib.hid hX8
                  have HGG8 := Lib.hid hgg8
                  have HND8 := Lib.hid hnd8
                  have HME8 := Lib.hid hmem8
                  have HV8 := Lib.hid hv8
                  clear hl8 hm8 hX8 hgg8 hnd8 hmem8 hv8 hown8 hgr8 hbl8 hbl HL7 HM7 HN7 HX7 HGN HNI
                  generalize G ++ [Z] = G' at *
                  go_wp2
                  go_roundw
                  case rel => exact ⟨i + 1, _, G', by omega, by go_num, HL8.out, HM8.out, HGG8.out, fun e => absurd e HV8.out, .inr hpos8, HND8.out, HME8.out, hlen8, HX8.out⟩
                  case measure => simp [intOf]; omega
end Go.Proofs.YtjfjpngajboidaaGreat
