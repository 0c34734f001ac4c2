/-
  Contract of the program's wordClass.
-/
import Derived.Test.YtjfjpngajboidaaGreatKx41
import Derived.Test.YtjfjpngajboidaaGreatKx42
import Derived.Test.YtjfjpngajboidaaGreatKx43
import Derived.Test.YtjfjpngajboidaaGreatKx44
namespace Go.Proofs.YtjfjpngajboidaaGreat
set_option linter.unusedVariables false
set_option linter.unusedSimpArgs false
open Go.RowKit
attribute [local go_sem ↓] Go.wp_at_zero Go.wp_at_succ
open Go.Deep

set_option maxRecDepth 100000 in
set_option maxHeartbeats 8000000 in
theorem wordClass_any (L S : List (List Int)) (p : List Int) (most : Nat) (v y u : Value) (w : World) (hv : Rows w v L) (hy : Rows w y S) (hu : Ints w u p) (hO : SolOk L S) (hp : WordOk L.length p) (hl8 : p.length ≤ 9) (h1m : 1 ≤ most) (hm : most ≤ 5000) :
    Calls Tryz.prog 50 #[.agg #[v, y], u, .int .i64 most] w (RetClsS L S p most w) := by
  obtain ⟨-, b, o, c, rfl, -⟩ := id hv
  obtain ⟨-, b2, o2, c2, rfl, -⟩ := id hy
  obtain ⟨-, b3, o3, c3, rfl, -⟩ := id hu
  have HO := Lib.hid hO
  have HP := Lib.hid hO.pair
  have h12 := hO.l.2.1
  have hx0 : Ext w (w.alloc (.cells #[.slice (some ⟨b, o, none⟩) L.length c, .slice (some ⟨b2, o2, none⟩) S.length c2] 26)) := (Ext.refl _).alloc _
  have k0 := cell_new2a w (.slice (some ⟨b, o, none⟩) L.length c) (.slice (some ⟨b2, o2, none⟩) S.length c2) 26
  have k1 := cell_new2b w (.slice (some ⟨b, o, none⟩) L.length c) (.slice (some ⟨b2, o2, none⟩) S.length c2) 26
  have HV := Lib.hid (hv.ext hx0)
  have HY := Lib.hid (hy.ext hx0)
  have HU := Lib.hid (hu.ext hx0)
  have HW := Lib.hid hp
  have hmm := @run_makeMap Tryz.prog
  clear hv hy hu hO hp
  go_enter Tryz.func50, Tryz.ntmps50
  go_wp2_with fail
  generalize (w.alloc (.cells #[.slice (some ⟨b, o, none⟩) L.length c, .slice (some ⟨b2, o2, none⟩) S.length c2] 26)) = w1 at *
  refine (InverseSolution_ok L S _ _ _ HV.out HY.out HO.out).mono ?_
  rintro e w2 ⟨bT, cT, bU, cU, T, U, rfl, hT, hU, hI, hx2⟩
  have HM := Lib.hid (mv_of HO.out hI)
  have HI := Lib.hid hI
  have HB := Lib.hid (inv_pair HO.out hI)
  have HT := Lib.hid hT
  have HTU := Lib.hid hU
  have HX2 := Lib.hid hx2
  clear hT hU hI hx2
  go_wp2_with fail
  have hxb : Ext w2 (w2.alloc (.cells #[.slice (some ⟨bT, 0, none⟩) L.length cT, .slice (some ⟨bU, 0, none⟩) L.length cU] 26)) := (Ext.refl _).alloc _
  have HK0 := Lib.hid (hxb.cell (HX2.out.cell k0))
  have HK1 := Lib.hid (hxb.cell (HX2.out.cell k1))
  have HK2 := Lib.hid (cell_new2a w2 (.slice (some ⟨bT, 0, none⟩) L.length cT) (.slice (some ⟨bU, 0, none⟩) L.length cU) 26)
  have HK3 := Lib.hid (cell_new2b w2 (.slice (some ⟨bT, 0, none⟩) L.length cT) (.slice (some ⟨bU, 0, none⟩) L.length cU) 26)
  have HXB := Lib.hid (hx0.trans (HX2.out.trans hxb))
  have HV := Lib.hid (HV.out.ext (HX2.out.trans hxb))
  have HY := Lib.hid (HY.out.ext (HX2.out.trans hxb))
  have HU := Lib.hid (HU.out.ext (HX2.out.trans hxb))
  have HT := Lib.hid (HT.out.ext hxb)
  have HTU := Lib.hid (HTU.out.ext hxb)
  clear k0 k1 hx0 HX2 hxb
  generalize (w2.alloc (.cells #[.slice (some ⟨bT, 0, none⟩) L.length cT, .slice (some ⟨bU, 0, none⟩) L.length cU] 26)) = wb at *
  refine (slicesClone_c p _ _ HU.out).mono ?_
  rintro e w3 ⟨bp, cp, rfl, ho3, hc3, hl3, hx3⟩
  have hr3 : RK wb.heap.size (fun b => b = w3.heap.size ∨ b = w3.heap.size + 1) w3 (.slice (some ⟨bp, 0, none⟩) p.length cp) p := ⟨hl3, bp, cp, rfl, hc3, ho3.1, ho3.2.1, by have := ho3.2.1; omega, ho3.2.2.1⟩
  have hm3 : MineK 27 wb.heap.size (fun b => b = w3.heap.size + 1) (w3.alloc (.cells #[.slice (some ⟨bp, 0, none⟩) p.length cp] 27)) w3.heap.size 1 [.slice (some ⟨bp, 0, none⟩) p.length cp] [p] :=
    ⟨ownsRow_one hx3.size, (XK.one hr3).ext ((Ext.refl _).alloc _)⟩
  have hxc : Ext wb (w3.alloc (.cells #[.slice (some ⟨bp, 0, none⟩) p.length cp] 27)) := hx3.alloc _
  have hz3 : (w3.alloc (.cells #[.slice (some ⟨bp, 0, none⟩) p.length cp] 27)).heap.size = w3.heap.size + 1 := by simp
  have hdig : ∀ q : List Int, WordOk L.length q → ∀ i, i < q.length → 0 ≤ ix q i ∧ ix q i < 12 := fun q hq i hi => by have := hq i hi; omega
  have HDIG := Lib.hid hdig
  have hsm3 := SeenMap.made (w3.alloc (.cells #[.slice (some ⟨bp, 0, none⟩) p.length cp] 27))
  have HM3 := Lib.hid (hm3.ext ((Ext.refl _).alloc (.map #[] 0)))
  have HX3 := Lib.hid (hxc.alloc (.map #[] 0))
  rw [hz3] at hsm3
  have HS3 := Lib.hid hsm3
  have hgz : wb.heap.size ≤ w3.heap.size := hx3.size
  clear hsm3 hm3 hxc hz3 hr3 ho3 hc3 hl3 hx3 hdig
  go_wp2_with fail
  clear hmm
  generalize ((w3.alloc (.cells #[.slice (some ⟨bp, 0, none⟩) p.length cp] 27)).alloc (.map #[] 0)) = w4 at *
  generalize w3.heap.size = g0 at *
  refine (digitsText_any p _ _ (HU.out.ext HX3.out) (by omega) (HDIG.out p HW.out)).mono ?_
  rintro e w5 ⟨rfl, hx5⟩
  have HS5 := Lib.hid (HS3.out.ext hx5)
  have HM5 := Lib.hid (HM3.out.ext hx5)
  have HX5 := Lib.hid (HX3.out.trans hx5)
  clear HS3 HM3 HX3 hx5
  go_wp2_with (refine wpList_seen_update rfl _ _ _ (.inr rfl) rfl HS5.out (by unfold maxLen; omega) rfl rfl (HDIG.out p HW.out) (by omega) ?_)
  intro w6 hs6 hg6
  have HS6 := Lib.hid hs6
  have HM6 := Lib.hid (HM5.out.other hg6 rfl (by omega))
  have HX6 := Lib.hid (ext_grownBy HX5.out hg6 (fun k e => by injection e with e; omega))
  clear hs6 hg6 HS5 HM5 HX5
  obtain ⟨gm, hgm⟩ : ∃ gm, gm = g0 + 1 := ⟨_, rfl⟩
  have hne6 : g0 ≠ gm := by omega
  have hbm : wb.heap.size ≤ gm := by omega
  rw [← hgm] at HS6 HM6 ⊢
  clear hgm hgz
  obtain ⟨N, hN⟩ : ∃ N, N = (wclL L.length (mulN L) (mulN S) (mulN T) (mulN U) p).length := ⟨_, rfl⟩
  have HFEW := Lib.hid (fun F i k j (h : BfsI (mulN L) (mulN S) (mulN T) (mulN U) p F i k j) => show F.length ≤ N by rw [hN]; exact h.few HM.out HW.out)
  have HALL := Lib.hid (fun F i (h : BfsI (mulN L) (mulN S) (mulN T) (mulN U) p F i 0 0) (hi : F.length ≤ i) => show F.length = N by rw [hN]; exact h.all HM.out HW.out hi)
  have HNN := Lib.hid hN
  clear hN
  go_wp2_with fail
  go_loopw [10, 12] (fun vf vi wr => ∃ (i f cf : Nat) (xf : List Value) (F : List (List Int)), vf = .slice (some ⟨f, 0, none⟩) F.length cf ∧ vi = .int .i64 i ∧ BfsI (mulN L) (mulN S) (mulN T) (mulN U) p F i 0 0 ∧ MineK 27 wb.heap.size (fun b => b = gm) wr f cf xf F ∧ f ≠ gm ∧ SeenMap wr gm F.length F ∧ i ≤ F.length ∧ F.length ≤ most ∧ Ext wb wr) (fun _ x _ => N - (intOf x).toNat)
  case atStart => exact ⟨0, _, _, _, [p], rfl, rfl, BfsI.start _ _ _ _ _, HM6.out, hne6, HS6.out, by simp, by simpa using h1m, HX6.out⟩
  case round =>
    clear HM6 HS6 HX6 hne6
    obtain ⟨i, f, cf, xf, F, rfl, rfl, hB, hC, hfm, hS, hi, hFm, hX⟩ := hrel
    have HBI := Lib.hid hB
    have HC := Lib.hid hC
    have HS := Lib.hid hS
    have HX := Lib.hid hX
    clear hB hC hS hX
    by_cases hil : i < F.length
    case neg =>
      have hki : ¬ (i : Int) < (F.length : Int) := by omega
      have hii : F.length ≤ i := by omega
      have hall := HALL.out F i HBI.out hii
      have HAL := Lib.hid hall
      have hpos : 0 < F.length := List.length_pos_of_mem HBI.out.head
      clear hall
      go_wp2_with fail
      refine (sortRows_any 27 wb.heap.size _ f cf xf F _ HC.out hpos (by omega)).mono ?_
      rintro e w7 ⟨rfl, ys, G, hperm, hpw, hGl, hm7, hg7⟩
      have hlen : ∀ x, x ∈ G → x.length = p.length := fun x hx => (HBI.out.eq x (hperm.mem_iff.1 hx)).len
      have hnd : G.Nodup := hperm.nodup_iff.2 HBI.out.nd
      have hlex : G.Pairwise LexLt := by
        refine List.Pairwise.imp_of_mem ?_ (hpw.and hnd)
        intro a b ha hb hab
        refine (lex_less (by rw [hlen a ha, hlen b hb])).1 ?_
        rcases less_tri a b with h | h | h
        · exact h
        · exact absurd h hab.2
        · exact absurd h hab.1
      have hGW := HBI.out.sorted HM.out HW.out hii hlex (fun x => hperm.mem_iff)
      have HX7 := Lib.hid (show Ext wb w7 from Ext.grown (v := .slice (some ⟨f, 0, none⟩) F.length cf) HX.out hg7 HC.out.own (Nat.le_refl _))
      have hr7 := (hm7.toRows (by omega)).low (Below.size HXB.out)
      rw [hGl] at hr7
      rw [hGW, clS_eq HO.out HI.out] at hr7
      have HR7 := Lib.hid hr7
      clear hm7 hg7 hperm hpw hlen hnd hlex hGW hr7
      go_wp2
      go_ret2
      exact ⟨.inl ⟨by rw [← clS_eq HO.out HI.out, ← HNN.out, ← HAL.out]; exact hFm, _, rfl, HR7.out⟩, (HXB.out.trans HX7.out)⟩
    case pos =>
      have hki : (i : Int) < (F.length : Int) := by omega
      go_wp2_with fail
      go_loopw [10, 39] (fun vf vk wr => ∃ (k f cf : Nat) (xf : List Value) (F : List (List Int)), vf = .slice (some ⟨f, 0, none⟩) F.length cf ∧ vk = .int .i64 k ∧ BfsI (mulN L) (mulN S) (mulN T) (mulN U) p F i k 0 ∧ MineK 27 wb.heap.size (fun b => b = gm) wr f cf xf F ∧ f ≠ gm ∧ SeenMap wr gm F.length F ∧ i < F.length ∧ k ≤ p.length ∧ F.length ≤ most ∧ Ext wb wr) (fun _ x _ => p.length - (intOf x).toNat)
      case atStart => exact ⟨0, _, _, _, F, rfl, rfl, HBI.out, HC.out, hfm, HS.out, hil, Nat.zero_le _, hFm, HX.out⟩
      case round =>
        clear HBI HC HS HX hil hFm hi hfm
        obtain ⟨k, f, cf, xf, F, rfl, rfl, hB, hC, hfm, hS, hil, hkp, hFm, hX⟩ := hrel
        have HBI := Lib.hid hB
        have HC := Lib.hid hC
        have HS := Lib.hid hS
        have HX := Lib.hid hX
        clear hB hC hS hX
        by_cases hkl : k + 1 < p.length
        case neg =>
          have hkk : ¬ (k : Int) < (p.length : Int) - 1 := by omega
          go_wp2
          go_roundw
          case rel => exact ⟨i + 1, _, _, _, F, rfl, by go_num, HBI.out.nextI hkl, HC.out, hfm, HS.out, by omega, hFm, HX.out⟩
          case measure =>
            have := HFEW.out _ _ _ _ HBI.out
            simp [intOf]; omega
        case pos =>
          have hkk : (k : Int) < (p.length : Int) - 1 := by omega
          have k0 := HX.out.cell HK0.out
          have k1 := HX.out.cell HK1.out
          have k2 := HX.out.cell HK2.out
          have k3 := HX.out.cell HK3.out
          obtain ⟨V, hV⟩ : ∃ V, V = row F i := ⟨_, rfl⟩
          have hVF : V ∈ F := by rw [hV]; exact rowB_mem hil
          have hVE := HBI.out.eq V hVF
          have HVE := Lib.hid hVE
          have HVW := Lib.hid (hVE.ok HM.out HW.out)
          have HVL := Lib.hid hVE.len
          have HV1 := Lib.hid hV.symm
          clear hVF hVE hV
          go_wp2_with fail
          go_loopw [10, 45] (fun vf vj wr => ∃ (j f cf : Nat) (xf : List Value) (F : List (List Int)), vf = .slice (some ⟨f, 0, none⟩) F.length cf ∧ vj = .int .i64 j ∧ BfsI (mulN L) (mulN S) (mulN T) (mulN U) p F i k j ∧ MineK 27 wb.heap.size (fun b => b = gm) wr f cf xf F ∧ f ≠ gm ∧ SeenMap wr gm F.length F ∧ i < F.length ∧ row F i = V ∧ j ≤ 2 ∧ F.length ≤ most ∧ Ext wb wr) (fun _ x _ => 2 - (intOf x).toNat)
          case atStart => exact ⟨0, _, _, _, F, rfl, rfl, HBI.out, HC.out, hfm, HS.out, hil, HV1.out, Nat.zero_le _, hFm, HX.out⟩
          case round =>
            clear HBI HC HS HX hil hFm hfm k0 k1 k2 k3 HV1
            obtain ⟨j, f, cf, xf, F, rfl, rfl, hB, hC, hfm, hS, hil, hVr, hj2, hFm, hX⟩ := hrel
            have HBI := Lib.hid hB
            have HC := Lib.hid hC
            have HS := Lib.hid hS
            have HX := Lib.hid hX
            have HV1 := Lib.hid hVr
            clear hB hC hS hX hVr
            by_cases hjl : j < 2
            case neg =>
              have hjj : ¬ (j : Int) < 2 := by omega
              have hj22 : j = 2 := by omega
              go_wp2
              go_roundw
              case rel => exact ⟨k + 1, _, _, _, F, rfl, by go_num, BfsI.nextK (by have := HBI.out; rw [hj22] at this; exact this), HC.out, hfm, HS.out, hil, by omega, hFm, HX.out⟩
              case measure => simp [intOf]; omega
            case pos =>
              have hjj : (j : Int) < 2 := by omega
              have hki : (i : Int) < (F.length : Int) := by omega
              have hcell : ∃ bi ci, wr.cell? ⟨f, i, none⟩ = some (.slice (some ⟨bi, 0, none⟩) V.length ci) ∧ Ints wr (.slice (some ⟨bi, 0, none⟩) V.length ci) V := by
                obtain ⟨x, h1, h2⟩ := HC.out.rows.2 i hil
                rw [HV1.out] at h2
                have hI := h2.ints
                obtain ⟨-, bi, ci, rfl, -⟩ := h2
                have h3 := HC.out.own.cells (g := f) rfl i _ h1
                rw [Addr.add_lit, Nat.zero_add] at h3
                exact ⟨bi, ci, h3, hI⟩
              obtain ⟨bi, ci, r5, hI5⟩ := hcell
              have HI5 := Lib.hid hI5
              have hgf := HC.out.at_g
              have hk2 : k + 1 < V.length := by rw [HVL.out]; exact hkl
              obtain ⟨Z, hZ⟩ : ∃ Z, Z = mvJ (mulN L) (mulN S) (mulN T) (mulN U) V k j := ⟨_, rfl⟩
              have HZ := Lib.hid hZ
              have HZL := Lib.hid (show Z.length = p.length by rw [hZ, length_mvJ]; exact HVL.out)
              have HZW := Lib.hid (show WordOk L.length Z by rw [hZ]; exact mvJ_ok HM.out HVW.out hk2 j)
              clear hI5 hZ
              go_upto_region 12 with fail
              go_cut [15] (fun vb wx => ∃ x1 x2 x3 x4 y1 y2 y3 y4 : Nat, vb = .pointer (some ⟨wr.heap.size, 0, none⟩) ∧ wx = wr.alloc (.cells #[.slice (some ⟨x1, x2, none⟩) x3 x4, .slice (some ⟨y1, y2, none⟩) y3 y4] 26) ∧ ∀ u w', Ext wr w' → Ints w' u V → Calls Tryz.prog 91 #[.agg #[.slice (some ⟨x1, x2, none⟩) x3 x4, .slice (some ⟨y1, y2, none⟩) y3 y4], u, .int .i64 k] w' (NewIc Z w'))
              case first =>
                match j, hjl with
                | 0, _ =>
                  have hix : ∀ w', (Instr.index 108 (.agg #[.slice (some ⟨b, o, none⟩) L.length c, .slice (some ⟨b2, o2, none⟩) S.length c2, .slice (some ⟨bT, 0, none⟩) L.length cT, .slice (some ⟨bU, 0, none⟩) L.length cU]) (.int .i64 0)).run Tryz.prog w' = .ok (.agg #[.slice (some ⟨b, o, none⟩) L.length c, .slice (some ⟨b2, o2, none⟩) S.length c2]) w' := fun _ => rfl
                  go_wp2_with fail
                  go_meet
                  case rel => exact ⟨_, _, _, _, _, _, _, _, rfl, rfl, fun u w' hx hu => by rw [HZ.out]; exact moved_any L S V k _ _ _ w' (HV.out.ext (HX.out.trans hx)) (HY.out.ext (HX.out.trans hx)) hu HP.out HVW.out hk2⟩
                | 1, _ =>
                  have hix : ∀ w', (Instr.index 108 (.agg #[.slice (some ⟨b, o, none⟩) L.length c, .slice (some ⟨b2, o2, none⟩) S.length c2, .slice (some ⟨bT, 0, none⟩) L.length cT, .slice (some ⟨bU, 0, none⟩) L.length cU]) (.int .i64 1)).run Tryz.prog w' = .ok (.agg #[.slice (some ⟨bT, 0, none⟩) L.length cT, .slice (some ⟨bU, 0, none⟩) L.length cU]) w' := fun _ => rfl
                  go_wp2_with fail
                  go_meet
                  case rel => exact ⟨_, _, _, _, _, _, _, _, rfl, rfl, fun u w' hx hu => by rw [HZ.out]; exact moved_any T U V k _ _ _ w' (HT.out.ext (HX.out.trans hx)) (HTU.out.ext (HX.out.trans hx)) hu HB.out (by rw [HI.out.1]; exact HVW.out) hk2⟩
              case rest =>
                obtain ⟨x1, x2, x3, x4, y1, y2, y3, y4, rfl, rfl, hmv⟩ := hcut
                have kb0 := cell_new2a wr (.slice (some ⟨x1, x2, none⟩) x3 x4) (.slice (some ⟨y1, y2, none⟩) y3 y4) 26
                have kb1 := cell_new2b wr (.slice (some ⟨x1, x2, none⟩) x3 x4) (.slice (some ⟨y1, y2, none⟩) y3 y4) 26
                have hxr : Ext wr (wr.alloc (.cells #[.slice (some ⟨x1, x2, none⟩) x3 x4, .slice (some ⟨y1, y2, none⟩) y3 y4] 26)) := (Ext.refl _).alloc _
                have HMV := Lib.hid hmv
                have r5' := hxr.cell r5
                have hzr : (wr.alloc (.cells #[.slice (some ⟨x1, x2, none⟩) x3 x4, .slice (some ⟨y1, y2, none⟩) y3 y4] 26)).heap.size = wr.heap.size + 1 := by simp
                have HXR := Lib.hid hxr
                clear hmv hxr r5
                generalize (wr.alloc (.cells #[.slice (some ⟨x1, x2, none⟩) x3 x4, .slice (some ⟨y1, y2, none⟩) y3 y4] 26)) = wq at *
                have hzq : wr.heap.size + 1 ≤ wq.heap.size := by omega
                clear hzr
                go_upto_region 13 with fail
                go_cut [16] (fun v wx => ∃ bz cz, v = .slice (some ⟨bz, 0, none⟩) Z.length cz ∧ RK wq.heap.size (fun _ => False) wx v Z ∧ Ext wq wx)
                case first =>
                  go_region_held3 (fun w' => w'.cell? ⟨wr.heap.size, 0, none⟩ = some (.slice (some ⟨x1, x2, none⟩) x3 x4) ∧ w'.cell? ⟨wr.heap.size, 1, none⟩ = some (.slice (some ⟨y1, y2, none⟩) y3 y4) ∧ w'.cell? ⟨f, i, none⟩ = some (.slice (some ⟨bi, 0, none⟩) V.length ci))
                    ((refine ⟨?_, ?_, ?_⟩ <;> (repeat first | (with_reducible assumption) | (with_reducible refine Ext.cell xE ?_) |  (with_reducible exact kc_new) | ((with_reducible refine kc_newE ?_); (simp; done)) | ((with_reducible refine kc_newEa ?_); (simp; done)) | ((with_reducible refine kc_newEb ?_); (simp; done)) | (with_reducible apply kc_alloc) | (with_reducible apply kc_drewN) | (with_reducible apply kc_drew) | ((with_reducible refine kc_set ?_ ?_); (first | (simp only []; omega) | (simp; omega) | (focus (simp; done)))) | ((with_reducible refine kc_set2 ?_ ?_); (focus (simp; done))) | (with_reducible refine kc_same (v := .slice none 0 0) ?_))))
                    (first
                      | (go_at_call 91; refine (HMV.out _ _ (HXR.out.trans (by (repeat first | (with_reducible exact Ext.refl _) | (with_reducible assumption) | (with_reducible apply Ext.drew) | (with_reducible apply kx_drewN) | (with_reducible apply kx_alloc) | ((with_reducible refine kx_set ?_ ?_); (first | (simp only []; omega) | (simp; omega) | (focus (simp; done)))) | (with_reducible refine Ext.trans ?_ xE) ))) (HI5.out.ext (HXR.out.trans (by (repeat first | (with_reducible exact Ext.refl _) | (with_reducible assumption) | (with_reducible apply Ext.drew) | (with_reducible apply kx_drewN) | (with_reducible apply kx_alloc) | ((with_reducible refine kx_set ?_ ?_); (first | (simp only []; omega) | (simp; omega) | (focus (simp; done)))) | (with_reducible refine Ext.trans ?_ xE) ))))).mono ?_; rintro e wE ⟨bE, cE, rfl, oE, hcE, hlE, xE⟩))
                  all_goals
                    go_wp2
                    go_meet
                    case rel =>
                      refine ⟨_, _, rfl, (RK.mono (lo := _) ⟨hlE, bE, cE, rfl, hcE, oE.1, oE.2.1, fun h => h, oE.2.2.1⟩ (by first | exact Nat.le_refl _ | simp) (fun _ _ _ q => q)).ext ?_, ?_⟩
                      all_goals (repeat first | (with_reducible exact Ext.refl _) | (with_reducible assumption) | (with_reducible apply Ext.drew) | (with_reducible apply kx_drewN) | (with_reducible apply kx_alloc) | ((with_reducible refine kx_set ?_ ?_); (first | (simp only []; omega) | (simp; omega) | (focus (simp; done)))) | (with_reducible refine Ext.trans ?_ xE) )
                case rest =>
                  obtain ⟨bz, cz, rfl, hz, hxz⟩ := hcut
                  rename_i wz
                  have hxx := HXR.out.trans hxz
                  have HRZ := Lib.hid (hz.mono (lo' := wb.heap.size) (D' := fun b => b = f ∨ b = gm) (by have := (Below.size HX.out : wb.heap.size ≤ wr.heap.size); omega) (fun b h1 h2 q => by have := HS.out.lt; omega))
                  have HC := Lib.hid (HC.out.ext hxx)
                  have HS := Lib.hid (HS.out.ext hxx)
                  have HX := Lib.hid (HX.out.trans hxx)
                  clear hz hxz hxx HXR HMV kb0 kb1 r5' HI5 hgf hzq
                  go_wp2_with fail
                  refine (digitsText_any Z _ _ HRZ.out.ints (by rw [HZL.out]; omega) (HDIG.out Z HZW.out)).mono ?_
                  rintro e w5 ⟨rfl, hx5⟩
                  have HC := Lib.hid (HC.out.ext hx5)
                  have HS := Lib.hid (HS.out.ext hx5)
                  have HX := Lib.hid (HX.out.trans hx5)
                  have HRZ := Lib.hid (HRZ.out.ext hx5)
                  clear hx5
                  cases hmem : decide (Z ∈ F) with
                  | true =>
                    have HIN := Lib.hid (show Z ∈ F from of_decide_eq_true hmem)
                    go_wp2_with (at_lookup; refine wpList_seen_lookup rfl _ _ rfl rfl HS.out rfl (HDIG.out Z HZW.out) (by rw [HZL.out]; omega) ?_; rw [hmem])
                    go_roundw
                    case rel => exact ⟨j + 1, _, _, _, F, rfl, by go_num, HBI.out.skip (by rw [HV1.out, ← HZ.out]; exact HIN.out), HC.out, hfm, HS.out, hil, HV1.out, by omega, hFm, HX.out⟩
                    case measure => simp [intOf]; omega
                  | false =>
                    have HNI := Lib.hid (show Z ∉ F from of_decide_eq_false hmem)
                    have HADD := Lib.hid (HBI.out.add hil hkl (by rw [HV1.out, ← HZ.out]; exact HNI.out))
                    by_cases hfull : F.length = most
                    case pos =>
                      have hfi : ((F.length : Int) == (most : Int)) = true := by simp; omega
                      have hbig := HFEW.out _ _ _ _ HADD.out
                      rw [List.length_append] at hbig
                      have HBIG := Lib.hid (show most < N by simp at hbig; omega)
                      clear hbig hfull
                      go_wp2_with (at_lookup; refine wpList_seen_lookup rfl _ _ rfl rfl HS.out rfl (HDIG.out Z HZW.out) (by rw [HZL.out]; omega) ?_; rw [hmem])
                      go_ret2
                      exact ⟨.inr ⟨by rw [← clS_eq HO.out HI.out, ← HNN.out]; exact HBIG.out, rfl⟩, HXB.out.trans HX.out⟩
                    case neg =>
                      have hfi : ((F.length : Int) == (most : Int)) = false := by simp; omega
                      have hlt : F.length < most := by omega
                      clear hfull
                      go_wp2_with (first
                        | (at_lookup; refine wpList_seen_lookup rfl _ _ rfl rfl HS.out rfl (HDIG.out Z HZW.out) (by rw [HZL.out]; omega) ?_; rw [hmem])
                        | (refine wpList_seen_update rfl _ _ _ (.inl rfl) rfl HS.out (by unfold maxLen; omega) rfl rfl (HDIG.out Z HZW.out) (by rw [HZL.out]; omega) ?_))
                      intro w6 hs6 hg6
                      have hsz6 := hg6.size
                      have HS6 := Lib.hid hs6
                      have HC6 := Lib.hid (HC.out.other hg6 rfl hfm)
                      have HR6 := Lib.hid (HRZ.out.grown hg6 (.inr rfl))
                      have HX6 := Lib.hid (ext_grownBy HX.out hg6 (fun k e => by injection e with e; omega))
                      clear hs6 hg6 HC HS HX HRZ
                      have hrz := HR6.out
                      obtain ⟨-, bz', cz', hze, -⟩ := id hrz
                      simp only [Value.slice.injEq, Option.some.injEq, Addr.mk.injEq, and_true, true_and] at hze
                      obtain ⟨rfl, rfl⟩ := hze
                      have hxb6 := ext_box w6 (.slice (some ⟨bz, 0, none⟩) Z.length cz) 27
                      have HC7 := Lib.hid (HC6.out.ext hxb6)
                      have HR7 := Lib.hid (HR6.out.ext hxb6)
                      have HX7 := Lib.hid (HX6.out.trans hxb6)
                      have hone := hrz.cell
                      have hs7 := HS6.out.ext hxb6
                      have HS7 := Lib.hid hs7
                      have hzb : wb.heap.size ≤ (w6.alloc (.cells #[.slice (some ⟨bz, 0, none⟩) Z.length cz] 27)).heap.size := Below.size HX7.out
                      clear hrz hxb6 hs7
                      go_wp2_with (at_builtin; refine wpList_append_one rfl _ _ 24 27 rfl Tryz.underlying24 infoSl wb.heap.size _ _ xf rfl HC7.out.own _ _ hone rfl (cell_new _ _ _) (by omega) hzb ?_)
                      intro v' w8 hown8 hgr8 hv8 hbl8
                      obtain ⟨g', c', rfl, hm8, hg8⟩ := HC7.out.app HR7.out hown8 hgr8 hv8 (by
                        rcases hbl8 with e | e
                        · exact .inl e
                        · exact .inr (by rw [show (w6.alloc (.cells #[.slice (some ⟨bz, 0, none⟩) Z.length cz] 27)).heap.size = w6.heap.size + 1 by simp]; exact e))
                      have hX8 : Ext wb w8 := Ext.grown HX7.out hgr8 HC7.out.own (Nat.le_refl _)
                      have hlg := HS7.out.lt
                      have hfm8 : g' ≠ gm := by
                        rcases hg8 with e | e
                        · omega
                        · omega
                      have hs8 := HS7.out.kept hgr8 (fun e => hfm (Option.some.inj (show some gm = some f from e)).symm)
                      have hadd := HADD.out
                      rw [HV1.out, ← HZ.out] at hadd
                      have hrow : row (F ++ [Z]) i = V := by rw [rowB_app hil]; exact HV1.out
                      have hFl : (F ++ [Z]).length = F.length + 1 := by simp
                      rw [← hFl] at hs8
                      have hil8 : i < (F ++ [Z]).length := by rw [hFl]; omega
                      have hFm8 : (F ++ [Z]).length ≤ most := by rw [hFl]; omega
                      have HM8 := Lib.hid hm8
                      have HS8 := Lib.hid hs8
                      have HX8 := Lib.hid hX8
                      have HAD := Lib.hid hadd
                      have HRO := Lib.hid hrow
                      clear hm8 hs8 hX8 hadd hrow hFl hown8 hgr8 hv8 hbl8 hg8 HADD
                      generalize F ++ [Z] = F' at *
                      go_wp2
                      go_roundw
                      case rel => exact ⟨j + 1, _, _, _, F', rfl, by go_num, HAD.out, HM8.out, hfm8, HS8.out, hil8, HRO.out, by omega, hFm8, HX8.out⟩
                      case measure => simp [intOf]; omega
end Go.Proofs.YtjfjpngajboidaaGreat
