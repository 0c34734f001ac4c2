/-
  Contracts: products of tables, reference and program.
-/
import Derived.Test.YtncmfbebdbchbaaProg
import Derived.Deep.DeepCutAuto
import Derived.Deep.RegionWith
import Derived.Deep.RegionHeld3
import Derived.Deep.DrawnRows
import Derived.Test.YtncmfbebdbchbaaBase
import Derived.Test.YtncmfbebdbchbaaBase2
import Derived.Test.YtncmfbebdbchbaaRet
import Derived.Test.YtncmfbebdbchbaaSteps
import Derived.Test.YtncmfbebdbchbaaGrow
import Derived.Test.YtncmfbebdbchbaaGrowR
import Derived.Test.YtncmfbebdbchbaaPure1
import Derived.Test.YtncmfbebdbchbaaPureOrd
import Derived.Test.YtncmfbebdbchbaaPureInv
import Derived.Test.YtncmfbebdbchbaaPureTurn
import Derived.Test.YtncmfbebdbchbaaPureConj
import Derived.Test.YtncmfbebdbchbaaPureProd
import Derived.Test.YtncmfbebdbchbaaW1
import Derived.Test.YtncmfbebdbchbaaW3
import Derived.Test.YtncmfbebdbchbaaW6
import Derived.Test.YtncmfbebdbchbaaW8
import Derived.Test.YtncmfbebdbchbaaW11
import Derived.Test.YtncmfbebdbchbaaW12
import Derived.Test.YtncmfbebdbchbaaW13
import Derived.Test.YtncmfbebdbchbaaW20
import Derived.Test.YtncmfbebdbchbaaK2
namespace Go.Proofs.Ytncmfbebdbchbaa
set_option linter.unusedVariables false
set_option linter.unusedSimpArgs false
open Go.RowKit
attribute [local go_sem ↓] Go.wp_at_zero Go.wp_at_succ

set_option maxRecDepth 100000 in
set_option maxHeartbeats 1000000 in
theorem l04Product_any (t u : List (List Int)) (v y : Value) (w : World) (N : Nat) (hN : N = t.length * u.length) (hN12 : N ≤ 12) (hv : Rows w v t) (hy : Rows w y u) (hT : TableOk t) (hU : TableOk u) :
    Calls Try.prog 94 #[v, y] w fun e w' => ∃ v, e = .returned v ∧ Rows w' v (mkT N (prodF t u)) ∧ Ext w w' := by
  obtain ⟨hlen, b, o, c, rfl, hc⟩ := id hv
  obtain ⟨hlen2, b2, o2, c2, rfl, hc2⟩ := id hy
  have ha12 := hT.2.1
  have hb12 := hU.2.1
  have HA := Lib.hid hT
  have HB := Lib.hid hU
  have HK := Lib.hid (show ∀ k, k < N → k < t.length * u.length by intro k hk; rw [← hN]; exact hk)
  have hnm := cast_mul' t.length u.length N hN
  have hm0 : ((u.length : Int) == 0) = false := by have := hU.1; rw [beq_eq_false_iff_ne]; omega
  have hm1 : ¬ (u.length : Int) = 0 := by have := hU.1; omega
  have hm2 : ¬ u.length = 0 := by have := hU.1; omega
  have hm3 : ¬ u = [] := fun e => by have := hU.1; rw [e] at this; simp at this
  clear hT hU hN
  have HLT := Lib.hid (length_mkT N (prodF t u))
  go_enter Try.func94, Try.ntmps94
  go_wp2
  have hX := Ext.refl w
  have hx0 : Ext w (w.alloc (.cells #[] 50)) := (Ext.refl _).alloc _
  have hg0 := GrowT.lit (e := 50) (base := w.heap.size) (w := w) (Nat.le_refl _)
  go_loopw [7, 8] (fun v x wr => ∃ k : Nat, k ≤ N ∧ x = .int .i64 k ∧ GrowT 50 w.heap.size wr v ((mkT N (prodF t u)).take k) ∧ v ≠ .slice none 0 0 ∧ Ext w wr) (fun _ x _ => N - (intOf x).toNat)
  case atStart => exact ⟨0, Nat.zero_le _, rfl, hg0, by simp, hx0⟩
  case round =>
    clear hx0 hg0
    obtain ⟨k, hk, rfl, hg, hv', hx⟩ := hrel
    have HV := Lib.hid hv'
    clear hv'
    by_cases hkl : k < N
    case neg =>
      go_wp2
      go_ret
      refine ⟨u7, rfl, ?_, hX.trans hx⟩
      have : (mkT N (prodF t u)).take k = (mkT N (prodF t u)) := List.take_of_length_le (by rw [HLT.out]; omega)
      rw [this] at hg
      exact hg.rows (by rw [HLT.out]; omega) HV.out
    case pos =>
      obtain ⟨w2, rfl⟩ : ∃ w2 : World, w2 = wr := ⟨_, rfl⟩
      have hxa : Ext w2 (w2.alloc (.cells #[] 2)) := (Ext.refl _).alloc _
      have hi0 := GrowI.lit (e := 2) (base := w2.heap.size) (w := w2) (Nat.le_refl _)
      go_wp2
      have HRL := Lib.hid (show (row (mkT N (prodF t u)) k).length = N by rw [row_mkT _ _ _ hkl, length_partRow])
      have HO := Lib.hid hg.lt
      go_loopw [9, 10] (fun v y wr => ∃ j : Nat, j ≤ N ∧ y = .int .i64 j ∧ GrowI 2 w2.heap.size wr v ((row (mkT N (prodF t u)) k).take j) ∧ v ≠ .slice none 0 0 ∧ Ext w2 wr) (fun _ y _ => N - (intOf y).toNat)
      case atStart => exact ⟨0, Nat.zero_le _, rfl, hi0, by simp, hxa⟩
      case round =>
        clear hxa hi0
        obtain ⟨j, hj, rfl, hi, hvr, hx2⟩ := hrel
        have HVR := Lib.hid hvr
        clear hvr
        by_cases hjl : j < N
        case neg =>
          have hta : (row (mkT N (prodF t u)) k).take j = row (mkT N (prodF t u)) k := List.take_of_length_le (by rw [HRL.out]; omega)
          rw [hta] at hi
          obtain ⟨br, cr, rfl, hri, hrb, hrb2⟩ := hi.row HVR.out
          have hgw := hg.ext hx2
          have hne : some br ≠ u7.ownBlock := fun e => by have := HO.out br e.symm; omega
          have HTL := Lib.hid (show ((mkT N (prodF t u)).take k).length = k by rw [List.length_take, HLT.out]; omega)
          clear hg
          go_wp2_with (at_builtin; refine wpList_append_row rfl _ _ 22 50 rfl Try.underlying22 infoSl w.heap.size _ _ rfl (hgw.ext (ext_box _ _ _)) _ br cr _ rfl (cell_new _ _ _) (hri.ext (ext_box _ _ _)) (by rw [HRL.out]; omega) hne (by rw [HTL.out]; omega) (by have := hx.size; have := hx2.size; simp; omega) ?_)
          intro v' w3 hg3 hgr hv3
          have hx3 : Ext w w3 := (hx.trans (hx2.trans (ext_box _ _ _))).grown hgr (hgw.ext (ext_box _ _ _)).own.choose_spec (Nat.le_refl _)
          clear hgr hne hgw
          go_wp2
          go_roundw
          case rel => exact ⟨k + 1, by omega, by go_num, by rw [take_row _ _ (by rw [HLT.out]; exact hkl)]; exact hg3, hv3, hx3⟩
          case measure => simp [intOf]; omega
        case pos =>
          obtain ⟨q1, z1, hq1, hz1, lq1, lz1, dq1, dz1⟩ := divs (HK.out k hkl)
          obtain ⟨q2, z2, hq2, hz2, lq2, lz2, dq2, dz2⟩ := divs (HK.out j hjl)
          obtain ⟨tq1, tz1⟩ := tdivs hq1 hz1
          obtain ⟨tq2, tz2⟩ := tdivs hq2 hz2
          have wq1 : IntKind.i64.wrap (q1 : Int) = (q1 : Int) := IntWalk.i64_in _ (by omega)
          have wq2 : IntKind.i64.wrap (q2 : Int) = (q2 : Int) := IntWalk.i64_in _ (by omega)
          have wz1 : IntKind.i64.wrap (z1 : Int) = (z1 : Int) := IntWalk.i64_in _ (by omega)
          have wz2 : IntKind.i64.wrap (z2 : Int) = (z2 : Int) := IntWalk.i64_in _ (by omega)
          obtain ⟨d1, s1, m1, r1, l1⟩ := (hc.ext hx).read HA.out rfl lq1
          obtain ⟨e1, i1, i2⟩ := l1 q2 lq2
          obtain ⟨d2, s2, m2, r2, l2⟩ := (hc2.ext hx).read HB.out rfl lz1
          obtain ⟨e2, i3, i4⟩ := l2 z2 lz2
          have hmb := mul_bd i1 (by omega) (show (0 : Int) ≤ (u.length : Int) by omega) (by omega)
          have hw1 : IntKind.i64.wrap (ent t q1 q2 * (u.length : Int)) = ent t q1 q2 * (u.length : Int) := IntWalk.i64_in _ (by omega)
          have hpf : ent t q1 q2 * (u.length : Int) + ent u z1 z2 = prodF t u k j := by rw [← prodF_def, dq1, dz1, dq2, dz2]
          have hw2 : IntKind.i64.wrap (ent t q1 q2 * (u.length : Int) + ent u z1 z2) = prodF t u k j := by rw [← hpf]; exact IntWalk.i64_in _ (by omega)
          have p1 := hx2.cell r1
          have p2 := hx2.cell r2
          have p3 := hx2.cell e1
          have p4 := hx2.cell e2
          have b1 : (q1 : Int) < (t.length : Int) := by omega
          have b2' : (q2 : Int) < (t.length : Int) := by omega
          have b3 : (z1 : Int) < (u.length : Int) := by omega
          have b4 : (z2 : Int) < (u.length : Int) := by omega
          clear l1 l2 dq1 dz1 dq2 dz2 hpf
          have HLJ := Lib.hid (show ((row (mkT N (prodF t u)) k).take j).length = j by rw [List.length_take, HRL.out]; omega)
          go_wp2_with fail
          go_region_held3 (fun w' => w'.cell? ⟨b, o + q1, none⟩ = some (.slice (some ⟨d1, s1, none⟩) t.length m1) ∧ w'.cell? ⟨b2, o2 + z1, none⟩ = some (.slice (some ⟨d2, s2, none⟩) u.length m2) ∧ w'.cell? ⟨d1, s1 + q2, none⟩ = some (.int .i64 (ent t q1 q2)) ∧ w'.cell? ⟨d2, s2 + z2, none⟩ = some (.int .i64 (ent u z1 z2)))
            ((refine ⟨?_, ?_, ?_, ?_⟩ <;> (repeat first | (with_reducible assumption) | (with_reducible refine Ext.cell hx3 ?_) |  (with_reducible exact kc_new) | ((with_reducible refine kc_newE ?_); (simp; done)) | ((with_reducible refine kc_newEa ?_); (simp; done)) | ((with_reducible refine kc_newEb ?_); (simp; done)) | (with_reducible apply kc_alloc) | (with_reducible apply kc_drewN) | (with_reducible apply kc_drew) | ((with_reducible refine kc_set ?_ ?_); (first | (simp only []; omega) | (simp; omega) | (focus (simp; done)))) | ((with_reducible refine kc_set2 ?_ ?_); (focus (simp; done))) | (with_reducible refine kc_same (v := .slice none 0 0) ?_))))
            ((refine step_append_int (by rfl) _ _ 50 2 (by rfl) Try.underlying50 infoInt w2.heap.size _ _ (by rfl) (hi.ext (by (repeat first | (with_reducible exact Ext.refl _) | (with_reducible assumption) | (with_reducible apply Ext.drew) | (with_reducible apply kx_drewN) | (with_reducible apply kx_alloc) | ((with_reducible refine kx_set ?_ ?_); (first | (simp only []; omega) | (simp; omega) | (focus (simp; done)))) ))) _ _ (by rfl) (by (repeat first | (with_reducible assumption) |  (with_reducible exact kc_new) | ((with_reducible refine kc_newE ?_); (simp; done)) | ((with_reducible refine kc_newEa ?_); (simp; done)) | ((with_reducible refine kc_newEb ?_); (simp; done)) | (with_reducible apply kc_alloc) | (with_reducible apply kc_drewN) | (with_reducible apply kc_drew) | ((with_reducible refine kc_set ?_ ?_); (first | (simp only []; omega) | (simp; omega) | (focus (simp; done)))) | ((with_reducible refine kc_set2 ?_ ?_); (focus (simp; done))) | (with_reducible refine kc_same (v := .slice none 0 0) ?_))) (by rw [HLJ.out]; omega) (by have := hx2.size; simp; omega) ?_; intro v' w3 hi3 hgr hv3; have hx3 : Ext w2 w3 := Ext.grown (hx2.trans (by (repeat first | (with_reducible exact Ext.refl _) | (with_reducible assumption) | (with_reducible apply Ext.drew) | (with_reducible apply kx_drewN) | (with_reducible apply kx_alloc) | ((with_reducible refine kx_set ?_ ?_); (first | (simp only []; omega) | (simp; omega) | (focus (simp; done)))) ))) hgr (hi.ext (by (repeat first | (with_reducible exact Ext.refl _) | (with_reducible assumption) | (with_reducible apply Ext.drew) | (with_reducible apply kx_drewN) | (with_reducible apply kx_alloc) | ((with_reducible refine kx_set ?_ ?_); (first | (simp only []; omega) | (simp; omega) | (focus (simp; done)))) ))) (Nat.le_refl _)))
          all_goals
            go_wp2
            go_roundw
            case rel => exact ⟨j + 1, by omega, by go_num, by
              rw [take_ix _ _ (by rw [HRL.out]; exact hjl), row_mkT _ _ _ hkl, ix_partRow _ _ _ _ _ hjl, if_pos hjl]
              rw [row_mkT _ _ _ hkl] at hi3
              exact hi3, hv3, hx3⟩
            case measure => simp [intOf]; omega

theorem productTable1_any (t u : List (List Int)) (v y : Value) (N i j B C D : Nat) (w : World) (hN : N = t.length * u.length) (hB : w.cell? ⟨B, 0, none⟩ = some v) (hC : w.cell? ⟨C, 0, none⟩ = some (.int .i64 u.length)) (hD : w.cell? ⟨D, 0, none⟩ = some y) (hv : Rows w v t) (hy : Rows w y u) (hT : TableOk t) (hU : TableOk u) (hx : i < N) (hj : j < N) :
    Calls Try.prog 126 #[.int .i64 i, .int .i64 j, .pointer (some ⟨B, 0, none⟩), .pointer (some ⟨C, 0, none⟩), .pointer (some ⟨D, 0, none⟩)] w fun e w' => e = .returned (.int .i64 (prodF t u i j)) ∧ Ext w w' := by
  obtain ⟨hlen, b, o, c, rfl, hc⟩ := id hv
  obtain ⟨hlen2, b2, o2, c2, rfl, hc2⟩ := id hy
  have ha12 := hT.2.1
  have hb12 := hU.2.1
  have HA := Lib.hid hT
  have HB := Lib.hid hU
  have hm0 : ((u.length : Int) == 0) = false := by have := hU.1; rw [beq_eq_false_iff_ne]; omega
  have hm1 : ¬ (u.length : Int) = 0 := by have := hU.1; omega
  have hm2 : ¬ u.length = 0 := by have := hU.1; omega
  have hm3 : ¬ u = [] := fun e => by have := hU.1; rw [e] at this; simp at this
  obtain ⟨q1, z1, hq1, hz1, lq1, lz1, dq1, dz1⟩ := divs (show i < t.length * u.length by rw [← hN]; exact hx)
  obtain ⟨q2, z2, hq2, hz2, lq2, lz2, dq2, dz2⟩ := divs (show j < t.length * u.length by rw [← hN]; exact hj)
  obtain ⟨tq1, tz1⟩ := tdivs hq1 hz1
  obtain ⟨tq2, tz2⟩ := tdivs hq2 hz2
  have wq1 : IntKind.i64.wrap (q1 : Int) = (q1 : Int) := IntWalk.i64_in _ (by omega)
  have wq2 : IntKind.i64.wrap (q2 : Int) = (q2 : Int) := IntWalk.i64_in _ (by omega)
  have wz1 : IntKind.i64.wrap (z1 : Int) = (z1 : Int) := IntWalk.i64_in _ (by omega)
  have wz2 : IntKind.i64.wrap (z2 : Int) = (z2 : Int) := IntWalk.i64_in _ (by omega)
  obtain ⟨d1, s1, m1, r1, l1⟩ := hc.read HA.out rfl lq1
  obtain ⟨e1, i1, i2⟩ := l1 q2 lq2
  obtain ⟨d2, s2, m2, r2, l2⟩ := hc2.read HB.out rfl lz1
  obtain ⟨e2, i3, i4⟩ := l2 z2 lz2
  have hmb := mul_bd i1 (by omega) (show (0 : Int) ≤ (u.length : Int) by omega) (by omega)
  have hw1 : IntKind.i64.wrap (ent t q1 q2 * (u.length : Int)) = ent t q1 q2 * (u.length : Int) := IntWalk.i64_in _ (by omega)
  have hpf : ent t q1 q2 * (u.length : Int) + ent u z1 z2 = prodF t u i j := by rw [← prodF_def, dq1, dz1, dq2, dz2]
  have hw2 : IntKind.i64.wrap (ent t q1 q2 * (u.length : Int) + ent u z1 z2) = prodF t u i j := by rw [← hpf]; exact IntWalk.i64_in _ (by omega)
  have b1 : (q1 : Int) < (t.length : Int) := by omega
  have b2' : (q2 : Int) < (t.length : Int) := by omega
  have b3 : (z1 : Int) < (u.length : Int) := by omega
  have b4 : (z2 : Int) < (u.length : Int) := by omega
  clear l1 l2 dq1 dz1 dq2 dz2 hpf hT hU hN
  go_enter Try.func126, Try.ntmps126
  go_wp2
  go_quiet (fail)
  go_wp2
  go_ret
  exact ⟨rfl, (Ext.refl _).drewN _⟩

theorem callProductTable1 (args : Array Value) (w : World) : (callFunc 126 args).run Try.prog w = .ok (.enter 126 args) w :=
  callFunc_enter Try.func126 (by kernel_rfl) rfl args w

end Go.Proofs.Ytncmfbebdbchbaa
