/-
  Contracts of l10Isomorphism, l10Automorphisms, l11Maps.
-/
import Derived.Great.BuildSlice
import Derived.Test.YthlafeefjonkdaaGreatDoorJx22
namespace Go.Proofs.YthlafeefjonkdaaGreatDoor
set_option linter.unusedVariables false
set_option linter.unusedSimpArgs false
open Go.RowKit
attribute [local go_sem ↓] Go.wp_at_zero Go.wp_at_succ

theorem tabs_lit1 {w : World} {B : Nat} {x : Value} {t : List (List Int)} (hc : w.cell? ⟨B, 0, none⟩ = some x) (hv : Rows w x t) : Tabs w (.slice (some ⟨B, 0, none⟩) 1 1) [t] :=
  ⟨by simp, B, 0, 1, rfl, fun k hk => by
    have : k = 0 := by simpa using hk
    subst this
    exact ⟨x, hc, by rw [tab_one]; exact hv⟩⟩
theorem tabs_lit2 {w : World} {B : Nat} {x y : Value} {t u : List (List Int)} (hc : w.cell? ⟨B, 0, none⟩ = some x) (hd : w.cell? ⟨B, 1, none⟩ = some y) (hv : Rows w x t) (hu : Rows w y u) : Tabs w (.slice (some ⟨B, 0, none⟩) 2 2) [t, u] :=
  ⟨by simp, B, 0, 2, rfl, fun k hk => by
    have : k = 0 ∨ k = 1 := by have := hk; simp at this; omega
    rcases this with rfl | rfl
    · exact ⟨x, hc, by rw [tab_two0]; exact hv⟩
    · exact ⟨y, hd, by rw [tab_two1]; exact hu⟩⟩
theorem ints_lit0 {w : World} {B : Nat} (hc : w.cell? ⟨B, 0, none⟩ = some (.int .i64 0)) : Ints w (.slice (some ⟨B, 0, none⟩) 1 1) [0] :=
  ⟨by simp, B, 0, 1, rfl, fun k hk => by
    have : k = 0 := by simpa using hk
    subst this
    rw [ix_eq]; exact hc⟩
theorem grp_tabs {t : List (List Int)} (h : GroupOk t) : TabsOk t.length [t] := TabsOk.one h.1
theorem brace_tabs {t u : List (List Int)} (h : GroupOk t) (h2 : GroupOk u) (hl : t.length = u.length) : TabsOk t.length [t, u] := TabsOk.two h.1 h2.1 hl.symm
theorem extL_grp {n : Nat} {t u : List (List Int)} {a b : List (List (List Int))} (h : GroupOk t) (h2 : GroupOk u) (hl : t.length = n) (hl2 : u.length = n) : extL n (t :: a) (u :: b) [0] = isoL n (t :: a) (u :: b) :=
  extL_zero (by simp) (by rw [tab_eq]; exact h) (by rw [tab_eq]; exact h2) (by rw [tab_eq]; exact hl) (by rw [tab_eq]; exact hl2)
theorem take_grp {n : Nat} {t u : List (List Int)} {a b : List (List (List Int))} (h : GroupOk t) (h2 : GroupOk u) (hl : t.length = n) (hl2 : u.length = n) (h12 : n ≤ 12) : (extL n (t :: a) (u :: b) [0]).take 1000000 = isoL n (t :: a) (u :: b) :=
  take_iso (by simp) (by rw [tab_eq]; exact h) (by rw [tab_eq]; exact h2) (by rw [tab_eq]; exact hl) (by rw [tab_eq]; exact hl2) h12

set_option maxRecDepth 100000 in
set_option maxHeartbeats 2000000 in
theorem l10Automorphisms_any (t : List (List Int)) (v : Value) (w : World) (hv : Rows w v t) (hG : GroupOk t) :
    Calls Tryz.prog 96 #[v] w fun e w' => ∃ v', e = .returned v' ∧ RowsR w' v' (isoL t.length [t] [t]) ∧ Ext w w' := by
  obtain ⟨hlen, b, o, c, rfl, hc⟩ := id hv
  clear hc
  have HTA := Lib.hid (grp_tabs hG)
  have HN1 := Lib.hid hG.1.1
  have HN12 := Lib.hid hG.1.2.1
  have HG := Lib.hid hG
  clear hG
  have hX : Ext w (((w.alloc (.cells #[.slice (some ⟨b, o, none⟩) t.length c] 24)).alloc (.cells #[.slice (some ⟨b, o, none⟩) t.length c] 24)).alloc (.cells #[.int .i64 0] 2)) := (((Ext.refl w).alloc _).alloc _).alloc _
  go_enter Tryz.func96, Tryz.ntmps96
  go_wp2_with fail
  refine (l03Maps_any [t] [t] _ _ _ t.length 1000000 _ (tabs_lit1 (by simp [go_sem]; done) (hv.ext hX)) (tabs_lit1 (by simp [go_sem]; done) (hv.ext hX)) (ints_lit0 (by simp [go_sem]; done)) HTA.out HTA.out rfl (by simp) HN1.out HN12.out (by simp) (by omega) (by omega)).mono ?_
  rintro e wn ⟨v', rfl, hg, hx⟩
  replace hX := hX.trans hx
  clear hx
  rw [take_grp HG.out HG.out rfl rfl HN12.out] at hg
  have hr := Lib.hid hg.toR
  clear hg
  go_wp2
  go_ret
  exact ⟨_, rfl, hr.out, hX⟩

end Go.Proofs.YthlafeefjonkdaaGreatDoor


namespace Go.Proofs.YthlafeefjonkdaaGreatDoor
set_option linter.unusedVariables false
set_option linter.unusedSimpArgs false
open Go.RowKit
attribute [local go_sem ↓] Go.wp_at_zero Go.wp_at_succ

end Go.Proofs.YthlafeefjonkdaaGreatDoor


namespace Go.Proofs.YthlafeefjonkdaaGreatDoor
set_option linter.unusedVariables false
set_option linter.unusedSimpArgs false
open Go.RowKit
attribute [local go_sem ↓] Go.wp_at_zero Go.wp_at_succ
open Go.Deep

set_option maxRecDepth 100000 in
set_option maxHeartbeats 1000000 in
theorem l04Product_own (t u : List (List Int)) (v y : Value) (w : World) (N : Nat) (hN : N = t.length * u.length) (hN12 : N ≤ 12) (hv : Rows w v t) (hy : Rows w y u) (hT : TableOk t) (hU : TableOk u) :
    Calls Tryz.prog 59 #[v, y] w (NewT (mkT N (prodF t u)) w) := by
  obtain ⟨hlen, b, o, c, rfl, hc⟩ := id hv
  obtain ⟨hlen2, b2, o2, c2, rfl, hc2⟩ := id hy
  have ha12 := hT.2.1
  have hb12 := hU.2.1
  have HA := Lib.hid hT
  have HB := Lib.hid hU
  have HK := Lib.hid (show ∀ k, k < N → k < t.length * u.length by intro k hk; rw [← hN]; exact hk)
  have hnm := cast_mul' t.length u.length N hN
  have hm0 : ((u.length : Int) == 0) = false := by have := hU.1; rw [beq_eq_false_iff_ne]; omega
  have hm1 : ¬ (u.length : Int) = 0 := by have := hU.1; omega
  have hm2 : ¬ u.length = 0 := by have := hU.1; omega
  have hm3 : ¬ u = [] := fun e => by have := hU.1; rw [e] at this; simp at this
  clear hT hU hN
  have HLT := Lib.hid (length_mkT N (prodF t u))
  go_enter Tryz.func59, Tryz.ntmps59
  go_wp2
  have hX := Ext.refl w
  have hx0 : Ext w (w.alloc (.cells #[] 29)) := (Ext.refl _).alloc _
  have hg0 := MineT.lit (lo := w.heap.size) (w := w) (Nat.le_refl _)
  go_loopw [7, 8] (fun v x wr => ∃ k : Nat, k ≤ N ∧ x = .int .i64 k ∧ MineT w.heap.size NoO wr v ((mkT N (prodF t u)).take k) ∧ v ≠ .slice none 0 0 ∧ Ext w wr) (fun _ x _ => N - (intOf x).toNat)
  case atStart => exact ⟨0, Nat.zero_le _, rfl, hg0, by simp, hx0⟩
  case round =>
    clear hx0 hg0
    obtain ⟨k, hk, rfl, hg, hv', hx⟩ := hrel
    have HV := Lib.hid hv'
    clear hv'
    by_cases hkl : k < N
    case neg =>
      have : (mkT N (prodF t u)).take k = (mkT N (prodF t u)) := List.take_of_length_le (by rw [HLT.out]; omega)
      rw [this] at hg
      obtain ⟨bq, cq, rfl, hoq⟩ := hg.newT HV.out
      go_wp2
      go_ret
      exact ⟨bq, cq, rfl, hoq, hX.trans hx⟩
    case pos =>
      obtain ⟨w2, rfl⟩ : ∃ w2 : World, w2 = wr := ⟨_, rfl⟩
      have hxa : Ext w2 (w2.alloc (.cells #[] 2)) := (Ext.refl _).alloc _
      have hi0 := GrowI.lit (e := 2) (base := w2.heap.size) (w := w2) (Nat.le_refl _)
      go_wp2
      have HRL := Lib.hid (show (row (mkT N (prodF t u)) k).length = N by rw [row_mkT _ _ _ hkl, length_partRow])
      have HO := Lib.hid hg.lt
      go_loopw [9, 10] (fun v y wr => ∃ j : Nat, j ≤ N ∧ y = .int .i64 j ∧ GrowI 2 w2.heap.size wr v ((row (mkT N (prodF t u)) k).take j) ∧ v ≠ .slice none 0 0 ∧ Ext w2 wr) (fun _ y _ => N - (intOf y).toNat)
      case atStart => exact ⟨0, Nat.zero_le _, rfl, hi0, by simp, hxa⟩
      case round =>
        clear hxa hi0
        obtain ⟨j, hj, rfl, hi, hvr, hx2⟩ := hrel
        have HVR := Lib.hid hvr
        clear hvr
        by_cases hjl : j < N
        case neg =>
          have hta : (row (mkT N (prodF t u)) k).take j = row (mkT N (prodF t u)) k := List.take_of_length_le (by rw [HRL.out]; omega)
          rw [hta] at hi
          obtain ⟨br, cr, rfl, hoi⟩ := hi.own HVR.out
          have HTL := Lib.hid (show ((mkT N (prodF t u)).take k).length = k by rw [List.length_take, HLT.out]; omega)
          go_wp2_with (at_builtin; refine wpList_append_row_mine rfl _ _ 24 rfl Tryz.underlying24 infoSl w.heap.size _ _ rfl hg (hx2.trans (ext_box _ _ _)) _ br cr _ rfl (cell_new _ _ _) (OwnI.alloc1 hoi) (by rw [HTL.out]; omega) (by have := hx.size; omega) ?_)
          intro v' w3 hg3 hgr hv3 hat3
          have hx3 : Ext w w3 := (hx.trans (hx2.trans (ext_box _ _ _))).grownOwn hgr (fun g e => (HO.out g e).1)
          clear hgr hat3
          go_wp2
          go_roundw
          case rel => exact ⟨k + 1, by omega, by go_num, by rw [take_row _ _ (by rw [HLT.out]; exact hkl)]; exact hg3, hv3, hx3⟩
          case measure => simp [intOf]; omega
        case pos =>
          obtain ⟨q1, z1, hq1, hz1, lq1, lz1, dq1, dz1⟩ := divs (HK.out k hkl)
          obtain ⟨q2, z2, hq2, hz2, lq2, lz2, dq2, dz2⟩ := divs (HK.out j hjl)
          obtain ⟨tq1, tz1⟩ := tdivs hq1 hz1
          obtain ⟨tq2, tz2⟩ := tdivs hq2 hz2
          have wq1 : IntKind.i64.wrap (q1 : Int) = (q1 : Int) := IntWalk.i64_in _ (by omega)
          have wq2 : IntKind.i64.wrap (q2 : Int) = (q2 : Int) := IntWalk.i64_in _ (by omega)
          have wz1 : IntKind.i64.wrap (z1 : Int) = (z1 : Int) := IntWalk.i64_in _ (by omega)
          have wz2 : IntKind.i64.wrap (z2 : Int) = (z2 : Int) := IntWalk.i64_in _ (by omega)
          obtain ⟨d1, s1, m1, r1, l1⟩ := (hc.ext hx).read HA.out rfl lq1
          obtain ⟨e1, i1, i2⟩ := l1 q2 lq2
          obtain ⟨d2, s2, m2, r2, l2⟩ := (hc2.ext hx).read HB.out rfl lz1
          obtain ⟨e2, i3, i4⟩ := l2 z2 lz2
          have hmb := mul_bd i1 (by omega) (show (0 : Int) ≤ (u.length : Int) by omega) (by omega)
          have hw1 : IntKind.i64.wrap (ent t q1 q2 * (u.length : Int)) = ent t q1 q2 * (u.length : Int) := IntWalk.i64_in _ (by omega)
          have hpf : ent t q1 q2 * (u.length : Int) + ent u z1 z2 = prodF t u k j := by rw [← prodF_def, dq1, dz1, dq2, dz2]
          have hw2 : IntKind.i64.wrap (ent t q1 q2 * (u.length : Int) + ent u z1 z2) = prodF t u k j := by rw [← hpf]; exact IntWalk.i64_in _ (by omega)
          have p1 := hx2.cell r1
          have p2 := hx2.cell r2
          have p3 := hx2.cell e1
          have p4 := hx2.cell e2
          have b1 : (q1 : Int) < (t.length : Int) := by omega
          have b2' : (q2 : Int) < (t.length : Int) := by omega
          have b3 : (z1 : Int) < (u.length : Int) := by omega
          have b4 : (z2 : Int) < (u.length : Int) := by omega
          clear l1 l2 dq1 dz1 dq2 dz2 hpf
          have HLJ := Lib.hid (show ((row (mkT N (prodF t u)) k).take j).length = j by rw [List.length_take, HRL.out]; omega)
          go_wp2_with fail
          go_region_held3 (fun w' => w'.cell? ⟨b, o + q1, none⟩ = some (.slice (some ⟨d1, s1, none⟩) t.length m1) ∧ w'.cell? ⟨b2, o2 + z1, none⟩ = some (.slice (some ⟨d2, s2, none⟩) u.length m2) ∧ w'.cell? ⟨d1, s1 + q2, none⟩ = some (.int .i64 (ent t q1 q2)) ∧ w'.cell? ⟨d2, s2 + z2, none⟩ = some (.int .i64 (ent u z1 z2)))
            ((refine ⟨?_, ?_, ?_, ?_⟩ <;> (repeat first | (with_reducible assumption) | (with_reducible refine Ext.cell hx3 ?_) |  (with_reducible exact kc_new) | ((with_reducible refine kc_newE ?_); (simp; done)) | ((with_reducible refine kc_newEa ?_); (simp; done)) | ((with_reducible refine kc_newEb ?_); (simp; done)) | (with_reducible apply kc_alloc) | (with_reducible apply kc_drewN) | (with_reducible apply kc_drew) | ((with_reducible refine kc_set ?_ ?_); (first | (simp only []; omega) | (simp; omega) | (focus (simp; done)))) | ((with_reducible refine kc_set2 ?_ ?_); (focus (simp; done))) | (with_reducible refine kc_same (v := .slice none 0 0) ?_))))
            ((refine step_append_int (by rfl) _ _ 29 2 (by rfl) Tryz.underlying29 infoInt w2.heap.size _ _ (by rfl) (hi.ext (by (repeat first | (with_reducible exact Ext.refl _) | (with_reducible assumption) | (with_reducible apply Ext.drew) | (with_reducible apply kx_drewN) | (with_reducible apply kx_alloc) | ((with_reducible refine kx_set ?_ ?_); (first | (simp only []; omega) | (simp; omega) | (focus (simp; done)))) ))) _ _ (by rfl) (by (repeat first | (with_reducible assumption) |  (with_reducible exact kc_new) | ((with_reducible refine kc_newE ?_); (simp; done)) | ((with_reducible refine kc_newEa ?_); (simp; done)) | ((with_reducible refine kc_newEb ?_); (simp; done)) | (with_reducible apply kc_alloc) | (with_reducible apply kc_drewN) | (with_reducible apply kc_drew) | ((with_reducible refine kc_set ?_ ?_); (first | (simp only []; omega) | (simp; omega) | (focus (simp; done)))) | ((with_reducible refine kc_set2 ?_ ?_); (focus (simp; done))) | (with_reducible refine kc_same (v := .slice none 0 0) ?_))) (by rw [HLJ.out]; omega) (by have := hx2.size; simp; omega) ?_; intro v' w3 hi3 hgr hv3; have hx3 : Ext w2 w3 := Ext.grown (hx2.trans (by (repeat first | (with_reducible exact Ext.refl _) | (with_reducible assumption) | (with_reducible apply Ext.drew) | (with_reducible apply kx_drewN) | (with_reducible apply kx_alloc) | ((with_reducible refine kx_set ?_ ?_); (first | (simp only []; omega) | (simp; omega) | (focus (simp; done)))) ))) hgr (hi.ext (by (repeat first | (with_reducible exact Ext.refl _) | (with_reducible assumption) | (with_reducible apply Ext.drew) | (with_reducible apply kx_drewN) | (with_reducible apply kx_alloc) | ((with_reducible refine kx_set ?_ ?_); (first | (simp only []; omega) | (simp; omega) | (focus (simp; done)))) ))) (Nat.le_refl _)))
          all_goals
            go_wp2
            go_roundw
            case rel => exact ⟨j + 1, by omega, by go_num, by
              rw [take_ix _ _ (by rw [HRL.out]; exact hjl), row_mkT _ _ _ hkl, ix_partRow _ _ _ _ _ hjl, if_pos hjl]
              rw [row_mkT _ _ _ hkl] at hi3
              exact hi3, hv3, hx3⟩
            case measure => simp [intOf]; omega
end Go.Proofs.YthlafeefjonkdaaGreatDoor


namespace Go.Proofs.YthlafeefjonkdaaGreatDoor
set_option linter.unusedVariables false
set_option linter.unusedSimpArgs false
open Go.RowKit
attribute [local go_sem ↓] Go.wp_at_zero Go.wp_at_succ
open Go.Deep

set_option maxRecDepth 100000 in
set_option maxHeartbeats 1000000 in
theorem l10Permutations_own (n : Nat) (S : List (List Int)) (v : Value) (w : World) (hv : Rows w v S) (hS : ∀ i, i < S.length → IsoOk n [] [] (row S i)) (h12 : n ≤ 12) (hl12 : S.length ≤ 12) :
    Calls Tryz.prog 122 #[v] w (NewT (mkT S.length (gopE S)) w) := by
  obtain ⟨hlen, b, o, c, rfl, hc⟩ := id hv
  have HS := Lib.hid hS
  clear hS
  have HLT := Lib.hid (length_mkT S.length (gopE S))
  go_enter Tryz.func122, Tryz.ntmps122
  go_wp2
  have hX := Ext.refl w
  have hx0 : Ext w (w.alloc (.cells #[] 29)) := (Ext.refl _).alloc _
  have hg0 := MineT.lit (lo := w.heap.size) (w := w) (Nat.le_refl _)
  go_loopw [3, 4] (fun v x wr => ∃ k : Nat, k ≤ S.length ∧ x = .int .i64 k ∧ MineT w.heap.size NoO wr v ((mkT S.length (gopE S)).take k) ∧ v ≠ .slice none 0 0 ∧ Ext w wr) (fun _ x _ => S.length - (intOf x).toNat)
  case atStart => exact ⟨0, Nat.zero_le _, rfl, hg0, by simp, hx0⟩
  case round =>
    clear hx0 hg0
    obtain ⟨k, hk, rfl, hg, hv', hx⟩ := hrel
    have HV := Lib.hid hv'
    clear hv'
    by_cases hkl : k < S.length
    case neg =>
      have : (mkT S.length (gopE S)).take k = (mkT S.length (gopE S)) := List.take_of_length_le (by rw [HLT.out]; omega)
      rw [this] at hg
      obtain ⟨bq, cq, rfl, hoq⟩ := hg.newT HV.out
      go_wp2
      go_ret
      exact ⟨bq, cq, rfl, hoq, hX.trans hx⟩
    case pos =>
      obtain ⟨w2, rfl⟩ : ∃ w2 : World, w2 = wr := ⟨_, rfl⟩
      have hxa : Ext w2 (w2.alloc (.cells #[] 2)) := (Ext.refl _).alloc _
      have hi0 := GrowI.lit (e := 2) (base := w2.heap.size) (w := w2) (Nat.le_refl _)
      go_wp2
      have HRL := Lib.hid (show (row (mkT S.length (gopE S)) k).length = S.length by rw [row_mkT _ _ _ hkl, length_partRow])
      have HO := Lib.hid hg.lt
      go_loopw [5, 6] (fun v y wr => ∃ j : Nat, j ≤ S.length ∧ y = .int .i64 j ∧ GrowI 2 w2.heap.size wr v ((row (mkT S.length (gopE S)) k).take j) ∧ v ≠ .slice none 0 0 ∧ Ext w2 wr) (fun _ y _ => S.length - (intOf y).toNat)
      case atStart => exact ⟨0, Nat.zero_le _, rfl, hi0, by simp, hxa⟩
      case round =>
        clear hxa hi0
        obtain ⟨j, hj, rfl, hi, hvr, hx2⟩ := hrel
        have HVR := Lib.hid hvr
        clear hvr
        by_cases hjl : j < S.length
        case neg =>
          have hta : (row (mkT S.length (gopE S)) k).take j = row (mkT S.length (gopE S)) k := List.take_of_length_le (by rw [HRL.out]; omega)
          rw [hta] at hi
          obtain ⟨br, cr, rfl, hoi⟩ := hi.own HVR.out
          have HTL := Lib.hid (show ((mkT S.length (gopE S)).take k).length = k by rw [List.length_take, HLT.out]; omega)
          go_wp2_with (at_builtin; refine wpList_append_row_mine rfl _ _ 24 rfl Tryz.underlying24 infoSl w.heap.size _ _ rfl hg (hx2.trans (ext_box _ _ _)) _ br cr _ rfl (cell_new _ _ _) (OwnI.alloc1 hoi) (by rw [HTL.out]; omega) (by have := hx.size; omega) ?_)
          intro v' w3 hg3 hgr hv3 hat3
          have hx3 : Ext w w3 := (hx.trans (hx2.trans (ext_box _ _ _))).grownOwn hgr (fun g e => (HO.out g e).1)
          clear hgr hat3
          go_wp2
          go_roundw
          case rel => exact ⟨k + 1, by omega, by go_num, by rw [take_row _ _ (by rw [HLT.out]; exact hkl)]; exact hg3, hv3, hx3⟩
          case measure => simp [intOf]; omega
        case pos =>
          obtain ⟨d1, s1, m1, r1, i1, -⟩ := (hc.ext hx).get hkl
          obtain ⟨d2, s2, m2, r2, i2, -⟩ := (hc.ext hx).get hjl
          have g1 := HS.out k hkl
          have g2 := HS.out j hjl
          rw [g1.1] at r1
          rw [g2.1] at r2
          have J1 := Lib.hid (show Ints w2 (.slice (some ⟨d1, s1, none⟩) n m1) (row S k) from ⟨by rw [g1.1]; omega, d1, s1, m1, by rw [g1.1], i1⟩)
          have J2 := Lib.hid (show Ints w2 (.slice (some ⟨d2, s2, none⟩) n m2) (row S j) from ⟨by rw [g2.1]; omega, d2, s2, m2, by rw [g2.1], i2⟩)
          have HTH := Lib.hid (show ∀ W, Ext w2 W → Calls Tryz.prog 123 #[.slice (some ⟨d1, s1, none⟩) n m1, .slice (some ⟨d2, s2, none⟩) n m2] W (NewI (thenL (row S k) (row S j)) W) from fun W h => l01Then_any n _ _ _ _ W (J1.out.ext h) (J2.out.ext h) g1 g2.1 h12)
          have HTL := Lib.hid (show (thenL (row S k) (row S j)).length ≤ 1048576 by rw [length_thenL, g1.1]; omega)
          have p1 := hx2.cell r1
          have p2 := hx2.cell r2
          clear i1 i2 g1 g2
          have HLJ := Lib.hid (show ((row (mkT S.length (gopE S)) k).take j).length = j by rw [List.length_take, HRL.out]; omega)
          go_wp2_with fail
          go_region_held3 (fun w' => w'.cell? ⟨b, o + k, none⟩ = some (.slice (some ⟨d1, s1, none⟩) n m1) ∧ w'.cell? ⟨b, o + j, none⟩ = some (.slice (some ⟨d2, s2, none⟩) n m2))
            ((refine ⟨?_, ?_⟩ <;> (repeat first | (with_reducible assumption) | (with_reducible refine Ext.cell hx3 ?_) | (with_reducible refine Ext.cell hx4 ?_) |  (with_reducible exact kc_new) | ((with_reducible refine kc_newE ?_); (simp; done)) | ((with_reducible refine kc_newEa ?_); (simp; done)) | ((with_reducible refine kc_newEb ?_); (simp; done)) | (with_reducible apply kc_alloc) | (with_reducible apply kc_drewN) | (with_reducible apply kc_drew) | ((with_reducible refine kc_set ?_ ?_); (first | (simp only []; omega) | (simp; omega) | (focus (simp; done)))) | ((with_reducible refine kc_set2 ?_ ?_); (focus (simp; done))) | (with_reducible refine kc_same (v := .slice none 0 0) ?_))))
            (first
              | (go_at_call 123; refine (HTH.out _ (hx2.trans (by (repeat first | (with_reducible exact Ext.refl _) | (with_reducible assumption) | (with_reducible apply Ext.drew) | (with_reducible apply kx_drewN) | (with_reducible apply kx_alloc) | ((with_reducible refine kx_set ?_ ?_); (first | (simp only []; omega) | (simp; omega) | (focus (simp; done)))) )))).mono ?_; rintro e w4 ⟨b4, c4, rfl, ho4, hx4⟩; have e4 := ho4.2.2.1.ints HTL.out c4; have z4 : w2.heap.size ≤ w4.heap.size := Ext.size (show Ext w2 w4 from hx2.trans (by (repeat first | (with_reducible exact Ext.refl _) | (with_reducible assumption) | (with_reducible apply Ext.drew) | (with_reducible apply kx_drewN) | (with_reducible apply kx_alloc) | ((with_reducible refine kx_set ?_ ?_); (first | (simp only []; omega) | (simp; omega) | (focus (simp; done)))) | (with_reducible refine Ext.trans ?_ hx4) ))))
              | (go_at_call 137; refine (l04Find_any S _ _ _ _ (hv.ext ((hx.trans hx2).trans (by (repeat first | (with_reducible exact Ext.refl _) | (with_reducible assumption) | (with_reducible apply Ext.drew) | (with_reducible apply kx_drewN) | (with_reducible apply kx_alloc) | ((with_reducible refine kx_set ?_ ?_); (first | (simp only []; omega) | (simp; omega) | (focus (simp; done)))) | (with_reducible refine Ext.trans ?_ hx4) )))) e4).mono ?_; rintro e w' ⟨rfl, ⟨m4, rfl⟩⟩)
              | (refine step_append_int (by rfl) _ _ 29 2 (by rfl) Tryz.underlying29 infoInt w2.heap.size _ _ (by rfl) (hi.ext (by (repeat first | (with_reducible exact Ext.refl _) | (with_reducible assumption) | (with_reducible apply Ext.drew) | (with_reducible apply kx_drewN) | (with_reducible apply kx_alloc) | ((with_reducible refine kx_set ?_ ?_); (first | (simp only []; omega) | (simp; omega) | (focus (simp; done)))) | (with_reducible refine Ext.trans ?_ hx4) ))) _ _ (by rfl) (by (repeat first | (with_reducible assumption) | (with_reducible refine Ext.cell hx4 ?_) |  (with_reducible exact kc_new) | ((with_reducible refine kc_newE ?_); (simp; done)) | ((with_reducible refine kc_newEa ?_); (simp; done)) | ((with_reducible refine kc_newEb ?_); (simp; done)) | (with_reducible apply kc_alloc) | (with_reducible apply kc_drewN) | (with_reducible apply kc_drew) | ((with_reducible refine kc_set ?_ ?_); (first | (simp only []; omega) | (simp; omega) | (focus (simp; done)))) | ((with_reducible refine kc_set2 ?_ ?_); (focus (simp; done))) | (with_reducible refine kc_same (v := .slice none 0 0) ?_))) (by rw [HLJ.out]; omega) (by have := hx2.size; simp; omega) ?_; intro v' w3 hi3 hgr hv3; have hx3 : Ext w2 w3 := Ext.grown (hx2.trans (by (repeat first | (with_reducible exact Ext.refl _) | (with_reducible assumption) | (with_reducible apply Ext.drew) | (with_reducible apply kx_drewN) | (with_reducible apply kx_alloc) | ((with_reducible refine kx_set ?_ ?_); (first | (simp only []; omega) | (simp; omega) | (focus (simp; done)))) | (with_reducible refine Ext.trans ?_ hx4) ))) hgr (hi.ext (by (repeat first | (with_reducible exact Ext.refl _) | (with_reducible assumption) | (with_reducible apply Ext.drew) | (with_reducible apply kx_drewN) | (with_reducible apply kx_alloc) | ((with_reducible refine kx_set ?_ ?_); (first | (simp only []; omega) | (simp; omega) | (focus (simp; done)))) | (with_reducible refine Ext.trans ?_ hx4) ))) (Nat.le_refl _)))
          all_goals
            go_wp2
            go_roundw
            case rel => exact ⟨j + 1, by omega, by go_num, by
              rw [take_ix _ _ (by rw [HRL.out]; exact hjl), row_mkT _ _ _ hkl, ix_partRow _ _ _ _ _ hjl, if_pos hjl]
              rw [row_mkT _ _ _ hkl] at hi3
              exact hi3, hv3, hx3⟩
            case measure => simp [intOf]; omega
end Go.Proofs.YthlafeefjonkdaaGreatDoor
