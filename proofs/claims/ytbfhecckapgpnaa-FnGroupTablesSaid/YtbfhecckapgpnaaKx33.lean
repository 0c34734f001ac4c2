/-
  Contract (new memory)s: products of tables, reference and program.
-/
import Derived.Test.YtbfhecckapgpnaaProg
import Derived.Deep.DeepCutAuto
import Derived.Deep.RegionWith
import Derived.Deep.RegionHeld3
import Derived.Deep.DrawnRows
import Derived.Test.YtbfhecckapgpnaaKx0
import Derived.Test.YtbfhecckapgpnaaKx1
import Derived.Test.YtbfhecckapgpnaaKx2
import Derived.Test.YtbfhecckapgpnaaKx8
import Derived.Test.YtbfhecckapgpnaaKx9
import Derived.Test.YtbfhecckapgpnaaKx7
import Derived.Test.YtbfhecckapgpnaaKx31
import Derived.Test.YtbfhecckapgpnaaKx5
import Derived.Test.YtbfhecckapgpnaaKx12
import Derived.Test.YtbfhecckapgpnaaKx6
import Derived.Test.YtbfhecckapgpnaaKx10
import Derived.Test.YtbfhecckapgpnaaKx13
import Derived.Test.YtbfhecckapgpnaaKx28
import Derived.Test.YtbfhecckapgpnaaKx29
import Derived.Test.YtbfhecckapgpnaaKx14
import Derived.Test.YtbfhecckapgpnaaKx3
import Derived.Test.YtbfhecckapgpnaaKx22
import Derived.Test.YtbfhecckapgpnaaKx11
import Derived.Test.YtbfhecckapgpnaaKx41
import Derived.Test.YtbfhecckapgpnaaKx32
namespace Go.Proofs.Ytbfhecckapgpnaa
set_option linter.unusedVariables false
set_option linter.unusedSimpArgs false
open Go.RowKit
attribute [local go_sem ↓] Go.wp_at_zero Go.wp_at_succ
open Go.Deep

set_option maxRecDepth 100000 in
set_option maxHeartbeats 1000000 in
theorem l04Product_own (t u : List (List Int)) (v y : Value) (w : World) (N : Nat) (hN : N = t.length * u.length) (hN12 : N ≤ 12) (hv : Rows w v t) (hy : Rows w y u) (hT : TableOk t) (hU : TableOk u) :
    Calls Try.prog 117 #[v, y] w (NewT (mkT N (prodF t u)) w) := by
  obtain ⟨hlen, b, o, c, rfl, hc⟩ := id hv
  obtain ⟨hlen2, b2, o2, c2, rfl, hc2⟩ := id hy
  have ha12 := hT.2.1
  have hb12 := hU.2.1
  have HA := Lib.hid hT
  have HB := Lib.hid hU
  have HK := Lib.hid (show ∀ k, k < N → k < t.length * u.length by intro k hk; rw [← hN]; exact hk)
  have hnm := cast_mul' t.length u.length N hN
  have hm0 : ((u.length : Int) == 0) = false := by have := hU.1; rw [beq_eq_false_iff_ne]; omega
  have hm1 : ¬ (u.length : Int) = 0 := by have := hU.1; omega
  have hm2 : ¬ u.length = 0 := by have := hU.1; omega
  have hm3 : ¬ u = [] := fun e => by have := hU.1; rw [e] at this; simp at this
  clear hT hU hN
  have HLT := Lib.hid (length_mkT N (prodF t u))
  go_enter Try.func117, Try.ntmps117
  go_wp2
  have hX := Ext.refl w
  have hx0 : Ext w (w.alloc (.cells #[] 45)) := (Ext.refl _).alloc _
  have hg0 := MineT.lit (lo := w.heap.size) (w := w) (Nat.le_refl _)
  go_loopw [7, 8] (fun v x wr => ∃ k : Nat, k ≤ N ∧ x = .int .i64 k ∧ MineT w.heap.size NoO wr v ((mkT N (prodF t u)).take k) ∧ v ≠ .slice none 0 0 ∧ Ext w wr) (fun _ x _ => N - (intOf x).toNat)
  case atStart => exact ⟨0, Nat.zero_le _, rfl, hg0, by simp, hx0⟩
  case round =>
    clear hx0 hg0
    obtain ⟨k, hk, rfl, hg, hv', hx⟩ := hrel
    have HV := Lib.hid hv'
    clear hv'
    by_cases hkl : k < N
    case neg =>
      have : (mkT N (prodF t u)).take k = (mkT N (prodF t u)) := List.take_of_length_le (by rw [HLT.out]; omega)
      rw [this] at hg
      obtain ⟨bq, cq, rfl, hoq⟩ := hg.newT HV.out
      go_wp2
      go_ret
      exact ⟨bq, cq, rfl, hoq, hX.trans hx⟩
    case pos =>
      obtain ⟨w2, rfl⟩ : ∃ w2 : World, w2 = wr := ⟨_, rfl⟩
      have hxa : Ext w2 (w2.alloc (.cells #[] 2)) := (Ext.refl _).alloc _
      have hi0 := GrowI.lit (e := 2) (base := w2.heap.size) (w := w2) (Nat.le_refl _)
      go_wp2
      have HRL := Lib.hid (show (row (mkT N (prodF t u)) k).length = N by rw [row_mkT _ _ _ hkl, length_partRow])
      have HO := Lib.hid hg.lt
      go_loopw [9, 10] (fun v y wr => ∃ j : Nat, j ≤ N ∧ y = .int .i64 j ∧ GrowI 2 w2.heap.size wr v ((row (mkT N (prodF t u)) k).take j) ∧ v ≠ .slice none 0 0 ∧ Ext w2 wr) (fun _ y _ => N - (intOf y).toNat)
      case atStart => exact ⟨0, Nat.zero_le _, rfl, hi0, by simp, hxa⟩
      case round =>
        clear hxa hi0
        obtain ⟨j, hj, rfl, hi, hvr, hx2⟩ := hrel
        have HVR := Lib.hid hvr
        clear hvr
        by_cases hjl : j < N
        case neg =>
          have hta : (row (mkT N (prodF t u)) k).take j = row (mkT N (prodF t u)) k := List.take_of_length_le (by rw [HRL.out]; omega)
          rw [hta] at hi
          obtain ⟨br, cr, rfl, hoi⟩ := hi.own HVR.out
          have HTL := Lib.hid (show ((mkT N (prodF t u)).take k).length = k by rw [List.length_take, HLT.out]; omega)
          go_wp2_with (at_builtin; refine wpList_append_row_mine rfl _ _ 25 rfl Try.underlying25 infoSl w.heap.size _ _ rfl hg (hx2.trans (ext_box _ _ _)) _ br cr _ rfl (cell_new _ _ _) (OwnI.alloc1 hoi) (by rw [HTL.out]; omega) (by have := hx.size; omega) ?_)
          intro v' w3 hg3 hgr hv3 hat3
          have hx3 : Ext w w3 := (hx.trans (hx2.trans (ext_box _ _ _))).grownOwn hgr (fun g e => (HO.out g e).1)
          clear hgr hat3
          go_wp2
          go_roundw
          case rel => exact ⟨k + 1, by omega, by go_num, by rw [take_row _ _ (by rw [HLT.out]; exact hkl)]; exact hg3, hv3, hx3⟩
          case measure => simp [intOf]; omega
        case pos =>
          obtain ⟨q1, z1, hq1, hz1, lq1, lz1, dq1, dz1⟩ := divs (HK.out k hkl)
          obtain ⟨q2, z2, hq2, hz2, lq2, lz2, dq2, dz2⟩ := divs (HK.out j hjl)
          obtain ⟨tq1, tz1⟩ := tdivs hq1 hz1
          obtain ⟨tq2, tz2⟩ := tdivs hq2 hz2
          have wq1 : IntKind.i64.wrap (q1 : Int) = (q1 : Int) := IntWalk.i64_in _ (by omega)
          have wq2 : IntKind.i64.wrap (q2 : Int) = (q2 : Int) := IntWalk.i64_in _ (by omega)
          have wz1 : IntKind.i64.wrap (z1 : Int) = (z1 : Int) := IntWalk.i64_in _ (by omega)
          have wz2 : IntKind.i64.wrap (z2 : Int) = (z2 : Int) := IntWalk.i64_in _ (by omega)
          obtain ⟨d1, s1, m1, r1, l1⟩ := (hc.ext hx).read HA.out rfl lq1
          obtain ⟨e1, i1, i2⟩ := l1 q2 lq2
          obtain ⟨d2, s2, m2, r2, l2⟩ := (hc2.ext hx).read HB.out rfl lz1
          obtain ⟨e2, i3, i4⟩ := l2 z2 lz2
          have hmb := mul_bd i1 (by omega) (show (0 : Int) ≤ (u.length : Int) by omega) (by omega)
          have hw1 : IntKind.i64.wrap (ent t q1 q2 * (u.length : Int)) = ent t q1 q2 * (u.length : Int) := IntWalk.i64_in _ (by omega)
          have hpf : ent t q1 q2 * (u.length : Int) + ent u z1 z2 = prodF t u k j := by rw [← prodF_def, dq1, dz1, dq2, dz2]
          have hw2 : IntKind.i64.wrap (ent t q1 q2 * (u.length : Int) + ent u z1 z2) = prodF t u k j := by rw [← hpf]; exact IntWalk.i64_in _ (by omega)
          have p1 := hx2.cell r1
          have p2 := hx2.cell r2
          have p3 := hx2.cell e1
          have p4 := hx2.cell e2
          have b1 : (q1 : Int) < (t.length : Int) := by omega
          have b2' : (q2 : Int) < (t.length : Int) := by omega
          have b3 : (z1 : Int) < (u.length : Int) := by omega
          have b4 : (z2 : Int) < (u.length : Int) := by omega
          clear l1 l2 dq1 dz1 dq2 dz2 hpf
          have HLJ := Lib.hid (show ((row (mkT N (prodF t u)) k).take j).length = j by rw [List.length_take, HRL.out]; omega)
          go_wp2_with fail
          go_region_held3 (fun w' => w'.cell? ⟨b, o + q1, none⟩ = some (.slice (some ⟨d1, s1, none⟩) t.length m1) ∧ w'.cell? ⟨b2, o2 + z1, none⟩ = some (.slice (some ⟨d2, s2, none⟩) u.length m2) ∧ w'.cell? ⟨d1, s1 + q2, none⟩ = some (.int .i64 (ent t q1 q2)) ∧ w'.cell? ⟨d2, s2 + z2, none⟩ = some (.int .i64 (ent u z1 z2)))
            ((refine ⟨?_, ?_, ?_, ?_⟩ <;> (repeat first | (with_reducible assumption) | (with_reducible refine Ext.cell hx3 ?_) |  (with_reducible exact kc_new) | ((with_reducible refine kc_newE ?_); (simp; done)) | ((with_reducible refine kc_newEa ?_); (simp; done)) | ((with_reducible refine kc_newEb ?_); (simp; done)) | (with_reducible apply kc_alloc) | (with_reducible apply kc_drewN) | (with_reducible apply kc_drew) | ((with_reducible refine kc_set ?_ ?_); (first | (simp only []; omega) | (simp; omega) | (focus (simp; done)))) | ((with_reducible refine kc_set2 ?_ ?_); (focus (simp; done))) | (with_reducible refine kc_same (v := .slice none 0 0) ?_))))
            ((refine step_append_int (by rfl) _ _ 45 2 (by rfl) Try.underlying45 infoInt w2.heap.size _ _ (by rfl) (hi.ext (by (repeat first | (with_reducible exact Ext.refl _) | (with_reducible assumption) | (with_reducible apply Ext.drew) | (with_reducible apply kx_drewN) | (with_reducible apply kx_alloc) | ((with_reducible refine kx_set ?_ ?_); (first | (simp only []; omega) | (simp; omega) | (focus (simp; done)))) ))) _ _ (by rfl) (by (repeat first | (with_reducible assumption) |  (with_reducible exact kc_new) | ((with_reducible refine kc_newE ?_); (simp; done)) | ((with_reducible refine kc_newEa ?_); (simp; done)) | ((with_reducible refine kc_newEb ?_); (simp; done)) | (with_reducible apply kc_alloc) | (with_reducible apply kc_drewN) | (with_reducible apply kc_drew) | ((with_reducible refine kc_set ?_ ?_); (first | (simp only []; omega) | (simp; omega) | (focus (simp; done)))) | ((with_reducible refine kc_set2 ?_ ?_); (focus (simp; done))) | (with_reducible refine kc_same (v := .slice none 0 0) ?_))) (by rw [HLJ.out]; omega) (by have := hx2.size; simp; omega) ?_; intro v' w3 hi3 hgr hv3; have hx3 : Ext w2 w3 := Ext.grown (hx2.trans (by (repeat first | (with_reducible exact Ext.refl _) | (with_reducible assumption) | (with_reducible apply Ext.drew) | (with_reducible apply kx_drewN) | (with_reducible apply kx_alloc) | ((with_reducible refine kx_set ?_ ?_); (first | (simp only []; omega) | (simp; omega) | (focus (simp; done)))) ))) hgr (hi.ext (by (repeat first | (with_reducible exact Ext.refl _) | (with_reducible assumption) | (with_reducible apply Ext.drew) | (with_reducible apply kx_drewN) | (with_reducible apply kx_alloc) | ((with_reducible refine kx_set ?_ ?_); (first | (simp only []; omega) | (simp; omega) | (focus (simp; done)))) ))) (Nat.le_refl _)))
          all_goals
            go_wp2
            go_roundw
            case rel => exact ⟨j + 1, by omega, by go_num, by
              rw [take_ix _ _ (by rw [HRL.out]; exact hjl), row_mkT _ _ _ hkl, ix_partRow _ _ _ _ _ hjl, if_pos hjl]
              rw [row_mkT _ _ _ hkl] at hi3
              exact hi3, hv3, hx3⟩
            case measure => simp [intOf]; omega
end Go.Proofs.Ytbfhecckapgpnaa

/-
  Contracts: equality (reference), the socle, trivial and classical braces, the annihilator.
-/
namespace Go.Proofs.Ytbfhecckapgpnaa
set_option linter.unusedVariables false
set_option linter.unusedSimpArgs false
open Go.RowKit
attribute [local go_sem ↓] Go.wp_at_zero Go.wp_at_succ

theorem l01Same_any (l m : List Int) (v u : Value) (w : World) (hv : IntsR w v l) (hu : IntsR w u m) (hs : l.length ≤ 1048576) :
    Calls Try.prog 128 #[v, u] w fun e w' => e = .returned (.bool (eqIB l m)) ∧ Drawn w w' := by
  obtain ⟨a1, c1, rfl, h1⟩ := hv
  obtain ⟨a2, c2, rfl, h2⟩ := hu
  have H1 := Lib.hid h1
  have H2 := Lib.hid h2
  clear h1 h2
  by_cases hl : l.length = m.length
  case neg =>
    have hb : ((l.length : Int) != (m.length : Int)) = true := by simp; omega
    go_enter Try.func128, Try.ntmps128
    go_wp2
    go_ret
    exact ⟨ret_bool (eqIB_no (fun e => hl (by rw [e]))).symm, Drawn.refl _⟩
  case pos =>
    rw [← hl]
    have Hl := Lib.hid hl
    clear hl
    go_enter Try.func128, Try.ntmps128
    go_wp2
    go_loopw [5] (fun i wr => ∃ k : Nat, k ≤ l.length ∧ i = .int .i64 k ∧ SameTo l m k ∧ Drawn w wr) (fun i _ => l.length - (intOf i).toNat)
    case atStart => exact ⟨0, Nat.zero_le _, rfl, fun i hi => by omega, Drawn.refl _⟩
    case round =>
      obtain ⟨k, hk, rfl, hto, hx⟩ := hrel
      by_cases hlt : k < l.length
      · obtain ⟨b1, o1, rfl, hc1⟩ := H1.out (ne_nil_of_lt hlt)
        obtain ⟨b2, o2, rfl, hc2⟩ := H2.out (ne_nil_of_lt (k := k) (by have := Hl.out; omega))
        have e1 := hc1.ext hx.ext k hlt
        have e2 := hc2.ext hx.ext k (by have := Hl.out; omega)
        cases he : (ix l k != ix m k) with
        | true =>
          go_wp2
          go_quiet (fail)
          go_wp2
          go_ret
          exact ⟨ret_bool (eqIB_no (fun e => by rw [e] at he; simp at he)).symm, hx.drewN _⟩
        | false =>
          go_wp2
          go_quiet (fail)
          go_wp2
          go_roundw
          case rel => exact ⟨k + 1, by omega, by go_num, fun i hi => by
            by_cases e : i = k
            · rw [e]; simpa using he
            · exact hto i (by omega), hx.drewN _⟩
          case measure => simp [intOf]; omega
      · go_wp2
        go_ret
        exact ⟨ret_bool (eqIB_yes (ix_ext Hl.out (fun i hi => hto i (by omega)))).symm, hx⟩

theorem slicesEqual_dr (l m : List Int) (v u : Value) (w : World) (hv : Ints w v l) (hu : Ints w u m) :
    Calls Try.prog 70 #[v, u] w fun e w' => e = .returned (.bool (eqIB l m)) ∧ Drawn w w' := by
  obtain ⟨hl1, b1, o1, c1, rfl, hc1⟩ := hv
  obtain ⟨hl2, b2, o2, c2, rfl, hc2⟩ := hu
  by_cases hl : l.length = m.length
  case neg =>
    have hb : ((l.length : Int) != (m.length : Int)) = true := by simp; omega
    go_enter Try.func70, Try.ntmps70
    go_wp2
    go_ret
    exact ⟨ret_bool (eqIB_no (fun e => hl (by rw [e]))).symm, Drawn.refl _⟩
  case pos =>
    rw [← hl]
    have Hl := Lib.hid hl
    clear hl
    go_enter Try.func70, Try.ntmps70
    go_wp2
    go_loopw [13] (fun i wr => ∃ k : Nat, k ≤ l.length ∧ i = .int .i64 k ∧ SameTo l m k ∧ Drawn w wr) (fun i _ => l.length - (intOf i).toNat)
    case atStart => exact ⟨0, Nat.zero_le _, rfl, fun i hi => by omega, Drawn.refl _⟩
    case round =>
      obtain ⟨k, hk, rfl, hto, hx⟩ := hrel
      by_cases hlt : k < l.length
      · have e1 := hc1.ext hx.ext k hlt
        have e2 := hc2.ext hx.ext k (by have := Hl.out; omega)
        cases he : (ix l k != ix m k) with
        | true =>
          go_wp2
          go_quiet (fail)
          go_wp2
          go_ret
          exact ⟨ret_bool (eqIB_no (fun e => by rw [e] at he; simp at he)).symm, hx.drewN _⟩
        | false =>
          go_wp2
          go_quiet (fail)
          go_wp2
          go_roundw
          case rel => exact ⟨k + 1, by omega, by go_num, all_succ hto (by simpa using he), hx.drewN _⟩
          case measure => simp [intOf]; omega
      · go_wp2
        go_ret
        exact ⟨ret_bool (eqIB_yes (ix_ext Hl.out (fun i hi => hto i (by omega)))).symm, hx⟩

end Go.Proofs.Ytbfhecckapgpnaa

/-
  Contracts: then, systems of permutations, searches: reference and program.
-/
namespace Go.Proofs.Ytbfhecckapgpnaa
set_option linter.unusedVariables false
set_option linter.unusedSimpArgs false
open Go.RowKit
attribute [local go_sem ↓] Go.wp_at_zero Go.wp_at_succ
open Go.Deep

theorem take_ixL (l : List Int) (k : Nat) (h : k < l.length) : l.take (k + 1) = l.take k ++ [ix l k] := by
  rw [List.take_succ_eq_append_getElem h, ix_eq]; simp [List.getD, h]

set_option maxRecDepth 100000 in
set_option maxHeartbeats 1000000 in
theorem then_any (n : Nat) (p q : List Int) (v u : Value) (w : World) (hv : Ints w v p) (hu : Ints w u q) (hp : IsoOk n [] [] p) (hq : q.length = n) (h12 : n ≤ 12) :
    Calls Try.prog 64 #[v, u] w (NewI (thenL p q) w) := by
  obtain ⟨-, b, o, c, rfl, hc⟩ := id hv
  obtain ⟨-, b2, o2, c2, rfl, hc2⟩ := id hu
  have HP := Lib.hid hp
  have HPL := Lib.hid hp.1
  have HQL := Lib.hid hq
  rw [hp.1, hq]
  clear hp hq hv hu
  have hmk := run_make_row' (P := Try.prog) 45 2 (.int .i64 0) 8 Try.underlying45 infoInt rfl .i64 .i64 n (by omega) (by omega)
  have HLT := Lib.hid (show (thenL p q).length = n by rw [length_thenL, HPL.out])
  go_enter Try.func64, Try.ntmps64
  go_wp2_with fail
  clear hmk
  have hx0 : Ext w (w.alloc (.cells (madeCells #[Value.int .i64 0] n) 2)) := (Ext.refl _).alloc _
  have hr0 := World.rowIs_made w (.int .i64 0) n 2
  go_loopw [13] (fun i wr => ∃ k : Nat, k ≤ n ∧ i = .int .i64 k ∧ wr.rowIs w.heap.size 2 n (fun i => .int .i64 (copyTo (thenL p q) k i)) ∧ Ext w wr) (fun i _ => n - (intOf i).toNat)
  case atStart => exact ⟨0, Nat.zero_le _, rfl, hr0.congr (fun i hi => by rw [copyTo_zero]), hx0⟩
  case round =>
    clear hx0 hr0
    obtain ⟨k, hk, rfl, hrow, hx⟩ := hrel
    by_cases hlt : k < n
    · have hb := HP.out.bd hlt
      obtain ⟨z, hz⟩ : ∃ z : Nat, ix p k = (z : Int) := ⟨_, (Int.toNat_of_nonneg hb.1).symm⟩
      have hzn : z < n := by omega
      have e1 := (hc.ext hx) k (by rw [HPL.out]; exact hlt)
      rw [hz] at e1
      have e4 := (hc2.ext hx) z (by rw [HQL.out]; exact hzn)
      have e2 := hrow.cell hlt
      have e3 := hrow.frozen k
      have HE := Lib.hid (show ix (thenL p q) k = ix q z by rw [ix_thenL _ _ (by rw [HPL.out]; exact hlt), hz, Int.toNat_natCast])
      clear hb hz
      go_wp2_with fail
      go_roundw
      case rel => exact ⟨k + 1, by omega, by go_num, (hrow.set k _).congr (fun i hi => by rw [copyTo_succ, HE.out]; split <;> rfl), hx.setNew (Nat.le_refl _) _⟩
      case measure => simp [intOf]; omega
    · have hkk : k = n := by omega
      subst hkk
      go_wp2_with fail
      go_ret
      exact ⟨w.heap.size, k, by rw [HLT.out]; rfl, ownI_of_row hrow (by rw [HLT.out]; exact Nat.le_refl _) (fun i hi => by rw [HLT.out] at hi; rw [copyTo_all _ _ _ hi]) (Nat.le_refl _) hrow.lt, hx⟩

set_option maxRecDepth 100000 in
set_option maxHeartbeats 1000000 in
theorem l01Then_any (n : Nat) (p q : List Int) (v u : Value) (w : World) (hv : Ints w v p) (hu : Ints w u q) (hp : IsoOk n [] [] p) (hq : q.length = n) (h12 : n ≤ 12) :
    Calls Try.prog 127 #[v, u] w (NewI (thenL p q) w) := by
  obtain ⟨-, b, o, c, rfl, hc⟩ := id hv
  obtain ⟨-, b2, o2, c2, rfl, hc2⟩ := id hu
  have HP := Lib.hid hp
  have HPL := Lib.hid hp.1
  have HQL := Lib.hid hq
  rw [hp.1, hq]
  clear hp hq hv hu
  have HLT := Lib.hid (show (thenL p q).length = n by rw [length_thenL, HPL.out])
  go_enter Try.func127, Try.ntmps127
  go_wp2_with fail
  have hx0 : Ext w (w.alloc (.cells #[] 2)) := (Ext.refl _).alloc _
  have hi0 := GrowI.lit (e := 2) (base := w.heap.size) (w := w) (Nat.le_refl _)
  go_loopw [5, 6] (fun v x wr => ∃ k : Nat, k ≤ n ∧ x = .int .i64 k ∧ GrowI 2 w.heap.size wr v ((thenL p q).take k) ∧ v ≠ .slice none 0 0 ∧ Ext w wr) (fun _ x _ => n - (intOf x).toNat)
  case atStart => exact ⟨0, Nat.zero_le _, rfl, hi0, by simp, hx0⟩
  case round =>
    clear hx0 hi0
    obtain ⟨k, hk, rfl, hg, hv, hx⟩ := hrel
    have HG := Lib.hid hg
    have HV := Lib.hid hv
    have HX := Lib.hid hx
    by_cases hlt : k < n
    · have hb := HP.out.bd hlt
      obtain ⟨z, hz⟩ : ∃ z : Nat, ix p k = (z : Int) := ⟨_, (Int.toNat_of_nonneg hb.1).symm⟩
      have hzn : z < n := by omega
      have e1 := (hc.ext hx) k (by rw [HPL.out]; exact hlt)
      rw [hz] at e1
      have e4 := (hc2.ext hx) z (by rw [HQL.out]; exact hzn)
      have HE := Lib.hid (show (thenL p q).take (k + 1) = (thenL p q).take k ++ [ix q z] by rw [take_ixL _ _ (by rw [HLT.out]; exact hlt), ix_thenL _ _ (by rw [HPL.out]; exact hlt), hz, Int.toNat_natCast])
      have HL := Lib.hid (show ((thenL p q).take k).length ≤ 1048576 by rw [List.length_take, HLT.out]; omega)
      have zx := hx.size
      clear hb hz hg hv hx
      go_wp2_with (at_builtin; refine wpList_append_int rfl _ _ 45 2 rfl Try.underlying45 infoInt w.heap.size _ _ rfl (HG.out.alloc _) _ _ rfl (cell_new _ _ _) HL.out (by simp; omega) ?_)
      intro v' w3 hi3 hgr hv3
      have HX3 := Lib.hid (Ext.grown (HX.out.trans (ext_box _ _ _)) hgr (HG.out.alloc _) (Nat.le_refl _))
      clear hgr
      go_wp2_with fail
      go_roundw
      case rel => exact ⟨k + 1, by omega, by go_num, by rw [HE.out]; exact hi3, hv3, HX3.out⟩
      case measure => simp [intOf]; omega
    · have hta : (thenL p q).take k = thenL p q := List.take_of_length_le (by rw [HLT.out]; omega)
      rw [hta] at hg
      obtain ⟨b3, c3, rfl, ho⟩ := hg.own hv
      clear hg hv hx HG
      go_wp2_with fail
      go_ret
      exact ⟨b3, c3, rfl, ho, HX.out⟩

set_option maxRecDepth 100000 in
set_option maxHeartbeats 1000000 in
theorem l01System_any (n : Int) (gens : List (List Int)) (v : Value) (w : World) (hv : Rows w v gens) :
    Calls Try.prog 122 #[.int .i64 n, v] w fun e w' => e = .returned (.bool (sysB n gens)) ∧ Ext w w' := by
  obtain ⟨hlen, b, o, c, rfl, hc⟩ := id hv
  cases hin : inR n 1 12 with
  | false =>
    have HN := Lib.hid (sysB_no1 (gens := gens) hin)
    go_enter Try.func122, Try.ntmps122
    go_wp2_with fail
    refine (l01In_any n 1 12 w).mono ?_
    rintro e w1 ⟨rfl, rfl⟩
    rw [hin]
    go_wp2_with fail
    go_ret
    exact ⟨by rw [HN.out]; rfl, Ext.refl _⟩
  | true =>
    have hb := inR_iff.1 hin
    by_cases hl : gens.length ≤ 16
    case neg =>
      have HN := Lib.hid (sysB_no2 (n := n) hl)
      have hl' : (16 : Int) < (gens.length : Int) := by omega
      go_enter Try.func122, Try.ntmps122
      go_wp2_with fail
      refine (l01In_any n 1 12 w).mono ?_
      rintro e w1 ⟨rfl, rfl⟩
      rw [hin]
      go_wp2_with fail
      go_ret
      exact ⟨by rw [HN.out]; rfl, Ext.refl _⟩
    case pos =>
      have hl' : ¬ (16 : Int) < (gens.length : Int) := by omega
      have HIN := Lib.hid hin
      go_enter Try.func122, Try.ntmps122
      go_wp2_with fail
      refine (l01In_any n 1 12 w).mono ?_
      rintro e w1 ⟨rfl, rfl⟩
      rw [hin]
      clear hin
      go_wp2_with fail
      go_loopw [5] (fun i wr => ∃ k : Nat, k ≤ gens.length ∧ i = .int .i64 k ∧ (∀ j, j < k → sysBad n (row gens j) = false) ∧ Ext w wr) (fun i _ => gens.length - (intOf i).toNat)
      case atStart => exact ⟨0, Nat.zero_le _, rfl, fun j hj => by omega, Ext.refl _⟩
      case round =>
        obtain ⟨k, hk, rfl, hno, hx⟩ := hrel
        have HNO := Lib.hid hno
        have HX := Lib.hid hx
        clear hno
        by_cases hkl : k < gens.length
        case neg =>
          have HY := Lib.hid (sysB_yes HIN.out hl (fun j hj => HNO.out j (by omega)))
          go_wp2_with fail
          go_ret
          exact ⟨by rw [HY.out]; rfl, HX.out⟩
        case pos =>
          obtain ⟨b1, o1, c1, r1, i1, l1⟩ := (hc.ext hx).get hkl
          have I1 := Lib.hid (i1.ints l1 c1)
          clear i1 hx
          cases hne : (((row gens k).length : Int) != n) with
          | true =>
            have hbad : sysBad n (row gens k) = true := by unfold sysBad; simp at hne; simp [hne]
            have HN := Lib.hid (sysB_no3 hkl hbad)
            clear hbad
            go_wp2_with fail
            go_ret
            exact ⟨by rw [HN.out]; rfl, HX.out⟩
          | false =>
            have hle : ((row gens k).length : Int) = n := by simpa using hne
            cases hpb : permB (row gens k) with
            | false =>
              have hbad : sysBad n (row gens k) = true := by unfold sysBad; simp [hpb]
              have HN := Lib.hid (sysB_no3 hkl hbad)
              clear hbad hle
              go_wp2_with fail
              refine (l01Perm_any (row gens k) _ _ I1.out (by simp at hne; omega) (by simp at hne; omega)).mono ?_
              rintro e w2 ⟨rfl, rfl⟩
              rw [hpb]
              go_wp2_with fail
              go_ret
              exact ⟨by rw [HN.out]; rfl, HX.out⟩
            | true =>
              have HG := Lib.hid (sysBad_no.2 ⟨hle, hpb⟩)
              clear hle
              go_wp2_with fail
              refine (l01Perm_any (row gens k) _ _ I1.out (by simp at hne; omega) (by simp at hne; omega)).mono ?_
              rintro e w2 ⟨rfl, rfl⟩
              rw [hpb]
              go_wp2_with fail
              go_roundw
              case rel => exact ⟨k + 1, by omega, by go_num, fun j hj => by
                by_cases e : j = k
                · subst e; exact HG.out
                · exact HNO.out j (by omega), HX.out⟩
              case measure => simp [intOf]; omega
end Go.Proofs.Ytbfhecckapgpnaa

/-
  Contracts: systems of permutations of the program; searches.
-/
namespace Go.Proofs.Ytbfhecckapgpnaa
set_option linter.unusedVariables false
set_option linter.unusedSimpArgs false
open Go.RowKit
attribute [local go_sem ↓] Go.wp_at_zero Go.wp_at_succ
open Go.Deep

set_option maxRecDepth 100000 in
theorem l04Find_any (S : List (List Int)) (p : List Int) (v u : Value) (w : World) (hv : Rows w v S) (hu : Ints w u p) :
    Calls Try.prog 130 #[v, u] w fun e w' => e = .returned (.int .i64 (findL S p)) ∧ Drawn w w' := by
  obtain ⟨hlen, b, o, c, rfl, hc⟩ := id hv
  obtain ⟨hlen2, b2, o2, c2, rfl, -⟩ := id hu
  have HU := Lib.hid hu
  have HF0 := Lib.hid (show findL S p = findFrom (fun r => eqIB r p) (S.drop 0) 0 by unfold findL findIx; rfl)
  clear hu hv
  go_enter Try.func130, Try.ntmps130
  go_wp2_with fail
  go_loopw [5] (fun i wr => ∃ k : Nat, k ≤ S.length ∧ i = .int .i64 k ∧ findL S p = findFrom (fun r => eqIB r p) (S.drop k) k ∧ Drawn w wr) (fun i _ => S.length - (intOf i).toNat)
  case atStart => exact ⟨0, Nat.zero_le _, rfl, HF0.out, Drawn.refl _⟩
  case round =>
    obtain ⟨k, hk, rfl, hr, hd⟩ := hrel
    have HR := Lib.hid hr
    have HD := Lib.hid hd
    clear hr hd
    by_cases hlt : k < S.length
    · obtain ⟨b1, o1, c1, r1, i1, l1⟩ := (hc.ext HD.out.ext).get hlt
      have I1 := Lib.hid (i1.ints l1 c1)
      clear i1
      cases hp : eqIB (row S k) p with
      | true =>
        have HH := Lib.hid (findFrom_hit (fun r => eqIB r p) S k hlt hp)
        go_wp2_with fail
        refine (l01Same_any (row S k) p _ _ _ I1.out.toR (HU.out.ext HD.out.ext).toR l1).mono ?_
        rintro e w1 ⟨rfl, hd1⟩
        rw [hp]
        have HD1 := Lib.hid (HD.out.trans hd1)
        clear hd1
        go_wp2_with fail
        go_ret
        exact ⟨ret_int (by rw [HR.out, HH.out]), HD1.out⟩
      | false =>
        have HH := Lib.hid (findFrom_miss (fun r => eqIB r p) S k hlt hp)
        go_wp2_with fail
        refine (l01Same_any (row S k) p _ _ _ I1.out.toR (HU.out.ext HD.out.ext).toR l1).mono ?_
        rintro e w1 ⟨rfl, hd1⟩
        rw [hp]
        have HD1 := Lib.hid (HD.out.trans hd1)
        clear hd1
        go_wp2_with fail
        go_roundw
        case rel => exact ⟨k + 1, by omega, by go_num, by rw [HR.out, HH.out], HD1.out⟩
        case measure => simp [intOf]; omega
    · have HH := Lib.hid (findFrom_end (fun r => eqIB r p) S k (by omega))
      go_wp2_with fail
      go_ret
      exact ⟨ret_int (by rw [HR.out, HH.out]), HD.out⟩

set_option maxRecDepth 100000 in
theorem l03Search_any (S : List (List Int)) (p : List Int) (v u : Value) (w : World) (hv : Rows w v S) (hu : Ints w u p) (hs : S.Pairwise (· < ·)) :
    Calls Try.prog 124 #[v, u] w fun e w' => (∃ k : Nat, e = .returned (.int .i64 k) ∧ k ≤ S.length ∧ (∀ i, i < k → row S i < p) ∧ ∀ i, k ≤ i → i < S.length → ¬ row S i < p) ∧ Drawn w w' := by
  obtain ⟨hlen, b, o, c, rfl, hc⟩ := id hv
  obtain ⟨hlen2, b2, o2, c2, rfl, -⟩ := id hu
  have HU := Lib.hid hu
  have HS := Lib.hid hs
  clear hu hv hs
  go_enter Try.func124, Try.ntmps124
  go_wp2_with fail
  go_loopw [5, 6] (fun x y wr => ∃ l h : Nat, l ≤ h ∧ h ≤ S.length ∧ x = .int .i64 l ∧ y = .int .i64 h ∧ (∀ i, i < l → row S i < p) ∧ (∀ i, h ≤ i → i < S.length → ¬ row S i < p) ∧ Drawn w wr) (fun x y _ => (intOf y).toNat - (intOf x).toNat)
  case atStart => exact ⟨0, S.length, Nat.zero_le _, Nat.le_refl _, rfl, rfl, fun i hi => by omega, fun i h1 h2 => by omega, Drawn.refl _⟩
  case round =>
    obtain ⟨l, h, hlh, hhs, rfl, rfl, h1, h2, hd⟩ := hrel
    have H1 := Lib.hid h1
    have H2 := Lib.hid h2
    have HD := Lib.hid hd
    clear h1 h2 hd
    by_cases hlt : l < h
    case neg =>
      have hll : l = h := by omega
      subst hll
      go_wp2_with fail
      go_ret
      exact ⟨⟨l, rfl, hhs, H1.out, H2.out⟩, HD.out⟩
    case pos =>
      have hm1 : l ≤ (l + h) / 2 := by omega
      have hm2 : (l + h) / 2 < h := by omega
      obtain ⟨m, hm⟩ : ∃ m, m = (l + h) / 2 := ⟨_, rfl⟩
      have hmi : ((l : Int) + (h : Int)).tdiv 2 = (m : Int) := by
        rw [hm, Int.tdiv_eq_ediv_of_nonneg (by omega)]; omega
      rw [← hm] at hm1 hm2
      clear hm
      obtain ⟨b1, o1, c1, r1, i1, l1⟩ := (hc.ext HD.out.ext).get (i := m) (by omega)
      have I1 := Lib.hid (i1.ints l1 c1)
      clear i1
      cases hp : lessB (row S m) p with
      | true =>
        have HH := Lib.hid (lessB_iff.1 hp)
        go_wp2_with fail
        refine (l01Less_any (row S m) p _ _ _ I1.out (HU.out.ext HD.out.ext)).mono ?_
        rintro e w1 ⟨rfl, hd1⟩
        rw [hp]
        have HD1 := Lib.hid (HD.out.trans hd1)
        clear hd1
        go_wp2_with fail
        go_roundw
        case rel => exact ⟨m + 1, h, by omega, hhs, by go_num, rfl, fun i hi => by
          by_cases e : i = m
          · subst e; exact HH.out
          · exact less_trans (sorted_row HS.out (by omega) (by omega)) HH.out, H2.out, HD1.out⟩
        case measure => simp [intOf]; omega
      | false =>
        have HH := Lib.hid (lessB_no.1 hp)
        go_wp2_with fail
        refine (l01Less_any (row S m) p _ _ _ I1.out (HU.out.ext HD.out.ext)).mono ?_
        rintro e w1 ⟨rfl, hd1⟩
        rw [hp]
        have HD1 := Lib.hid (HD.out.trans hd1)
        clear hd1
        go_wp2_with fail
        go_roundw
        case rel => exact ⟨l, m, by omega, by omega, rfl, rfl, H1.out, fun i hi hi2 => by
          by_cases e : i = m
          · subst e; exact HH.out
          · exact fun hlt => HH.out (less_trans (sorted_row HS.out (show m < i by omega) hi2) hlt), HD1.out⟩
        case measure => simp [intOf]; omega

end Go.Proofs.Ytbfhecckapgpnaa

/-
  Contract of the reference's l10Permutations.
-/
namespace Go.Proofs.Ytbfhecckapgpnaa
set_option linter.unusedVariables false
set_option linter.unusedSimpArgs false
open Go.RowKit
open Go.Deep
attribute [local go_sem ↓] Go.wp_at_zero Go.wp_at_succ

set_option maxRecDepth 100000 in
set_option maxHeartbeats 1000000 in
theorem l10Permutations_any (n : Nat) (S : List (List Int)) (v : Value) (w : World) (hv : Rows w v S) (hS : ∀ i, i < S.length → IsoOk n [] [] (row S i)) (h12 : n ≤ 12) (hl12 : S.length ≤ 12) :
    Calls Try.prog 125 #[v] w fun e w' => ∃ v, e = .returned v ∧ Rows w' v (mkT S.length (gopE S)) ∧ Ext w w' := by
  obtain ⟨hlen, b, o, c, rfl, hc⟩ := id hv
  have HS := Lib.hid hS
  clear hS
  have HLT := Lib.hid (length_mkT S.length (gopE S))
  go_enter Try.func125, Try.ntmps125
  go_wp2
  have hX := Ext.refl w
  have hx0 : Ext w (w.alloc (.cells #[] 45)) := (Ext.refl _).alloc _
  have hg0 := GrowT.lit (e := 45) (base := w.heap.size) (w := w) (Nat.le_refl _)
  go_loopw [3, 4] (fun v x wr => ∃ k : Nat, k ≤ S.length ∧ x = .int .i64 k ∧ GrowT 45 w.heap.size wr v ((mkT S.length (gopE S)).take k) ∧ v ≠ .slice none 0 0 ∧ Ext w wr) (fun _ x _ => S.length - (intOf x).toNat)
  case atStart => exact ⟨0, Nat.zero_le _, rfl, hg0, by simp, hx0⟩
  case round =>
    clear hx0 hg0
    obtain ⟨k, hk, rfl, hg, hv', hx⟩ := hrel
    have HV := Lib.hid hv'
    clear hv'
    by_cases hkl : k < S.length
    case neg =>
      go_wp2
      go_ret
      refine ⟨u3, rfl, ?_, hX.trans hx⟩
      have : (mkT S.length (gopE S)).take k = (mkT S.length (gopE S)) := List.take_of_length_le (by rw [HLT.out]; omega)
      rw [this] at hg
      exact hg.rows (by rw [HLT.out]; omega) HV.out
    case pos =>
      obtain ⟨w2, rfl⟩ : ∃ w2 : World, w2 = wr := ⟨_, rfl⟩
      have hxa : Ext w2 (w2.alloc (.cells #[] 2)) := (Ext.refl _).alloc _
      have hi0 := GrowI.lit (e := 2) (base := w2.heap.size) (w := w2) (Nat.le_refl _)
      go_wp2
      have HRL := Lib.hid (show (row (mkT S.length (gopE S)) k).length = S.length by rw [row_mkT _ _ _ hkl, length_partRow])
      have HO := Lib.hid hg.lt
      go_loopw [5, 6] (fun v y wr => ∃ j : Nat, j ≤ S.length ∧ y = .int .i64 j ∧ GrowI 2 w2.heap.size wr v ((row (mkT S.length (gopE S)) k).take j) ∧ v ≠ .slice none 0 0 ∧ Ext w2 wr) (fun _ y _ => S.length - (intOf y).toNat)
      case atStart => exact ⟨0, Nat.zero_le _, rfl, hi0, by simp, hxa⟩
      case round =>
        clear hxa hi0
        obtain ⟨j, hj, rfl, hi, hvr, hx2⟩ := hrel
        have HVR := Lib.hid hvr
        clear hvr
        by_cases hjl : j < S.length
        case neg =>
          have hta : (row (mkT S.length (gopE S)) k).take j = row (mkT S.length (gopE S)) k := List.take_of_length_le (by rw [HRL.out]; omega)
          rw [hta] at hi
          obtain ⟨br, cr, rfl, hri, hrb, hrb2⟩ := hi.row HVR.out
          have hgw := hg.ext hx2
          have hne : some br ≠ u3.ownBlock := fun e => by have := HO.out br e.symm; omega
          have HTL := Lib.hid (show ((mkT S.length (gopE S)).take k).length = k by rw [List.length_take, HLT.out]; omega)
          clear hg
          go_wp2_with (at_builtin; refine wpList_append_row rfl _ _ 25 45 rfl Try.underlying25 infoSl w.heap.size _ _ rfl (hgw.ext (ext_box _ _ _)) _ br cr _ rfl (cell_new _ _ _) (hri.ext (ext_box _ _ _)) (by rw [HRL.out]; omega) hne (by rw [HTL.out]; omega) (by have := hx.size; have := hx2.size; simp; omega) ?_)
          intro v' w3 hg3 hgr hv3
          have hx3 : Ext w w3 := (hx.trans (hx2.trans (ext_box _ _ _))).grown hgr (hgw.ext (ext_box _ _ _)).own.choose_spec (Nat.le_refl _)
          clear hgr hne hgw
          go_wp2
          go_roundw
          case rel => exact ⟨k + 1, by omega, by go_num, by rw [take_row _ _ (by rw [HLT.out]; exact hkl)]; exact hg3, hv3, hx3⟩
          case measure => simp [intOf]; omega
        case pos =>
          obtain ⟨d1, s1, m1, r1, i1, -⟩ := (hc.ext hx).get hkl
          obtain ⟨d2, s2, m2, r2, i2, -⟩ := (hc.ext hx).get hjl
          have g1 := HS.out k hkl
          have g2 := HS.out j hjl
          rw [g1.1] at r1
          rw [g2.1] at r2
          have J1 := Lib.hid (show Ints w2 (.slice (some ⟨d1, s1, none⟩) n m1) (row S k) from ⟨by rw [g1.1]; omega, d1, s1, m1, by rw [g1.1], i1⟩)
          have J2 := Lib.hid (show Ints w2 (.slice (some ⟨d2, s2, none⟩) n m2) (row S j) from ⟨by rw [g2.1]; omega, d2, s2, m2, by rw [g2.1], i2⟩)
          have HTH := Lib.hid (show ∀ W, Ext w2 W → Calls Try.prog 127 #[.slice (some ⟨d1, s1, none⟩) n m1, .slice (some ⟨d2, s2, none⟩) n m2] W (NewI (thenL (row S k) (row S j)) W) from fun W h => l01Then_any n _ _ _ _ W (J1.out.ext h) (J2.out.ext h) g1 g2.1 h12)
          have HTL := Lib.hid (show (thenL (row S k) (row S j)).length ≤ 1048576 by rw [length_thenL, g1.1]; omega)
          have p1 := hx2.cell r1
          have p2 := hx2.cell r2
          clear i1 i2 g1 g2
          have HLJ := Lib.hid (show ((row (mkT S.length (gopE S)) k).take j).length = j by rw [List.length_take, HRL.out]; omega)
          go_wp2_with fail
          go_region_held3 (fun w' => w'.cell? ⟨b, o + k, none⟩ = some (.slice (some ⟨d1, s1, none⟩) n m1) ∧ w'.cell? ⟨b, o + j, none⟩ = some (.slice (some ⟨d2, s2, none⟩) n m2))
            ((refine ⟨?_, ?_⟩ <;> (repeat first | (with_reducible assumption) | (with_reducible refine Ext.cell hx3 ?_) | (with_reducible refine Ext.cell hx4 ?_) |  (with_reducible exact kc_new) | ((with_reducible refine kc_newE ?_); (simp; done)) | ((with_reducible refine kc_newEa ?_); (simp; done)) | ((with_reducible refine kc_newEb ?_); (simp; done)) | (with_reducible apply kc_alloc) | (with_reducible apply kc_drewN) | (with_reducible apply kc_drew) | ((with_reducible refine kc_set ?_ ?_); (first | (simp only []; omega) | (simp; omega) | (focus (simp; done)))) | ((with_reducible refine kc_set2 ?_ ?_); (focus (simp; done))) | (with_reducible refine kc_same (v := .slice none 0 0) ?_))))
            (first
              | (go_at_call 127; refine (HTH.out _ (hx2.trans (by (repeat first | (with_reducible exact Ext.refl _) | (with_reducible assumption) | (with_reducible apply Ext.drew) | (with_reducible apply kx_drewN) | (with_reducible apply kx_alloc) | ((with_reducible refine kx_set ?_ ?_); (first | (simp only []; omega) | (simp; omega) | (focus (simp; done)))) )))).mono ?_; rintro e w4 ⟨b4, c4, rfl, ho4, hx4⟩; have e4 := ho4.2.2.1.ints HTL.out c4; have z4 : w2.heap.size ≤ w4.heap.size := Ext.size (show Ext w2 w4 from hx2.trans (by (repeat first | (with_reducible exact Ext.refl _) | (with_reducible assumption) | (with_reducible apply Ext.drew) | (with_reducible apply kx_drewN) | (with_reducible apply kx_alloc) | ((with_reducible refine kx_set ?_ ?_); (first | (simp only []; omega) | (simp; omega) | (focus (simp; done)))) | (with_reducible refine Ext.trans ?_ hx4) ))))
              | (go_at_call 130; refine (l04Find_any S _ _ _ _ (hv.ext ((hx.trans hx2).trans (by (repeat first | (with_reducible exact Ext.refl _) | (with_reducible assumption) | (with_reducible apply Ext.drew) | (with_reducible apply kx_drewN) | (with_reducible apply kx_alloc) | ((with_reducible refine kx_set ?_ ?_); (first | (simp only []; omega) | (simp; omega) | (focus (simp; done)))) | (with_reducible refine Ext.trans ?_ hx4) )))) e4).mono ?_; rintro e w' ⟨rfl, ⟨m4, rfl⟩⟩)
              | (refine step_append_int (by rfl) _ _ 45 2 (by rfl) Try.underlying45 infoInt w2.heap.size _ _ (by rfl) (hi.ext (by (repeat first | (with_reducible exact Ext.refl _) | (with_reducible assumption) | (with_reducible apply Ext.drew) | (with_reducible apply kx_drewN) | (with_reducible apply kx_alloc) | ((with_reducible refine kx_set ?_ ?_); (first | (simp only []; omega) | (simp; omega) | (focus (simp; done)))) | (with_reducible refine Ext.trans ?_ hx4) ))) _ _ (by rfl) (by (repeat first | (with_reducible assumption) | (with_reducible refine Ext.cell hx4 ?_) |  (with_reducible exact kc_new) | ((with_reducible refine kc_newE ?_); (simp; done)) | ((with_reducible refine kc_newEa ?_); (simp; done)) | ((with_reducible refine kc_newEb ?_); (simp; done)) | (with_reducible apply kc_alloc) | (with_reducible apply kc_drewN) | (with_reducible apply kc_drew) | ((with_reducible refine kc_set ?_ ?_); (first | (simp only []; omega) | (simp; omega) | (focus (simp; done)))) | ((with_reducible refine kc_set2 ?_ ?_); (focus (simp; done))) | (with_reducible refine kc_same (v := .slice none 0 0) ?_))) (by rw [HLJ.out]; omega) (by have := hx2.size; simp; omega) ?_; intro v' w3 hi3 hgr hv3; have hx3 : Ext w2 w3 := Ext.grown (hx2.trans (by (repeat first | (with_reducible exact Ext.refl _) | (with_reducible assumption) | (with_reducible apply Ext.drew) | (with_reducible apply kx_drewN) | (with_reducible apply kx_alloc) | ((with_reducible refine kx_set ?_ ?_); (first | (simp only []; omega) | (simp; omega) | (focus (simp; done)))) | (with_reducible refine Ext.trans ?_ hx4) ))) hgr (hi.ext (by (repeat first | (with_reducible exact Ext.refl _) | (with_reducible assumption) | (with_reducible apply Ext.drew) | (with_reducible apply kx_drewN) | (with_reducible apply kx_alloc) | ((with_reducible refine kx_set ?_ ?_); (first | (simp only []; omega) | (simp; omega) | (focus (simp; done)))) | (with_reducible refine Ext.trans ?_ hx4) ))) (Nat.le_refl _)))
          all_goals
            go_wp2
            go_roundw
            case rel => exact ⟨j + 1, by omega, by go_num, by
              rw [take_ix _ _ (by rw [HRL.out]; exact hjl), row_mkT _ _ _ hkl, ix_partRow _ _ _ _ _ hjl, if_pos hjl]
              rw [row_mkT _ _ _ hkl] at hi3
              exact hi3, hv3, hx3⟩
            case measure => simp [intOf]; omega

end Go.Proofs.Ytbfhecckapgpnaa

/-
  Contract (new memory) of the reference's l10Permutations.
-/
namespace Go.Proofs.Ytbfhecckapgpnaa
set_option linter.unusedVariables false
set_option linter.unusedSimpArgs false
open Go.RowKit
attribute [local go_sem ↓] Go.wp_at_zero Go.wp_at_succ
open Go.Deep

set_option maxRecDepth 100000 in
set_option maxHeartbeats 1000000 in
theorem l10Permutations_own (n : Nat) (S : List (List Int)) (v : Value) (w : World) (hv : Rows w v S) (hS : ∀ i, i < S.length → IsoOk n [] [] (row S i)) (h12 : n ≤ 12) (hl12 : S.length ≤ 12) :
    Calls Try.prog 125 #[v] w (NewT (mkT S.length (gopE S)) w) := by
  obtain ⟨hlen, b, o, c, rfl, hc⟩ := id hv
  have HS := Lib.hid hS
  clear hS
  have HLT := Lib.hid (length_mkT S.length (gopE S))
  go_enter Try.func125, Try.ntmps125
  go_wp2
  have hX := Ext.refl w
  have hx0 : Ext w (w.alloc (.cells #[] 45)) := (Ext.refl _).alloc _
  have hg0 := MineT.lit (lo := w.heap.size) (w := w) (Nat.le_refl _)
  go_loopw [3, 4] (fun v x wr => ∃ k : Nat, k ≤ S.length ∧ x = .int .i64 k ∧ MineT w.heap.size NoO wr v ((mkT S.length (gopE S)).take k) ∧ v ≠ .slice none 0 0 ∧ Ext w wr) (fun _ x _ => S.length - (intOf x).toNat)
  case atStart => exact ⟨0, Nat.zero_le _, rfl, hg0, by simp, hx0⟩
  case round =>
    clear hx0 hg0
    obtain ⟨k, hk, rfl, hg, hv', hx⟩ := hrel
    have HV := Lib.hid hv'
    clear hv'
    by_cases hkl : k < S.length
    case neg =>
      have : (mkT S.length (gopE S)).take k = (mkT S.length (gopE S)) := List.take_of_length_le (by rw [HLT.out]; omega)
      rw [this] at hg
      obtain ⟨bq, cq, rfl, hoq⟩ := hg.newT HV.out
      go_wp2
      go_ret
      exact ⟨bq, cq, rfl, hoq, hX.trans hx⟩
    case pos =>
      obtain ⟨w2, rfl⟩ : ∃ w2 : World, w2 = wr := ⟨_, rfl⟩
      have hxa : Ext w2 (w2.alloc (.cells #[] 2)) := (Ext.refl _).alloc _
      have hi0 := GrowI.lit (e := 2) (base := w2.heap.size) (w := w2) (Nat.le_refl _)
      go_wp2
      have HRL := Lib.hid (show (row (mkT S.length (gopE S)) k).length = S.length by rw [row_mkT _ _ _ hkl, length_partRow])
      have HO := Lib.hid hg.lt
      go_loopw [5, 6] (fun v y wr => ∃ j : Nat, j ≤ S.length ∧ y = .int .i64 j ∧ GrowI 2 w2.heap.size wr v ((row (mkT S.length (gopE S)) k).take j) ∧ v ≠ .slice none 0 0 ∧ Ext w2 wr) (fun _ y _ => S.length - (intOf y).toNat)
      case atStart => exact ⟨0, Nat.zero_le _, rfl, hi0, by simp, hxa⟩
      case round =>
        clear hxa hi0
        obtain ⟨j, hj, rfl, hi, hvr, hx2⟩ := hrel
        have HVR := Lib.hid hvr
        clear hvr
        by_cases hjl : j < S.length
        case neg =>
          have hta : (row (mkT S.length (gopE S)) k).take j = row (mkT S.length (gopE S)) k := List.take_of_length_le (by rw [HRL.out]; omega)
          rw [hta] at hi
          obtain ⟨br, cr, rfl, hoi⟩ := hi.own HVR.out
          have HTL := Lib.hid (show ((mkT S.length (gopE S)).take k).length = k by rw [List.length_take, HLT.out]; omega)
          go_wp2_with (at_builtin; refine wpList_append_row_mine rfl _ _ 25 rfl Try.underlying25 infoSl w.heap.size _ _ rfl hg (hx2.trans (ext_box _ _ _)) _ br cr _ rfl (cell_new _ _ _) (OwnI.alloc1 hoi) (by rw [HTL.out]; omega) (by have := hx.size; omega) ?_)
          intro v' w3 hg3 hgr hv3 hat3
          have hx3 : Ext w w3 := (hx.trans (hx2.trans (ext_box _ _ _))).grownOwn hgr (fun g e => (HO.out g e).1)
          clear hgr hat3
          go_wp2
          go_roundw
          case rel => exact ⟨k + 1, by omega, by go_num, by rw [take_row _ _ (by rw [HLT.out]; exact hkl)]; exact hg3, hv3, hx3⟩
          case measure => simp [intOf]; omega
        case pos =>
          obtain ⟨d1, s1, m1, r1, i1, -⟩ := (hc.ext hx).get hkl
          obtain ⟨d2, s2, m2, r2, i2, -⟩ := (hc.ext hx).get hjl
          have g1 := HS.out k hkl
          have g2 := HS.out j hjl
          rw [g1.1] at r1
          rw [g2.1] at r2
          have J1 := Lib.hid (show Ints w2 (.slice (some ⟨d1, s1, none⟩) n m1) (row S k) from ⟨by rw [g1.1]; omega, d1, s1, m1, by rw [g1.1], i1⟩)
          have J2 := Lib.hid (show Ints w2 (.slice (some ⟨d2, s2, none⟩) n m2) (row S j) from ⟨by rw [g2.1]; omega, d2, s2, m2, by rw [g2.1], i2⟩)
          have HTH := Lib.hid (show ∀ W, Ext w2 W → Calls Try.prog 127 #[.slice (some ⟨d1, s1, none⟩) n m1, .slice (some ⟨d2, s2, none⟩) n m2] W (NewI (thenL (row S k) (row S j)) W) from fun W h => l01Then_any n _ _ _ _ W (J1.out.ext h) (J2.out.ext h) g1 g2.1 h12)
          have HTL := Lib.hid (show (thenL (row S k) (row S j)).length ≤ 1048576 by rw [length_thenL, g1.1]; omega)
          have p1 := hx2.cell r1
          have p2 := hx2.cell r2
          clear i1 i2 g1 g2
          have HLJ := Lib.hid (show ((row (mkT S.length (gopE S)) k).take j).length = j by rw [List.length_take, HRL.out]; omega)
          go_wp2_with fail
          go_region_held3 (fun w' => w'.cell? ⟨b, o + k, none⟩ = some (.slice (some ⟨d1, s1, none⟩) n m1) ∧ w'.cell? ⟨b, o + j, none⟩ = some (.slice (some ⟨d2, s2, none⟩) n m2))
            ((refine ⟨?_, ?_⟩ <;> (repeat first | (with_reducible assumption) | (with_reducible refine Ext.cell hx3 ?_) | (with_reducible refine Ext.cell hx4 ?_) |  (with_reducible exact kc_new) | ((with_reducible refine kc_newE ?_); (simp; done)) | ((with_reducible refine kc_newEa ?_); (simp; done)) | ((with_reducible refine kc_newEb ?_); (simp; done)) | (with_reducible apply kc_alloc) | (with_reducible apply kc_drewN) | (with_reducible apply kc_drew) | ((with_reducible refine kc_set ?_ ?_); (first | (simp only []; omega) | (simp; omega) | (focus (simp; done)))) | ((with_reducible refine kc_set2 ?_ ?_); (focus (simp; done))) | (with_reducible refine kc_same (v := .slice none 0 0) ?_))))
            (first
              | (go_at_call 127; refine (HTH.out _ (hx2.trans (by (repeat first | (with_reducible exact Ext.refl _) | (with_reducible assumption) | (with_reducible apply Ext.drew) | (with_reducible apply kx_drewN) | (with_reducible apply kx_alloc) | ((with_reducible refine kx_set ?_ ?_); (first | (simp only []; omega) | (simp; omega) | (focus (simp; done)))) )))).mono ?_; rintro e w4 ⟨b4, c4, rfl, ho4, hx4⟩; have e4 := ho4.2.2.1.ints HTL.out c4; have z4 : w2.heap.size ≤ w4.heap.size := Ext.size (show Ext w2 w4 from hx2.trans (by (repeat first | (with_reducible exact Ext.refl _) | (with_reducible assumption) | (with_reducible apply Ext.drew) | (with_reducible apply kx_drewN) | (with_reducible apply kx_alloc) | ((with_reducible refine kx_set ?_ ?_); (first | (simp only []; omega) | (simp; omega) | (focus (simp; done)))) | (with_reducible refine Ext.trans ?_ hx4) ))))
              | (go_at_call 130; refine (l04Find_any S _ _ _ _ (hv.ext ((hx.trans hx2).trans (by (repeat first | (with_reducible exact Ext.refl _) | (with_reducible assumption) | (with_reducible apply Ext.drew) | (with_reducible apply kx_drewN) | (with_reducible apply kx_alloc) | ((with_reducible refine kx_set ?_ ?_); (first | (simp only []; omega) | (simp; omega) | (focus (simp; done)))) | (with_reducible refine Ext.trans ?_ hx4) )))) e4).mono ?_; rintro e w' ⟨rfl, ⟨m4, rfl⟩⟩)
              | (refine step_append_int (by rfl) _ _ 45 2 (by rfl) Try.underlying45 infoInt w2.heap.size _ _ (by rfl) (hi.ext (by (repeat first | (with_reducible exact Ext.refl _) | (with_reducible assumption) | (with_reducible apply Ext.drew) | (with_reducible apply kx_drewN) | (with_reducible apply kx_alloc) | ((with_reducible refine kx_set ?_ ?_); (first | (simp only []; omega) | (simp; omega) | (focus (simp; done)))) | (with_reducible refine Ext.trans ?_ hx4) ))) _ _ (by rfl) (by (repeat first | (with_reducible assumption) | (with_reducible refine Ext.cell hx4 ?_) |  (with_reducible exact kc_new) | ((with_reducible refine kc_newE ?_); (simp; done)) | ((with_reducible refine kc_newEa ?_); (simp; done)) | ((with_reducible refine kc_newEb ?_); (simp; done)) | (with_reducible apply kc_alloc) | (with_reducible apply kc_drewN) | (with_reducible apply kc_drew) | ((with_reducible refine kc_set ?_ ?_); (first | (simp only []; omega) | (simp; omega) | (focus (simp; done)))) | ((with_reducible refine kc_set2 ?_ ?_); (focus (simp; done))) | (with_reducible refine kc_same (v := .slice none 0 0) ?_))) (by rw [HLJ.out]; omega) (by have := hx2.size; simp; omega) ?_; intro v' w3 hi3 hgr hv3; have hx3 : Ext w2 w3 := Ext.grown (hx2.trans (by (repeat first | (with_reducible exact Ext.refl _) | (with_reducible assumption) | (with_reducible apply Ext.drew) | (with_reducible apply kx_drewN) | (with_reducible apply kx_alloc) | ((with_reducible refine kx_set ?_ ?_); (first | (simp only []; omega) | (simp; omega) | (focus (simp; done)))) | (with_reducible refine Ext.trans ?_ hx4) ))) hgr (hi.ext (by (repeat first | (with_reducible exact Ext.refl _) | (with_reducible assumption) | (with_reducible apply Ext.drew) | (with_reducible apply kx_drewN) | (with_reducible apply kx_alloc) | ((with_reducible refine kx_set ?_ ?_); (first | (simp only []; omega) | (simp; omega) | (focus (simp; done)))) | (with_reducible refine Ext.trans ?_ hx4) ))) (Nat.le_refl _)))
          all_goals
            go_wp2
            go_roundw
            case rel => exact ⟨j + 1, by omega, by go_num, by
              rw [take_ix _ _ (by rw [HRL.out]; exact hjl), row_mkT _ _ _ hkl, ix_partRow _ _ _ _ _ hjl, if_pos hjl]
              rw [row_mkT _ _ _ hkl] at hi3
              exact hi3, hv3, hx3⟩
            case measure => simp [intOf]; omega
end Go.Proofs.Ytbfhecckapgpnaa

/-
  Contracts of GroupConjugation: reference and program.
-/
namespace Go.Proofs.Ytbfhecckapgpnaa
set_option linter.unusedVariables false
set_option linter.unusedSimpArgs false
open Go.RowKit
attribute [local go_sem ↓] Go.wp_at_zero Go.wp_at_succ

theorem groupConjugation1_any (t : List (List Int)) (v : Value) (b2 c2 : Nat) (x y B C : Nat) (w : World) (hB : w.cell? ⟨B, 0, none⟩ = some v) (hC : w.cell? ⟨C, 0, none⟩ = some (.slice (some ⟨b2, 0, none⟩) t.length c2)) (hv : Rows w v t) (hi : IntsAt w b2 0 (backs t)) (hG : GroupOk t) (hx : x < t.length) (hy : y < t.length) :
    Calls Try.prog 56 #[.int .i64 x, .int .i64 y, .pointer (some ⟨B, 0, none⟩), .pointer (some ⟨C, 0, none⟩)] w fun e w' => e = .returned (.int .i64 (conjF t x y)) ∧ Ext w w' := by
  obtain ⟨hlen, b, o, c, rfl, hc⟩ := id hv
  have hT := hG.1
  have h12 := hT.2.1
  have hb := backF_ok hG hx
  obtain ⟨d1, s1, m1, r1, l1⟩ := hc.read hT rfl hx
  obtain ⟨f1, p1, p2⟩ := l1 y hy
  obtain ⟨d2, s2, m2, r2, l2⟩ := hc.read hT rfl (x := (ent t x y).toNat) (by omega)
  obtain ⟨f2, p3, p4⟩ := l2 (backF t x).toNat (by omega)
  rw [conjF_def] at f2 p3 p4
  have ib := hi x (by rw [length_backs]; exact hx)
  rw [ix_backs _ _ hx, Nat.zero_add] at ib
  clear l1 l2
  go_enter Try.func56, Try.ntmps56
  go_wp2
  go_quiet (fail)
  go_wp2
  go_ret
  exact ⟨rfl, (Ext.refl _).drewN _⟩

theorem callGroupConjugation1 (args : Array Value) (w : World) : (callFunc 56 args).run Try.prog w = .ok (.enter 56 args) w :=
  callFunc_enter Try.func56 (by kernel_rfl) rfl args w

/-- two boxes: a table and its inverses -/
def TwoBox2 (t : List (List Int)) (v : Value) (w : World) (p q : Value) (wx : World) : Prop := ∃ B C b c, p = .pointer (some ⟨B, 0, none⟩) ∧ q = .pointer (some ⟨C, 0, none⟩) ∧
  wx.cell? ⟨B, 0, none⟩ = some v ∧ wx.cell? ⟨C, 0, none⟩ = some (.slice (some ⟨b, 0, none⟩) t.length c) ∧ IntsAt wx b 0 (backs t) ∧ Ext w wx

set_option maxRecDepth 100000 in
set_option maxHeartbeats 1000000 in
theorem GroupConjugation_impl (t : List (List Int)) (v : Value) (w : World) (hv : Rows w v t) :
    Calls Try.prog 18 #[.agg #[v]] w (NewGC (ifG t (mkT t.length (conjF t)) []) (codeG t) w) := by
  obtain ⟨hlen, b, o, c, rfl, hc⟩ := id hv
  have hx0 := ext_box2 w (.slice (some ⟨b, o, none⟩) t.length c) (.slice none 0 0) 32 27
  have b0 : ((w.alloc (.cells #[.slice (some ⟨b, o, none⟩) t.length c] 32)).alloc (.cells #[.slice none 0 0] 27)).cell? ⟨w.heap.size, 0, none⟩ = some (.slice (some ⟨b, o, none⟩) t.length c) := by simp [go_sem]
  have r0 : ((w.alloc (.cells #[.slice (some ⟨b, o, none⟩) t.length c] 32)).alloc (.cells #[.slice none 0 0] 27)).cell? ⟨w.heap.size + 1, 0, none⟩ = some (.slice none 0 0) := by simp [go_sem]
  have q0 : ((w.alloc (.cells #[.slice (some ⟨b, o, none⟩) t.length c] 32)).alloc (.cells #[.slice none 0 0] 27)).frozen? ⟨w.heap.size + 1, 0, none⟩ = false := by simp [go_sem]
  have z0 : w.heap.size + 2 = ((w.alloc (.cells #[.slice (some ⟨b, o, none⟩) t.length c] 32)).alloc (.cells #[.slice none 0 0] 27)).heap.size := by simp
  cases hg : groupB t with
  | false =>
    rw [ifG_no hg, codeG_no hg]
    go_enter Try.func18, Try.ntmps18
    go_wp2_with fail
    generalize (w.alloc (.cells #[.slice (some ⟨b, o, none⟩) t.length c] 32)).alloc (.cells #[.slice none 0 0] 27) = A at *
    refine (IsGroup_impl t _ _ (hv.ext hx0)).mono ?_
    rintro e w1 ⟨rfl, hx1⟩
    rw [hg]
    have f1 := hx1.cell r0
    have f2 := hx1.free q0 (by simp only []; omega)
    go_wp2
    refine bodyPost_ret (v := .tuple #[.agg #[.slice none 0 0], .int .i64 1]) (by simp [results, Try.results18, go_sem, f1]) rfl ⟨_, rfl, OwnV.nil _ _ _, (hx0.trans hx1).setNew (by simp only []; omega) _⟩
  | true =>
    have hG := groupB_iff.1 hg
    have HG := Lib.hid hG
    have h12 := hG.1.2.1
    rw [ifG_yes hg, codeG_yes hg]
    clear hG
    go_enter Try.func18, Try.ntmps18
    go_wp2_with fail
    generalize (w.alloc (.cells #[.slice (some ⟨b, o, none⟩) t.length c] 32)).alloc (.cells #[.slice none 0 0] 27) = A at *
    refine (IsGroup_impl t _ _ (hv.ext hx0)).mono ?_
    rintro e w1 ⟨rfl, hx1⟩
    rw [hg]
    have f1 := hx1.cell r0
    have f2 := hx1.free q0 (by simp only []; omega)
    have b1 := hx1.cell b0
    have zz := hx1.size
    have hX := hx0.trans hx1
    have zd : w1.drew.heap.size = w1.heap.size := rfl
    clear hx0 hx1 b0 r0 q0 hg
    go_wp2
    have n0 : ¬ w.heap.size = w1.heap.size := by omega
    have n1 : ¬ w.heap.size = w1.heap.size + 1 := by omega
    have n2 : w.heap.size < w1.heap.size := by omega
    go_cut [4, 5] (fun p q wx => TwoBox2 t (.slice (some ⟨b, o, none⟩) t.length c) w1 p q wx)
    case first =>
      go_region_held3 (fun w' => w'.cell? ⟨w.heap.size, 0, none⟩ = some (.slice (some ⟨b, o, none⟩) t.length c)) ((repeat first | (with_reducible assumption) |  (with_reducible exact kc_new) | ((with_reducible refine kc_newE ?_); (simp; done)) | ((with_reducible refine kc_newEa ?_); (simp; done)) | ((with_reducible refine kc_newEb ?_); (simp; done)) | (with_reducible apply kc_alloc) | (with_reducible apply kc_drewN) | (with_reducible apply kc_drew) | ((with_reducible refine kc_set ?_ ?_); (first | (simp only []; omega) | (simp; omega) | (focus (simp; done)))) | ((with_reducible refine kc_set2 ?_ ?_); (focus (simp; done))) | (with_reducible refine kc_same (v := .slice none 0 0) ?_))) ((go_at_call 47; refine (groupInverses_any t _ _ (hv.ext (hX.trans (by (repeat first | (with_reducible exact Ext.refl _) | (with_reducible assumption) | (with_reducible apply Ext.drew) | (with_reducible apply kx_drewN) | (with_reducible apply kx_alloc) | ((with_reducible refine kx_set ?_ ?_); (first | (simp only []; omega) | (simp; omega) | (focus (simp; done)))) ))))).mono ?_; rintro e w2 ⟨b2, c2, rfl, hi2, hx2⟩; have hs2 : w2.cell? ⟨w.heap.size, 0, none⟩ = some (.slice (some ⟨b, o, none⟩) t.length c) := hx2.cell (by (repeat first | (with_reducible assumption) |  (with_reducible exact kc_new) | ((with_reducible refine kc_newE ?_); (simp; done)) | ((with_reducible refine kc_newEa ?_); (simp; done)) | ((with_reducible refine kc_newEb ?_); (simp; done)) | (with_reducible apply kc_alloc) | (with_reducible apply kc_drewN) | (with_reducible apply kc_drew) | ((with_reducible refine kc_set ?_ ?_); (first | (simp only []; omega) | (simp; omega) | (focus (simp; done)))) | ((with_reducible refine kc_set2 ?_ ?_); (focus (simp; done))) | (with_reducible refine kc_same (v := .slice none 0 0) ?_))); obtain ⟨hc2, hf2⟩ := bcell hx2; have hz2 := hx2.size; (try simp at hz2); (have hl9 : w.heap.size < w2.heap.size := by omega); (have hn9 : ¬ w.heap.size = w2.heap.size := by omega); (try have hl0 : w1.heap.size < w2.heap.size := by omega); (try have hl1 : w1.heap.size + 1 < w2.heap.size := by omega)))
      all_goals
        have IS := hi2
        go_wp2_with fail
        go_meet
        case rel =>
          refine ⟨_, _, b2, c2, rfl, rfl, ?_, ?_, ?_, ?_⟩
          · (repeat first | (with_reducible assumption) | (with_reducible refine Ext.cell hx2 ?_) |  (with_reducible exact kc_new) | ((with_reducible refine kc_newE ?_); (simp; done)) | ((with_reducible refine kc_newEa ?_); (simp; done)) | ((with_reducible refine kc_newEb ?_); (simp; done)) | (with_reducible apply kc_alloc) | (with_reducible apply kc_drewN) | (with_reducible apply kc_drew) | ((with_reducible refine kc_set ?_ ?_); (first | (simp only []; omega) | (simp; omega) | (focus (simp; done)))) | ((with_reducible refine kc_set2 ?_ ?_); (focus (simp; done))) | (with_reducible refine kc_same (v := .slice none 0 0) ?_))
          · (repeat first | (with_reducible assumption) | (with_reducible refine Ext.cell hx2 ?_) |  (with_reducible exact kc_new) | ((with_reducible refine kc_newE ?_); (simp; done)) | ((with_reducible refine kc_newEa ?_); (simp; done)) | ((with_reducible refine kc_newEb ?_); (simp; done)) | (with_reducible apply kc_alloc) | (with_reducible apply kc_drewN) | (with_reducible apply kc_drew) | ((with_reducible refine kc_set ?_ ?_); (first | (simp only []; omega) | (simp; omega) | (focus (simp; done)))) | ((with_reducible refine kc_set2 ?_ ?_); (focus (simp; done))) | (with_reducible refine kc_same (v := .slice none 0 0) ?_))
          · (repeat first | exact hi2 | (with_reducible apply ki_alloc) | (with_reducible apply ki_drew) | ((with_reducible refine ki_setNil ?_ ?_); focus (repeat first | (with_reducible assumption) | (with_reducible refine Ext.cell hx2 ?_) |  (with_reducible exact kc_new) | ((with_reducible refine kc_newE ?_); (simp; done)) | ((with_reducible refine kc_newEa ?_); (simp; done)) | ((with_reducible refine kc_newEb ?_); (simp; done)) | (with_reducible apply kc_alloc) | (with_reducible apply kc_drewN) | (with_reducible apply kc_drew) | ((with_reducible refine kc_set ?_ ?_); (first | (simp only []; omega) | (simp; omega) | (focus (simp; done)))) | ((with_reducible refine kc_set2 ?_ ?_); (focus (simp; done))) | (with_reducible refine kc_same (v := .slice none 0 0) ?_)); done))
          · (repeat first | (with_reducible exact Ext.refl _) | (with_reducible assumption) | (with_reducible apply Ext.drew) | (with_reducible apply kx_drewN) | (with_reducible apply kx_alloc) | ((with_reducible refine kx_set ?_ ?_); (first | (simp only []; omega) | (simp; omega) | (focus (simp; done)))) | (with_reducible refine Ext.trans ?_ hx2) )
    case rest =>
      obtain ⟨B, C, b2, c2, rfl, rfl, g1, g2, hi2, hx2⟩ := hcut
      obtain ⟨w2, rfl⟩ : ∃ z : World, z = wc := ⟨_, rfl⟩
      have f3 := hx2.cell f1
      have f4 := hx2.free f2 (by simp only []; omega)
      have hX2 := hX.trans hx2
      have z2 := hx2.size
      go_wp2_with fail
      refine (rackBy_any t.length (conjF t) 56 #[.pointer (some ⟨B, 0, none⟩), .pointer (some ⟨C, 0, none⟩)] _ (by omega) callGroupConjugation1 (fun w3 x y h3 hx hy => by
        rw [app22]
        exact groupConjugation1_any t _ b2 c2 x y B C w3 (h3.cell g1) (h3.cell g2) (hv.ext (hX2.trans h3)) (hi2.ext h3) HG.out hx hy)).mono ?_
      rintro e w3 ⟨b3, c3, rfl, ho3, hx3⟩
      have f5 := hx3.cell f3
      have f6 := hx3.free f4 (by simp only []; omega)
      have z3 := hx3.size
      go_wp2
      refine bodyPost_ret (v := .tuple #[.agg #[.slice (some ⟨b3, 0, none⟩) (mkT t.length (conjF t)).length c3], .int .i64 0]) (by simp [results, Try.results18, go_sem, f5]) rfl ⟨_, rfl, ?_, (hX2.trans hx3).setNew (by simp only []; omega) _⟩
      have hs := (ho3.setOther (a := ⟨w.heap.size + 1, 0, none⟩) (.inl (by simp only []; omega)) (.slice (some ⟨b3, 0, none⟩) (mkT t.length (conjF t)).length c3)).mono (lo' := w.heap.size) (hi' := w3.heap.size) (by omega) (Nat.le_refl _)
      simpa using hs.v (small_mkT (by omega) _) c3
set_option maxRecDepth 100000 in
set_option maxHeartbeats 1000000 in
theorem GroupConjugation_spec (t : List (List Int)) (v : Value) (w : World) (hv : Rows w v t) :
    Calls Try.prog 19 #[.agg #[v]] w (RetG (ifG t (mkT t.length (conjF t)) []) (codeG t) w) := by
  obtain ⟨hlen, b, o, c, rfl, hc⟩ := id hv
  have hx0 := ext_box2 w (.slice (some ⟨b, o, none⟩) t.length c) (.slice none 0 0) 32 27
  have b0 : ((w.alloc (.cells #[.slice (some ⟨b, o, none⟩) t.length c] 32)).alloc (.cells #[.slice none 0 0] 27)).cell? ⟨w.heap.size, 0, none⟩ = some (.slice (some ⟨b, o, none⟩) t.length c) := by simp [go_sem]
  have r0 : ((w.alloc (.cells #[.slice (some ⟨b, o, none⟩) t.length c] 32)).alloc (.cells #[.slice none 0 0] 27)).cell? ⟨w.heap.size + 1, 0, none⟩ = some (.slice none 0 0) := by simp [go_sem]
  have q0 : ((w.alloc (.cells #[.slice (some ⟨b, o, none⟩) t.length c] 32)).alloc (.cells #[.slice none 0 0] 27)).frozen? ⟨w.heap.size + 1, 0, none⟩ = false := by simp [go_sem]
  have z0 : w.heap.size + 2 = ((w.alloc (.cells #[.slice (some ⟨b, o, none⟩) t.length c] 32)).alloc (.cells #[.slice none 0 0] 27)).heap.size := by simp
  cases hg : groupB t with
  | false =>
    rw [ifG_no hg, codeG_no hg]
    go_enter Try.func19, Try.ntmps19
    go_wp2_with fail
    generalize (w.alloc (.cells #[.slice (some ⟨b, o, none⟩) t.length c] 32)).alloc (.cells #[.slice none 0 0] 27) = A at *
    refine (l10Is_any t _ _ (hv.ext hx0)).mono ?_
    rintro e w1 ⟨rfl, hx1⟩
    rw [hg]
    have f1 := hx1.cell r0
    have f2 := hx1.free q0 (by simp only []; omega)
    go_wp2
    refine bodyPost_ret (v := .tuple #[.agg #[.slice none 0 0], .int .i64 1]) (by simp [results, Try.results19, go_sem, f1]) rfl ⟨_, rfl, RowsR.nil _ _, (hx0.trans hx1).setNew (by simp only []; omega) _⟩
  | true =>
    have hG := groupB_iff.1 hg
    have HG := Lib.hid hG
    have h12 := hG.1.2.1
    have HLT := Lib.hid (length_mkT t.length (conjF t))
    have HB := Lib.hid (fun x (hx : x < t.length) => backF_ok hG hx)
    rw [ifG_yes hg, codeG_yes hg]
    clear hG
    go_enter Try.func19, Try.ntmps19
    go_wp2_with fail
    generalize (w.alloc (.cells #[.slice (some ⟨b, o, none⟩) t.length c] 32)).alloc (.cells #[.slice none 0 0] 27) = A at *
    refine (l10Is_any t _ _ (hv.ext hx0)).mono ?_
    rintro e w1 ⟨rfl, hx1⟩
    rw [hg]
    have f1 := hx1.cell r0
    have f2 := hx1.free q0 (by simp only []; omega)
    have b1 := hx1.cell b0
    have zz := hx1.size
    have hX := hx0.trans hx1
    clear hx0 hx1 b0 r0 q0 hg
    go_wp2
    have hxB := ext_box w1 (.slice none 0 0) 27
    have bB := cell_new w1 (.slice none 0 0) 27
    have qB : (w1.alloc (.cells #[.slice none 0 0] 27)).frozen? ⟨w1.heap.size, 0, none⟩ = false := by simp [go_sem]
    have zB : w1.heap.size + 1 = (w1.alloc (.cells #[.slice none 0 0] 27)).heap.size := by simp
    have gB := GrowT.nil 45 (w1.alloc (.cells #[.slice none 0 0] 27)).heap.size (w1.alloc (.cells #[.slice none 0 0] 27))
    have hXB := hX.trans hxB
    generalize w1.alloc (.cells #[.slice none 0 0] 27) = B at *
    go_loopw [5] (fun x wr => ∃ k : Nat, k ≤ t.length ∧ x = .int .i64 k ∧ ∃ v, wr.cell? ⟨w1.heap.size, 0, none⟩ = some v ∧ GrowT 45 B.heap.size wr v ((mkT t.length (conjF t)).take k) ∧ wr.frozen? ⟨w1.heap.size, 0, none⟩ = false ∧ Ext w1 wr ∧ B.heap.size ≤ wr.heap.size) (fun x _ => t.length - (intOf x).toNat)
    case atStart => exact ⟨0, Nat.zero_le _, rfl, _, bB, gB, qB, hxB, Nat.le_refl _⟩
    case round =>
      clear bB qB hxB gB hXB
      obtain ⟨k, hk, rfl, v, bv, hg, qv, hx, zr⟩ := hrel
      obtain ⟨sa, sc, rfl⟩ := hg.slice
      have htl : ((mkT t.length (conjF t)).take k).length = k := by rw [List.length_take, HLT.out]; omega
      rw [htl] at hg bv
      have HTL := Lib.hid htl
      clear htl
      have b2 := hx.cell b1
      have g1 := hx.cell f1
      have g2 := hx.free f2 (by simp only []; omega)
      by_cases hkl : k < t.length
      case neg =>
        have hkk : k = t.length := by omega
        subst hkk
        have htk : (mkT t.length (conjF t)).take t.length = mkT t.length (conjF t) := List.take_of_length_le (by rw [HLT.out]; omega)
        rw [htk] at hg
        go_wp2
        refine bodyPost_ret (v := .tuple #[.agg #[.slice sa t.length sc], .int .i64 0]) (by simp [results, Try.results19, go_sem, g1]) rfl ⟨_, rfl, ?_, (hX.trans hx).setNew (by simp only []; omega) _⟩
        exact (hg.setSl (a := ⟨w.heap.size + 1, 0, none⟩) g1 (by simp only []; omega) _).toR
      case pos =>
        obtain ⟨w2, rfl⟩ : ∃ w2 : World, w2 = wr := ⟨_, rfl⟩
        go_wp2
        have hxa : Ext w2 (w2.alloc (.cells #[] 2)) := (Ext.refl _).alloc _
        have hi0 := GrowI.lit (e := 2) (base := w2.heap.size) (w := w2) (Nat.le_refl _)
        have hrl : (row (mkT t.length (conjF t)) k).length = t.length := by rw [row_mkT _ _ _ hkl, length_partRow]
        have HRL := Lib.hid hrl
        have HO := Lib.hid hg.lt
        clear hrl
        go_loopw [6, 7] (fun v y wr => ∃ j : Nat, j ≤ t.length ∧ y = .int .i64 j ∧ GrowI 2 w2.heap.size wr v ((row (mkT t.length (conjF t)) k).take j) ∧ v ≠ .slice none 0 0 ∧ Ext w2 wr) (fun _ y _ => t.length - (intOf y).toNat)
        case atStart => exact ⟨0, Nat.zero_le _, rfl, hi0, by simp, hxa⟩
        case round =>
          clear hxa hi0
          obtain ⟨j, hj, rfl, hi, hvr, hx2⟩ := hrel
          have HVR := Lib.hid hvr
          clear hvr
          have c2 := hx2.cell b2
          by_cases hjl : j < t.length
          case neg =>
            have hta : (row (mkT t.length (conjF t)) k).take j = row (mkT t.length (conjF t)) k := List.take_of_length_le (by rw [HRL.out]; omega)
            rw [hta] at hi
            obtain ⟨br, cr, rfl, hri, hrb, hrb2⟩ := hi.row HVR.out
            have hgw := hg.ext hx2
            have hne : some br ≠ (Value.slice sa k sc).ownBlock := fun e => by have := HO.out br e.symm; omega
            have bv2 := hx2.cell bv
            have qv2 := hx2.free qv (by simp only []; omega)
            clear hg
            go_wp2_with (at_builtin; refine wpList_append_row rfl _ _ 25 45 rfl Try.underlying25 infoSl B.heap.size _ _ rfl (hgw.ext (ext_box _ _ _)) _ br cr _ rfl (cell_new _ _ _) (hri.ext (ext_box _ _ _)) (by rw [HRL.out]; omega) hne (by rw [HTL.out]; omega) (by have := hx.size; have := hx2.size; simp; omega) ?_)
            intro v' w3 hg3 hgr hv3
            have hx3 : Ext w1 w3 := Ext.grown ((hx.trans hx2).trans (ext_box _ _ _)) hgr (hgw.ext (ext_box _ _ _)).own.choose_spec (by omega)
            have hgr2 := hgr.size
            have bv3 : w3.cell? ⟨w1.heap.size, 0, none⟩ = some (Value.slice sa k sc) := by
              rw [hgr.cell_far _ (by simp; omega) (by intro e; have := HO.out _ e.symm; simp only [] at this; omega)]
              exact (ext_box _ _ _).cell bv2
            have qv3 : w3.frozen? ⟨w1.heap.size, 0, none⟩ = false := by
              rw [hgr.frozen_far _ (by simp; omega) (by intro e; have := HO.out _ e.symm; simp only [] at this; omega)]
              exact (ext_box _ _ _).free qv2 (by simp only []; have := hx2.size; omega)
            clear hgr hne hgw
            obtain ⟨a3, c3, rfl⟩ := hg3.slice
            have hl3 : ((mkT t.length (conjF t)).take k ++ [row (mkT t.length (conjF t)) k]).length = k + 1 := by rw [List.length_append, HTL.out]; rfl
            rw [hl3] at hg3 ⊢
            clear hl3 hv3
            go_wp2
            go_roundw
            case rel => exact ⟨k + 1, by omega, by go_num, _, World.cell?_setCell_same _ _ _ bv3, by rw [take_row _ _ (by rw [HLT.out]; exact hkl)]; exact hg3.setSl bv3 (by simp only []; omega) _, by rw [World.frozen?_setCell]; exact qv3, hx3.setNew (by simp only []; omega) _, by have := hx2.size; have := hgr2; simp at *; omega⟩
            case measure => simp [intOf]; omega
          case pos =>
            have hp := HB.out k hkl
            obtain ⟨d1, s1, m1, r1, l1⟩ := (hc.ext (hX.trans hx)).read HG.out.1 rfl hkl
            obtain ⟨e1, i1, i2⟩ := l1 j hjl
            obtain ⟨d2, s2, m2, r2, l2⟩ := (hc.ext (hX.trans hx)).read HG.out.1 rfl (x := (ent t k j).toNat) (by omega)
            obtain ⟨e2, i3, i4⟩ := l2 (backF t k).toNat (by omega)
            rw [conjF_def] at e2 i3 i4
            have i5 : backF t k < (t.length : Int) := by omega
            have p1 := hx2.cell r1
            have p2 := hx2.cell r2
            have p3 := hx2.cell e1
            have p4 := hx2.cell e2
            have hlj : ((row (mkT t.length (conjF t)) k).take j).length = j := by rw [List.length_take, HRL.out]; omega
            have HLJ := Lib.hid hlj
            clear hlj l1 l2
            go_wp2_with fail
            go_region_held3 (fun w' => w'.cell? ⟨w.heap.size, 0, none⟩ = some (.slice (some ⟨b, o, none⟩) t.length c) ∧ w'.cell? ⟨b, o + k, none⟩ = some (.slice (some ⟨d1, s1, none⟩) t.length m1) ∧ w'.cell? ⟨b, o + (ent t k j).toNat, none⟩ = some (.slice (some ⟨d2, s2, none⟩) t.length m2) ∧ w'.cell? ⟨d1, s1 + j, none⟩ = some (.int .i64 (ent t k j)) ∧ w'.cell? ⟨d2, s2 + (backF t k).toNat, none⟩ = some (.int .i64 (conjF t k j)))
              ((refine ⟨?_, ?_, ?_, ?_, ?_⟩ <;> (repeat first | (with_reducible assumption) | (with_reducible refine Ext.cell hx3 ?_) |  (with_reducible exact kc_new) | ((with_reducible refine kc_newE ?_); (simp; done)) | ((with_reducible refine kc_newEa ?_); (simp; done)) | ((with_reducible refine kc_newEb ?_); (simp; done)) | (with_reducible apply kc_alloc) | (with_reducible apply kc_drewN) | (with_reducible apply kc_drew) | ((with_reducible refine kc_set ?_ ?_); (first | (simp only []; omega) | (simp; omega) | (focus (simp; done)))) | ((with_reducible refine kc_set2 ?_ ?_); (focus (simp; done))) | (with_reducible refine kc_same (v := .slice none 0 0) ?_))))
              (first
                | (go_at_call 58; refine (l10Back_any t _ k _ (hv.ext ((hX.trans (hx.trans hx2)).trans (by (repeat first | (with_reducible exact Ext.refl _) | (with_reducible assumption) | (with_reducible apply Ext.drew) | (with_reducible apply kx_drewN) | (with_reducible apply kx_alloc) | ((with_reducible refine kx_set ?_ ?_); (first | (simp only []; omega) | (simp; omega) | (focus (simp; done)))) )))) hkl).mono ?_; rintro e w' ⟨rfl, rfl⟩)
                | (refine step_append_int (by rfl) _ _ 45 2 (by rfl) Try.underlying45 infoInt w2.heap.size _ _ (by rfl) (hi.ext (by (repeat first | (with_reducible exact Ext.refl _) | (with_reducible assumption) | (with_reducible apply Ext.drew) | (with_reducible apply kx_drewN) | (with_reducible apply kx_alloc) | ((with_reducible refine kx_set ?_ ?_); (first | (simp only []; omega) | (simp; omega) | (focus (simp; done)))) ))) _ _ (by rfl) (by (repeat first | (with_reducible assumption) |  (with_reducible exact kc_new) | ((with_reducible refine kc_newE ?_); (simp; done)) | ((with_reducible refine kc_newEa ?_); (simp; done)) | ((with_reducible refine kc_newEb ?_); (simp; done)) | (with_reducible apply kc_alloc) | (with_reducible apply kc_drewN) | (with_reducible apply kc_drew) | ((with_reducible refine kc_set ?_ ?_); (first | (simp only []; omega) | (simp; omega) | (focus (simp; done)))) | ((with_reducible refine kc_set2 ?_ ?_); (focus (simp; done))) | (with_reducible refine kc_same (v := .slice none 0 0) ?_))) (by rw [HLJ.out]; omega) (by have := hx2.size; simp; omega) ?_; intro v' w3 hi3 hgr hv3; have hx3 : Ext w2 w3 := Ext.grown (hx2.trans (by (repeat first | (with_reducible exact Ext.refl _) | (with_reducible assumption) | (with_reducible apply Ext.drew) | (with_reducible apply kx_drewN) | (with_reducible apply kx_alloc) | ((with_reducible refine kx_set ?_ ?_); (first | (simp only []; omega) | (simp; omega) | (focus (simp; done)))) ))) hgr (hi.ext (by (repeat first | (with_reducible exact Ext.refl _) | (with_reducible assumption) | (with_reducible apply Ext.drew) | (with_reducible apply kx_drewN) | (with_reducible apply kx_alloc) | ((with_reducible refine kx_set ?_ ?_); (first | (simp only []; omega) | (simp; omega) | (focus (simp; done)))) ))) (Nat.le_refl _)))
            all_goals
              go_wp2
              go_roundw
              case rel => exact ⟨j + 1, by omega, by go_num, by
                rw [take_ix _ _ (by rw [HRL.out]; exact hjl), row_mkT _ _ _ hkl, ix_partRow _ _ _ _ _ hjl, if_pos hjl]
                rw [row_mkT _ _ _ hkl] at hi3
                exact hi3, hv3, hx3⟩
              case measure => simp [intOf]; omega
end Go.Proofs.Ytbfhecckapgpnaa

/-
  Contracts of IsNormalIn: reference and program (codes).
-/
namespace Go.Proofs.Ytbfhecckapgpnaa
set_option linter.unusedVariables false
set_option linter.unusedSimpArgs false
open Go.RowKit
attribute [local go_sem ↓] Go.wp_at_zero Go.wp_at_succ

set_option maxRecDepth 100000 in
set_option maxHeartbeats 1000000 in
theorem checkSubgroup_any (t : List (List Int)) (v : Value) (a : Int) (w : World) (hv : Rows w v t) :
    Calls Try.prog 71 #[.agg #[v], .int .i64 a] w fun e w' => e = .returned (.int .i64 (subC t a)) ∧ Ext w w' := by
  obtain ⟨hlen, b, o, c, rfl, hc⟩ := id hv
  have hX := ext_box w (.slice (some ⟨b, o, none⟩) t.length c) 32
  have k0 := cell_new w (.slice (some ⟨b, o, none⟩) t.length c) 32
  cases hg : groupB t with
  | false =>
    rw [subC_1 hg]
    go_enter Try.func71, Try.ntmps71
    go_wp2_with fail
    refine (IsGroup_impl t _ _ (hv.ext hX)).mono ?_
    rintro e w1 ⟨rfl, hx⟩
    rw [hg]
    replace hX := hX.trans hx
    replace k0 := hx.cell k0
    clear hx
    go_wp2
    go_ret
    exact ⟨rfl, hX⟩
  | true =>
    have HG := Lib.hid (groupB_iff.1 hg)
    have h12 := HG.out.1.2.1
    have hp := pow12 h12
    have h1p := Nat.two_pow_pos t.length
    have HW := Lib.hid (wrapPow h12)
    obtain ⟨P, hP⟩ : ∃ P : Nat, P = 2 ^ t.length := ⟨_, rfl⟩
    have hw : wrap64 (2 ^ t.length) = (P : Int) := by rw [HW.out, hP]
    rw [← hP] at hp h1p
    have HP := Lib.hid hP
    clear hP
    cases hin : inR a 0 ((P : Int) - 1) with
    | false =>
      rw [subC_2 hg (by rw [← HP.out]; exact hin)]
      go_enter Try.func71, Try.ntmps71
      go_wp2_with fail
      refine (IsGroup_impl t _ _ (hv.ext hX)).mono ?_
      rintro e w1 ⟨rfl, hx⟩
      rw [hg]
      replace hX := hX.trans hx
      replace k0 := hx.cell k0
      clear hx
      clear hg
      go_wp2_with (go_at_call 39; refine (within_any _ _ _ _).mono ?_; rintro e w' ⟨rfl, rfl⟩; rw [hin])
      go_ret
      exact ⟨rfl, hX⟩
    | true =>
      have hb := inR_iff.1 hin
      obtain ⟨m, rfl⟩ := Int.eq_ofNat_of_zero_le hb.1
      have HM := Lib.hid (show m < 2 ^ t.length by rw [← HP.out]; omega)
      have H62 := Lib.hid (lt62 h12 HM.out)
      clear hb
      cases hcl : subB t m with
      | false =>
        rw [subC_5 hg (by rw [← HP.out]; exact hin) hcl]
        go_enter Try.func71, Try.ntmps71
        go_wp2_with fail
        refine (IsGroup_impl t _ _ (hv.ext hX)).mono ?_
        rintro e w1 ⟨rfl, hx⟩
        rw [hg]
        replace hX := hX.trans hx
        replace k0 := hx.cell k0
        clear hx
        clear hg
        go_wp2_with (go_at_call 39; refine (within_any _ _ _ _).mono ?_; rintro e w' ⟨rfl, rfl⟩; rw [hin])
        refine (isSubgroup_any t _ m _ (hv.ext hX) HG.out.1 HM.out).mono ?_
        rintro e w3 ⟨rfl, hx3⟩
        rw [hcl]
        go_wp2
        go_ret
        exact ⟨rfl, hX.trans hx3⟩
      | true =>
        rw [subC_0 hg (by rw [← HP.out]; exact hin) hcl]
        go_enter Try.func71, Try.ntmps71
        go_wp2_with fail
        refine (IsGroup_impl t _ _ (hv.ext hX)).mono ?_
        rintro e w1 ⟨rfl, hx⟩
        rw [hg]
        replace hX := hX.trans hx
        replace k0 := hx.cell k0
        clear hx
        clear hg
        go_wp2_with (go_at_call 39; refine (within_any _ _ _ _).mono ?_; rintro e w' ⟨rfl, rfl⟩; rw [hin])
        refine (isSubgroup_any t _ m _ (hv.ext hX) HG.out.1 HM.out).mono ?_
        rintro e w3 ⟨rfl, hx3⟩
        rw [hcl]
        go_wp2
        go_ret
        exact ⟨rfl, hX.trans hx3⟩

set_option maxRecDepth 100000 in
theorem IsNormalIn_impl (t : List (List Int)) (v : Value) (a : Int) (w : World) (hv : Rows w v t) :
    Calls Try.prog 30 #[.agg #[v], .int .i64 a] w (RetBI (normV t a) (subC t a) w) := by
  obtain ⟨hlen, b, o, c, rfl, hc⟩ := id hv
  have hX := ext_box w (.slice (some ⟨b, o, none⟩) t.length c) 32
  have k0 := cell_new w (.slice (some ⟨b, o, none⟩) t.length c) 32
  clear hc
  cases hz : (subC t a != 0) with
  | true =>
    rw [normV_bad (by simpa using hz)]
    go_enter Try.func30, Try.ntmps30
    go_wp2_with fail
    refine (checkSubgroup_any t _ _ _ (hv.ext hX)).mono ?_
    rintro e w1 ⟨rfl, hx⟩
    replace hX := hX.trans hx
    replace k0 := hx.cell k0
    clear hx
    go_wp2
    go_ret2
    exact ⟨rfl, hX⟩
  | false =>
    have hz' : subC t a = 0 := by simpa using hz
    obtain ⟨hg, m, rfl, hm, -⟩ := subC_zero hz'
    rw [normV_good hz', hz']
    have HZ := Lib.hid hz'
    have HM := Lib.hid hm
    have HG := Lib.hid (groupB_iff.1 hg)
    clear hz hz' hm hg
    go_enter Try.func30, Try.ntmps30
    go_wp2_with fail
    refine (checkSubgroup_any t _ _ _ (hv.ext hX)).mono ?_
    rintro e w1 ⟨rfl, hx⟩
    replace hX := hX.trans hx
    replace k0 := hx.cell k0
    clear hx
    rw [HZ.out]
    go_wp2_with fail
    refine (isNormal_any t _ m _ (hv.ext hX) HG.out HM.out).mono ?_
    rintro e w2 ⟨rfl, hx⟩
    go_wp2
    go_ret2
    exact ⟨rfl, hX.trans hx⟩

end Go.Proofs.Ytbfhecckapgpnaa
