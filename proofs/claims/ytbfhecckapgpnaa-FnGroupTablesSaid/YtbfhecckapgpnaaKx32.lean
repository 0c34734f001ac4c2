/-
  Contract (new memory)s: the cyclic groups and those of two halves, by formulas: reference.
-/
import Derived.Test.YtbfhecckapgpnaaProg
import Derived.Test.YtbfhecckapgpnaaKx0
import Derived.Test.YtbfhecckapgpnaaKx1
import Derived.Test.YtbfhecckapgpnaaKx2
import Derived.Test.YtbfhecckapgpnaaKx8
import Derived.Test.YtbfhecckapgpnaaKx5
import Derived.Test.YtbfhecckapgpnaaKx6
import Derived.Test.YtbfhecckapgpnaaKx9
import Derived.Test.YtbfhecckapgpnaaKx7
import Derived.Test.YtbfhecckapgpnaaKx10
import Derived.Test.YtbfhecckapgpnaaKx13
import Derived.Test.YtbfhecckapgpnaaKx28
import Derived.Test.YtbfhecckapgpnaaKx29
import Derived.Test.YtbfhecckapgpnaaKx12
namespace Go.Proofs.Ytbfhecckapgpnaa
set_option linter.unusedVariables false
set_option linter.unusedSimpArgs false
open Go.RowKit

set_option maxRecDepth 100000 in
theorem l10Cyclic_own (n : Nat) (w : World) (h1 : 1 ≤ n) (h2 : n ≤ 12) :
    Calls Try.prog 116 #[.int .i64 n] w (NewT (mkT n (cycF n)) w) := by
  have hlt := length_mkT n (cycF n)
  have HLT := Lib.hid hlt
  clear hlt
  go_enter Try.func116, Try.ntmps116
  go_wp2
  have hx0 : Ext w (w.alloc (.cells #[] 45)) := (Ext.refl _).alloc _
  have hg0 := MineT.lit (lo := w.heap.size) (w := w) (Nat.le_refl _)
  go_loopw [3, 4] (fun v x wr => ∃ k : Nat, k ≤ n ∧ x = .int .i64 k ∧ MineT w.heap.size NoO wr v ((mkT n (cycF n)).take k) ∧ v ≠ .slice none 0 0 ∧ Ext w wr) (fun _ x _ => n - (intOf x).toNat)
  case atStart => exact ⟨0, Nat.zero_le _, rfl, hg0, by simp, hx0⟩
  case round =>
    clear hx0 hg0
    obtain ⟨k, hk, rfl, hg, hv, hx⟩ := hrel
    have HV := Lib.hid hv
    clear hv
    by_cases hkl : k < n
    case neg =>
      have : (mkT n (cycF n)).take k = mkT n (cycF n) := List.take_of_length_le (by rw [HLT.out]; omega)
      rw [this] at hg
      obtain ⟨bq, cq, rfl, hoq⟩ := hg.newT HV.out
      go_wp2
      go_ret
      exact ⟨bq, cq, rfl, hoq, hx⟩
    case pos =>
      go_wp2
      obtain ⟨w2, rfl⟩ : ∃ w2 : World, w2 = wr := ⟨_, rfl⟩
      have hxa : Ext w2 (w2.alloc (.cells #[] 2)) := (Ext.refl _).alloc _
      have hi0 := GrowI.lit (e := 2) (base := w2.heap.size) (w := w2) (Nat.le_refl _)
      have hrl : (row (mkT n (cycF n)) k).length = n := by rw [row_mkT _ _ _ hkl, length_partRow]
      have HRL := Lib.hid hrl
      have hout := hg.lt
      have HO := Lib.hid hout
      clear hrl hout
      go_loopw [5, 6] (fun v y wr => ∃ j : Nat, j ≤ n ∧ y = .int .i64 j ∧ GrowI 2 w2.heap.size wr v ((row (mkT n (cycF n)) k).take j) ∧ v ≠ .slice none 0 0 ∧ Ext w2 wr) (fun _ y _ => n - (intOf y).toNat)
      case atStart => exact ⟨0, Nat.zero_le _, rfl, hi0, by simp, hxa⟩
      case round =>
        clear hxa hi0
        obtain ⟨j, hj, rfl, hi, hvr, hx2⟩ := hrel
        have HVR := Lib.hid hvr
        clear hvr
        by_cases hjl : j < n
        case neg =>
          have hta : (row (mkT n (cycF n)) k).take j = row (mkT n (cycF n)) k := List.take_of_length_le (by rw [HRL.out]; omega)
          rw [hta] at hi
          obtain ⟨br, cr, rfl, hoi⟩ := hi.own HVR.out
          have htl : ((mkT n (cycF n)).take k).length = k := by rw [List.length_take, HLT.out]; omega
          have HTL := Lib.hid htl
          go_wp2_with (at_builtin; refine wpList_append_row_mine rfl _ _ 25 rfl Try.underlying25 infoSl w.heap.size _ _ rfl hg (hx2.trans (ext_box _ _ _)) _ br cr _ rfl (cell_new _ _ _) (OwnI.alloc1 hoi) (by rw [HTL.out]; omega) (by have := hx.size; omega) ?_)
          intro v' w3 hg3 hgr hv3 hat3
          have hx3 : Ext w w3 := (hx.trans (hx2.trans (ext_box _ _ _))).grownOwn hgr (fun g e => (HO.out g e).1)
          clear hgr hat3
          go_wp2
          go_roundw
          case rel => exact ⟨k + 1, by omega, by go_num, by rw [take_row _ _ (by rw [HLT.out]; exact hkl)]; exact hg3, hv3, hx3⟩
          case measure => simp [intOf]; omega
        case pos =>
          have hlj : ((row (mkT n (cycF n)) k).take j).length = j := by rw [List.length_take, HRL.out]; omega
          have HLJ := Lib.hid hlj
          clear hlj
          have hmod := Int.emod_nonneg ((k : Int) + (j : Int)) (b := (n : Int)) (by omega)
          go_wp2_with (at_builtin; refine wpList_append_int rfl _ _ 45 2 rfl Try.underlying45 infoInt w2.heap.size _ _ rfl (hi.alloc _) _ _ rfl (cell_new _ _ _) (by rw [HLJ.out]; omega) (by have := hx2.size; simp; omega) ?_)
          intro v' w3 hi3 hgr hv3
          have hx3 : Ext w2 w3 := (hx2.trans (ext_box _ _ _)).grown hgr (hi.alloc _) (Nat.le_refl _)
          clear hgr
          go_wp2
          go_roundw
          case rel => exact ⟨j + 1, by omega, by go_num, by
            rw [take_ix _ _ (by rw [HRL.out]; exact hjl), row_mkT _ _ _ hkl, ix_partRow _ _ _ _ _ hjl, if_pos hjl]
            rw [row_mkT _ _ _ hkl, ← cycF_def n k j] at hi3
            exact hi3, hv3, hx3⟩
          case measure => simp [intOf]; omega
end Go.Proofs.Ytbfhecckapgpnaa

/-
  Contract (new memory): groups of two halves, by formulas: reference.
-/
namespace Go.Proofs.Ytbfhecckapgpnaa
set_option linter.unusedVariables false
set_option linter.unusedSimpArgs false
open Go.RowKit

set_option maxRecDepth 100000 in
set_option maxHeartbeats 1000000 in
theorem l10Double_own (n s : Nat) (w : World) (h1 : 1 ≤ n) (h2 : n ≤ 12) (h3 : s ≤ 12) :
    Calls Try.prog 118 #[.int .i64 n, .int .i64 s] w (NewT (mkT (2 * n) (dblF n s)) w) := by
  have hlt := length_mkT (2 * n) (dblF n s)
  have HLT := Lib.hid hlt
  clear hlt
  go_enter Try.func118, Try.ntmps118
  go_wp2
  have hx0 : Ext w (w.alloc (.cells #[] 45)) := (Ext.refl _).alloc _
  have hg0 := MineT.lit (lo := w.heap.size) (w := w) (Nat.le_refl _)
  go_loopw [5, 6] (fun v x wr => ∃ k : Nat, k ≤ 2 * n ∧ x = .int .i64 k ∧ MineT w.heap.size NoO wr v ((mkT (2 * n) (dblF n s)).take k) ∧ v ≠ .slice none 0 0 ∧ Ext w wr) (fun _ x _ => 2 * n - (intOf x).toNat)
  case atStart => exact ⟨0, Nat.zero_le _, rfl, hg0, by simp, hx0⟩
  case round =>
    clear hx0 hg0
    obtain ⟨k, hk, rfl, hg, hv, hx⟩ := hrel
    have HV := Lib.hid hv
    clear hv
    by_cases hkl : k < 2 * n
    case neg =>
      have : (mkT (2 * n) (dblF n s)).take k = mkT (2 * n) (dblF n s) := List.take_of_length_le (by rw [HLT.out]; omega)
      rw [this] at hg
      obtain ⟨bq, cq, rfl, hoq⟩ := hg.newT HV.out
      go_wp2
      go_ret
      exact ⟨bq, cq, rfl, hoq, hx⟩
    case pos =>
      have hkI : (k : Int) < 2 * (n : Int) := by omega
      go_wp2
      obtain ⟨w2, rfl⟩ : ∃ w2 : World, w2 = wr := ⟨_, rfl⟩
      have hxa : Ext w2 (w2.alloc (.cells #[] 2)) := (Ext.refl _).alloc _
      have hi0 := GrowI.lit (e := 2) (base := w2.heap.size) (w := w2) (Nat.le_refl _)
      have hrl : (row (mkT (2 * n) (dblF n s)) k).length = 2 * n := by rw [row_mkT _ _ _ hkl, length_partRow]
      have HRL := Lib.hid hrl
      have hout := hg.lt
      have HO := Lib.hid hout
      clear hrl hout
      go_loopw [7, 8] (fun v y wr => ∃ j : Nat, j ≤ 2 * n ∧ y = .int .i64 j ∧ GrowI 2 w2.heap.size wr v ((row (mkT (2 * n) (dblF n s)) k).take j) ∧ v ≠ .slice none 0 0 ∧ Ext w2 wr) (fun _ y _ => 2 * n - (intOf y).toNat)
      case atStart => exact ⟨0, Nat.zero_le _, rfl, hi0, by simp, hxa⟩
      case round =>
        clear hxa hi0
        obtain ⟨j, hj, rfl, hi, hvr, hx2⟩ := hrel
        have HVR := Lib.hid hvr
        clear hvr
        by_cases hjl : j < 2 * n
        case neg =>
          have hta : (row (mkT (2 * n) (dblF n s)) k).take j = row (mkT (2 * n) (dblF n s)) k := List.take_of_length_le (by rw [HRL.out]; omega)
          rw [hta] at hi
          obtain ⟨br, cr, rfl, hoi⟩ := hi.own HVR.out
          have htl : ((mkT (2 * n) (dblF n s)).take k).length = k := by rw [List.length_take, HLT.out]; omega
          have HTL := Lib.hid htl
          go_wp2_with (at_builtin; refine wpList_append_row_mine rfl _ _ 25 rfl Try.underlying25 infoSl w.heap.size _ _ rfl hg (hx2.trans (ext_box _ _ _)) _ br cr _ rfl (cell_new _ _ _) (OwnI.alloc1 hoi) (by rw [HTL.out]; omega) (by have := hx.size; omega) ?_)
          intro v' w3 hg3 hgr hv3 hat3
          have hx3 : Ext w w3 := (hx.trans (hx2.trans (ext_box _ _ _))).grownOwn hgr (fun g e => (HO.out g e).1)
          clear hgr hat3
          go_wp2
          go_roundw
          case rel => exact ⟨k + 1, by omega, by go_num, by rw [take_row _ _ (by rw [HLT.out]; exact hkl)]; exact hg3, hv3, hx3⟩
          case measure => simp [intOf]; omega
        case pos =>
          have hlj : ((row (mkT (2 * n) (dblF n s)) k).take j).length = j := by rw [List.length_take, HRL.out]; omega
          have HLJ := Lib.hid hlj
          clear hlj
          have hk0 := Int.emod_nonneg (k : Int) (b := (n : Int)) (by omega)
          have hk1 := Int.emod_lt_of_pos (k : Int) (b := (n : Int)) (by omega)
          have hj0 := Int.emod_nonneg (j : Int) (b := (n : Int)) (by omega)
          have hj1 := Int.emod_lt_of_pos (j : Int) (b := (n : Int)) (by omega)
          have p0 := Int.emod_nonneg ((k : Int) + (j : Int)) (b := (n : Int)) (by omega)
          have p1 := Int.emod_lt_of_pos ((k : Int) + (j : Int)) (b := (n : Int)) (by omega)
          have q0 := Int.emod_nonneg ((k : Int) - (j : Int)) (b := (n : Int)) (by omega)
          have q1 := Int.emod_lt_of_pos ((k : Int) - (j : Int)) (b := (n : Int)) (by omega)
          have hjI : (j : Int) < 2 * (n : Int) := by omega
          go_wp2
          go_quiet (fail)
          obtain ⟨w4, hw4⟩ : ∃ w4 : World, w4 = wr.drewN nq := ⟨_, rfl⟩
          have hx4 : Ext w2 w4 := by rw [hw4]; exact hx2.drewN _
          have hi4 : GrowI 2 w2.heap.size w4 u7 ((row (mkT (2 * n) (dblF n s)) k).take j) := by rw [hw4]; exact hi.ext ((Ext.refl _).drewN _)
          rw [← hw4]
          clear hw4 hi hx2
          by_cases hkn : k < n <;> by_cases hjn : j < n
          all_goals
            go_wp2_with (at_builtin; refine wpList_append_int rfl _ _ 45 2 rfl Try.underlying45 infoInt w2.heap.size _ _ rfl (hi4.alloc _) _ _ rfl (cell_new _ _ _) (by rw [HLJ.out]; omega) (by have := hx4.size; simp; omega) ?_)
            intro v' w3 hi3 hgr hv3
            have hx3 : Ext w2 w3 := (hx4.trans (ext_box _ _ _)).grown hgr (hi4.alloc _) (Nat.le_refl _)
            clear hgr
            go_wp2
            go_roundw
            case rel => exact ⟨j + 1, by omega, by go_num, by
              rw [take_ix _ _ (by rw [HRL.out]; exact hjl), row_mkT _ _ _ hkl, ix_partRow _ _ _ _ _ hjl, if_pos hjl]
              rw [row_mkT _ _ _ hkl] at hi3
              first
                | (rw [dblF_1 ‹_› ‹_›]; exact hi3)
                | (rw [dblF_2 ‹_› (by omega)]; exact hi3)
                | (rw [dblF_3 (by omega) ‹_›]; exact hi3)
                | (rw [dblF_4 (by omega) (by omega)]; exact hi3), hv3, hx3⟩
            case measure => simp [intOf]; omega
end Go.Proofs.Ytbfhecckapgpnaa

/-
  Contracts of the laws' own helpers at racks (the same as at groups).
-/
namespace Go.Proofs.Ytbfhecckapgpnaa
set_option linter.unusedVariables false
set_option linter.unusedSimpArgs false
open Go.RowKit

end Go.Proofs.Ytbfhecckapgpnaa
