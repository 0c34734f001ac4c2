/-
  Contract (new memory)s: the cyclic groups and those of two halves, by formulas: reference.
-/
import Derived.Test.YtbfhecckapgpnaaProg
import Derived.Test.YtbfhecckapgpnaaJx0
import Derived.Test.YtbfhecckapgpnaaJx1
import Derived.Test.YtbfhecckapgpnaaJx2
import Derived.Test.YtbfhecckapgpnaaJx8
import Derived.Test.YtbfhecckapgpnaaJx5
import Derived.Test.YtbfhecckapgpnaaJx6
import Derived.Test.YtbfhecckapgpnaaJx9
import Derived.Test.YtbfhecckapgpnaaJx7
import Derived.Test.YtbfhecckapgpnaaJx10
import Derived.Test.YtbfhecckapgpnaaJx13
import Derived.Test.YtbfhecckapgpnaaJx28
import Derived.Test.YtbfhecckapgpnaaJx29
import Derived.Test.YtbfhecckapgpnaaJx12
import Derived.Test.YtbfhecckapgpnaaJx22
namespace Go.Proofs.Ytbfhecckapgpnaa
set_option linter.unusedVariables false
set_option linter.unusedSimpArgs false
open Go.RowKit

set_option maxRecDepth 100000 in
theorem l10Cyclic_own (n : Nat) (w : World) (h1 : 1 ≤ n) (h2 : n ≤ 12) :
    Calls Try.prog 116 #[.int .i64 n] w (NewT (mkT n (cycF n)) w) := by
  have hlt := length_mkT n (cycF n)
  have HLT := Lib.hid hlt
  clear hlt
  go_enter Try.func116, Try.ntmps116
  go_wp2
  have hx0 : Ext w (w.alloc (.cells #[] 45)) := (Ext.refl _).alloc _
  have hg0 := MineT.lit (lo := w.heap.size) (w := w) (Nat.le_refl _)
  go_loopw [3, 4] (fun v x wr => ∃ k : Nat, k ≤ n ∧ x = .int .i64 k ∧ MineT w.heap.size NoO wr v ((mkT n (cycF n)).take k) ∧ v ≠ .slice none 0 0 ∧ Ext w wr) (fun _ x _ => n - (intOf x).toNat)
  case atStart => exact ⟨0, Nat.zero_le _, rfl, hg0, by simp, hx0⟩
  case round =>
    clear hx0 hg0
    obtain ⟨k, hk, rfl, hg, hv, hx⟩ := hrel
    have HV := Lib.hid hv
    clear hv
    by_cases hkl : k < n
    case neg =>
      have : (mkT n (cycF n)).take k = mkT n (cycF n) := List.take_of_length_le (by rw [HLT.out]; omega)
      rw [this] at hg
      obtain ⟨bq, cq, rfl, hoq⟩ := hg.newT HV.out
      go_wp2
      go_ret
      exact ⟨bq, cq, rfl, hoq, hx⟩
    case pos =>
      go_wp2
      obtain ⟨w2, rfl⟩ : ∃ w2 : World, w2 = wr := ⟨_, rfl⟩
      have hxa : Ext w2 (w2.alloc (.cells #[] 2)) := (Ext.refl _).alloc _
      have hi0 := GrowI.lit (e := 2) (base := w2.heap.size) (w := w2) (Nat.le_refl _)
      have hrl : (row (mkT n (cycF n)) k).length = n := by rw [row_mkT _ _ _ hkl, length_partRow]
      have HRL := Lib.hid hrl
      have hout := hg.lt
      have HO := Lib.hid hout
      clear hrl hout
      go_loopw [5, 6] (fun v y wr => ∃ j : Nat, j ≤ n ∧ y = .int .i64 j ∧ GrowI 2 w2.heap.size wr v ((row (mkT n (cycF n)) k).take j) ∧ v ≠ .slice none 0 0 ∧ Ext w2 wr) (fun _ y _ => n - (intOf y).toNat)
      case atStart => exact ⟨0, Nat.zero_le _, rfl, hi0, by simp, hxa⟩
      case round =>
        clear hxa hi0
        obtain ⟨j, hj, rfl, hi, hvr, hx2⟩ := hrel
        have HVR := Lib.hid hvr
        clear hvr
        by_cases hjl : j < n
        case neg =>
          have hta : (row (mkT n (cycF n)) k).take j = row (mkT n (cycF n)) k := List.take_of_length_le (by rw [HRL.out]; omega)
          rw [hta] at hi
          obtain ⟨br, cr, rfl, hoi⟩ := hi.own HVR.out
          have htl : ((mkT n (cycF n)).take k).length = k := by rw [List.length_take, HLT.out]; omega
          have HTL := Lib.hid htl
          go_wp2_with (at_builtin; refine wpList_append_row_mine rfl _ _ 25 rfl Try.underlying25 infoSl w.heap.size _ _ rfl hg (hx2.trans (ext_box _ _ _)) _ br cr _ rfl (cell_new _ _ _) (OwnI.alloc1 hoi) (by rw [HTL.out]; omega) (by have := hx.size; omega) ?_)
          intro v' w3 hg3 hgr hv3 hat3
          have hx3 : Ext w w3 := (hx.trans (hx2.trans (ext_box _ _ _))).grownOwn hgr (fun g e => (HO.out g e).1)
          clear hgr hat3
          go_wp2
          go_roundw
          case rel => exact ⟨k + 1, by omega, by go_num, by rw [take_row _ _ (by rw [HLT.out]; exact hkl)]; exact hg3, hv3, hx3⟩
          case measure => simp [intOf]; omega
        case pos =>
          have hlj : ((row (mkT n (cycF n)) k).take j).length = j := by rw [List.length_take, HRL.out]; omega
          have HLJ := Lib.hid hlj
          clear hlj
          have hmod := Int.emod_nonneg ((k : Int) + (j : Int)) (b := (n : Int)) (by omega)
          go_wp2_with (at_builtin; refine wpList_append_int rfl _ _ 45 2 rfl Try.underlying45 infoInt w2.heap.size _ _ rfl (hi.alloc _) _ _ rfl (cell_new _ _ _) (by rw [HLJ.out]; omega) (by have := hx2.size; simp; omega) ?_)
          intro v' w3 hi3 hgr hv3
          have hx3 : Ext w2 w3 := (hx2.trans (ext_box _ _ _)).grown hgr (hi.alloc _) (Nat.le_refl _)
          clear hgr
          go_wp2
          go_roundw
          case rel => exact ⟨j + 1, by omega, by go_num, by
            rw [take_ix _ _ (by rw [HRL.out]; exact hjl), row_mkT _ _ _ hkl, ix_partRow _ _ _ _ _ hjl, if_pos hjl]
            rw [row_mkT _ _ _ hkl, ← cycF_def n k j] at hi3
            exact hi3, hv3, hx3⟩
          case measure => simp [intOf]; omega
end Go.Proofs.Ytbfhecckapgpnaa

/-
  Contract (new memory): groups of two halves, by formulas: reference.
-/
namespace Go.Proofs.Ytbfhecckapgpnaa
set_option linter.unusedVariables false
set_option linter.unusedSimpArgs false
open Go.RowKit

set_option maxRecDepth 100000 in
set_option maxHeartbeats 1000000 in
theorem l10Double_own (n s : Nat) (w : World) (h1 : 1 ≤ n) (h2 : n ≤ 12) (h3 : s ≤ 12) :
    Calls Try.prog 118 #[.int .i64 n, .int .i64 s] w (NewT (mkT (2 * n) (dblF n s)) w) := by
  have hlt := length_mkT (2 * n) (dblF n s)
  have HLT := Lib.hid hlt
  clear hlt
  go_enter Try.func118, Try.ntmps118
  go_wp2
  have hx0 : Ext w (w.alloc (.cells #[] 45)) := (Ext.refl _).alloc _
  have hg0 := MineT.lit (lo := w.heap.size) (w := w) (Nat.le_refl _)
  go_loopw [5, 6] (fun v x wr => ∃ k : Nat, k ≤ 2 * n ∧ x = .int .i64 k ∧ MineT w.heap.size NoO wr v ((mkT (2 * n) (dblF n s)).take k) ∧ v ≠ .slice none 0 0 ∧ Ext w wr) (fun _ x _ => 2 * n - (intOf x).toNat)
  case atStart => exact ⟨0, Nat.zero_le _, rfl, hg0, by simp, hx0⟩
  case round =>
    clear hx0 hg0
    obtain ⟨k, hk, rfl, hg, hv, hx⟩ := hrel
    have HV := Lib.hid hv
    clear hv
    by_cases hkl : k < 2 * n
    case neg =>
      have : (mkT (2 * n) (dblF n s)).take k = mkT (2 * n) (dblF n s) := List.take_of_length_le (by rw [HLT.out]; omega)
      rw [this] at hg
      obtain ⟨bq, cq, rfl, hoq⟩ := hg.newT HV.out
      go_wp2
      go_ret
      exact ⟨bq, cq, rfl, hoq, hx⟩
    case pos =>
      have hkI : (k : Int) < 2 * (n : Int) := by omega
      go_wp2
      obtain ⟨w2, rfl⟩ : ∃ w2 : World, w2 = wr := ⟨_, rfl⟩
      have hxa : Ext w2 (w2.alloc (.cells #[] 2)) := (Ext.refl _).alloc _
      have hi0 := GrowI.lit (e := 2) (base := w2.heap.size) (w := w2) (Nat.le_refl _)
      have hrl : (row (mkT (2 * n) (dblF n s)) k).length = 2 * n := by rw [row_mkT _ _ _ hkl, length_partRow]
      have HRL := Lib.hid hrl
      have hout := hg.lt
      have HO := Lib.hid hout
      clear hrl hout
      go_loopw [7, 8] (fun v y wr => ∃ j : Nat, j ≤ 2 * n ∧ y = .int .i64 j ∧ GrowI 2 w2.heap.size wr v ((row (mkT (2 * n) (dblF n s)) k).take j) ∧ v ≠ .slice none 0 0 ∧ Ext w2 wr) (fun _ y _ => 2 * n - (intOf y).toNat)
      case atStart => exact ⟨0, Nat.zero_le _, rfl, hi0, by simp, hxa⟩
      case round =>
        clear hxa hi0
        obtain ⟨j, hj, rfl, hi, hvr, hx2⟩ := hrel
        have HVR := Lib.hid hvr
        clear hvr
        by_cases hjl : j < 2 * n
        case neg =>
          have hta : (row (mkT (2 * n) (dblF n s)) k).take j = row (mkT (2 * n) (dblF n s)) k := List.take_of_length_le (by rw [HRL.out]; omega)
          rw [hta] at hi
          obtain ⟨br, cr, rfl, hoi⟩ := hi.own HVR.out
          have htl : ((mkT (2 * n) (dblF n s)).take k).length = k := by rw [List.length_take, HLT.out]; omega
          have HTL := Lib.hid htl
          go_wp2_with (at_builtin; refine wpList_append_row_mine rfl _ _ 25 rfl Try.underlying25 infoSl w.heap.size _ _ rfl hg (hx2.trans (ext_box _ _ _)) _ br cr _ rfl (cell_new _ _ _) (OwnI.alloc1 hoi) (by rw [HTL.out]; omega) (by have := hx.size; omega) ?_)
          intro v' w3 hg3 hgr hv3 hat3
          have hx3 : Ext w w3 := (hx.trans (hx2.trans (ext_box _ _ _))).grownOwn hgr (fun g e => (HO.out g e).1)
          clear hgr hat3
          go_wp2
          go_roundw
          case rel => exact ⟨k + 1, by omega, by go_num, by rw [take_row _ _ (by rw [HLT.out]; exact hkl)]; exact hg3, hv3, hx3⟩
          case measure => simp [intOf]; omega
        case pos =>
          have hlj : ((row (mkT (2 * n) (dblF n s)) k).take j).length = j := by rw [List.length_take, HRL.out]; omega
          have HLJ := Lib.hid hlj
          clear hlj
          have hk0 := Int.emod_nonneg (k : Int) (b := (n : Int)) (by omega)
          have hk1 := Int.emod_lt_of_pos (k : Int) (b := (n : Int)) (by omega)
          have hj0 := Int.emod_nonneg (j : Int) (b := (n : Int)) (by omega)
          have hj1 := Int.emod_lt_of_pos (j : Int) (b := (n : Int)) (by omega)
          have p0 := Int.emod_nonneg ((k : Int) + (j : Int)) (b := (n : Int)) (by omega)
          have p1 := Int.emod_lt_of_pos ((k : Int) + (j : Int)) (b := (n : Int)) (by omega)
          have q0 := Int.emod_nonneg ((k : Int) - (j : Int)) (b := (n : Int)) (by omega)
          have q1 := Int.emod_lt_of_pos ((k : Int) - (j : Int)) (b := (n : Int)) (by omega)
          have hjI : (j : Int) < 2 * (n : Int) := by omega
          go_wp2
          go_quiet (fail)
          obtain ⟨w4, hw4⟩ : ∃ w4 : World, w4 = wr.drewN nq := ⟨_, rfl⟩
          have hx4 : Ext w2 w4 := by rw [hw4]; exact hx2.drewN _
          have hi4 : GrowI 2 w2.heap.size w4 u7 ((row (mkT (2 * n) (dblF n s)) k).take j) := by rw [hw4]; exact hi.ext ((Ext.refl _).drewN _)
          rw [← hw4]
          clear hw4 hi hx2
          by_cases hkn : k < n <;> by_cases hjn : j < n
          all_goals
            go_wp2_with (at_builtin; refine wpList_append_int rfl _ _ 45 2 rfl Try.underlying45 infoInt w2.heap.size _ _ rfl (hi4.alloc _) _ _ rfl (cell_new _ _ _) (by rw [HLJ.out]; omega) (by have := hx4.size; simp; omega) ?_)
            intro v' w3 hi3 hgr hv3
            have hx3 : Ext w2 w3 := (hx4.trans (ext_box _ _ _)).grown hgr (hi4.alloc _) (Nat.le_refl _)
            clear hgr
            go_wp2
            go_roundw
            case rel => exact ⟨j + 1, by omega, by go_num, by
              rw [take_ix _ _ (by rw [HRL.out]; exact hjl), row_mkT _ _ _ hkl, ix_partRow _ _ _ _ _ hjl, if_pos hjl]
              rw [row_mkT _ _ _ hkl] at hi3
              first
                | (rw [dblF_1 ‹_› ‹_›]; exact hi3)
                | (rw [dblF_2 ‹_› (by omega)]; exact hi3)
                | (rw [dblF_3 (by omega) ‹_›]; exact hi3)
                | (rw [dblF_4 (by omega) (by omega)]; exact hi3), hv3, hx3⟩
            case measure => simp [intOf]; omega
end Go.Proofs.Ytbfhecckapgpnaa

/-
  Contracts of the laws' own helpers at racks (the same as at groups).
-/
namespace Go.Proofs.Ytbfhecckapgpnaa
set_option linter.unusedVariables false
set_option linter.unusedSimpArgs false
open Go.RowKit

end Go.Proofs.Ytbfhecckapgpnaa

/-
  l03Alexander of the reference.
-/
namespace Go.Proofs.Ytbfhecckapgpnaa
set_option linter.unusedVariables false
set_option linter.unusedSimpArgs false
open Go.RowKit

set_option maxRecDepth 100000 in
set_option maxHeartbeats 2000000 in
theorem l03Alexander_own (n a b : Nat) (w : World) (h1 : 1 ≤ n) (h2 : n ≤ 12) (ha : a ≤ 12) (hb : b ≤ 12) :
    Calls Try.prog 43 #[.int .i64 n, .int .i64 a, .int .i64 b] w (NewT (mkT n (alF n b a)) w) := by
  have hlt := length_mkT n (alF n b a)
  have HLT := Lib.hid hlt
  clear hlt
  go_enter Try.func43, Try.ntmps43
  go_wp2
  have hx0 : Ext w (w.alloc (.cells #[] 45)) := (Ext.refl _).alloc _
  have hg0 := MineT.lit (lo := w.heap.size) (w := w) (Nat.le_refl _)
  go_loopw [7, 8] (fun v x wr => ∃ k : Nat, k ≤ n ∧ x = .int .i64 k ∧ MineT w.heap.size NoO wr v ((mkT n (alF n b a)).take k) ∧ v ≠ .slice none 0 0 ∧ Ext w wr) (fun _ x _ => n - (intOf x).toNat)
  case atStart => exact ⟨0, Nat.zero_le _, rfl, hg0, by simp, hx0⟩
  case round =>
    clear hx0 hg0
    obtain ⟨k, hk, rfl, hg, hv, hx⟩ := hrel
    have HV := Lib.hid hv
    clear hv
    by_cases hkl : k < n
    case neg =>
      have : (mkT n (alF n b a)).take k = mkT n (alF n b a) := List.take_of_length_le (by rw [HLT.out]; omega)
      rw [this] at hg
      obtain ⟨bq, cq, rfl, hoq⟩ := hg.newT HV.out
      go_wp2
      go_ret
      exact ⟨bq, cq, rfl, hoq, hx⟩
    case pos =>
      go_wp2
      obtain ⟨w2, rfl⟩ : ∃ w2 : World, w2 = wr := ⟨_, rfl⟩
      have hxa : Ext w2 (w2.alloc (.cells #[] 2)) := (Ext.refl _).alloc _
      have hi0 := GrowI.lit (e := 2) (base := w2.heap.size) (w := w2) (Nat.le_refl _)
      have hrl : (row (mkT n (alF n b a)) k).length = n := by rw [row_mkT _ _ _ hkl, length_partRow]
      have HRL := Lib.hid hrl
      have hout := hg.lt
      have HO := Lib.hid hout
      clear hrl hout
      go_loopw [9, 10] (fun v y wr => ∃ j : Nat, j ≤ n ∧ y = .int .i64 j ∧ GrowI 2 w2.heap.size wr v ((row (mkT n (alF n b a)) k).take j) ∧ v ≠ .slice none 0 0 ∧ Ext w2 wr) (fun _ y _ => n - (intOf y).toNat)
      case atStart => exact ⟨0, Nat.zero_le _, rfl, hi0, by simp, hxa⟩
      case round =>
        clear hxa hi0
        obtain ⟨j, hj, rfl, hi, hvr, hx2⟩ := hrel
        have HVR := Lib.hid hvr
        clear hvr
        by_cases hjl : j < n
        case neg =>
          have hta : (row (mkT n (alF n b a)) k).take j = row (mkT n (alF n b a)) k := List.take_of_length_le (by rw [HRL.out]; omega)
          rw [hta] at hi
          obtain ⟨br, cr, rfl, hoi⟩ := hi.own HVR.out
          have htl : ((mkT n (alF n b a)).take k).length = k := by rw [List.length_take, HLT.out]; omega
          have HTL := Lib.hid htl
          go_wp2_with (at_builtin; refine wpList_append_row_mine rfl _ _ 25 rfl Try.underlying25 infoSl w.heap.size _ _ rfl hg (hx2.trans (ext_box _ _ _)) _ br cr _ rfl (cell_new _ _ _) (OwnI.alloc1 hoi) (by rw [HTL.out]; omega) (by have := hx.size; omega) ?_)
          intro v' w3 hg3 hgr hv3 hat3
          have hx3 : Ext w w3 := (hx.trans (hx2.trans (ext_box _ _ _))).grownOwn hgr (fun g e => (HO.out g e).1)
          clear hgr hat3
          go_wp2
          go_roundw
          case rel => exact ⟨k + 1, by omega, by go_num, by rw [take_row _ _ (by rw [HLT.out]; exact hkl)]; exact hg3, hv3, hx3⟩
          case measure => simp [intOf]; omega
        case pos =>
          have hlj : ((row (mkT n (alF n b a)) k).take j).length = j := by rw [List.length_take, HRL.out]; omega
          have HLJ := Lib.hid hlj
          clear hlj
          have hq1 : b * k ≤ 144 := Nat.mul_le_mul hb (by omega : k ≤ 12)
          have hq2 : a * j ≤ 144 := Nat.mul_le_mul ha (by omega : j ≤ 12)
          have hz1 : (b : Int) * (k : Int) ≤ 144 := by exact_mod_cast hq1
          have hz2 : (a : Int) * (j : Int) ≤ 144 := by exact_mod_cast hq2
          have hz3 : 0 ≤ (b : Int) * (k : Int) := Int.mul_nonneg (by omega) (by omega)
          have hz4 : 0 ≤ (a : Int) * (j : Int) := Int.mul_nonneg (by omega) (by omega)
          have hmod := Int.emod_nonneg ((b : Int) * (k : Int) + (a : Int) * (j : Int)) (b := (n : Int)) (by omega)
          go_wp2_with (at_builtin; refine wpList_append_int rfl _ _ 45 2 rfl Try.underlying45 infoInt w2.heap.size _ _ rfl (hi.alloc _) _ _ rfl (cell_new _ _ _) (by rw [HLJ.out]; omega) (by have := hx2.size; simp; omega) ?_)
          intro v' w3 hi3 hgr hv3
          have hx3 : Ext w2 w3 := (hx2.trans (ext_box _ _ _)).grown hgr (hi.alloc _) (Nat.le_refl _)
          clear hgr
          go_wp2
          go_roundw
          case rel => exact ⟨j + 1, by omega, by go_num, by
            rw [take_ix _ _ (by rw [HRL.out]; exact hjl), row_mkT _ _ _ hkl, ix_partRow _ _ _ _ _ hjl, if_pos hjl]
            rw [row_mkT _ _ _ hkl, show (((b : Int) * k + a * j) % n) = alF n b a k j by unfold alF; push_cast; rfl] at hi3
            exact hi3, hv3, hx3⟩
          case measure => simp [intOf]; omega
end Go.Proofs.Ytbfhecckapgpnaa

/-
  Contracts: the cyclic groups and those of two halves: the program; both sides' exported functions.
-/
namespace Go.Proofs.Ytbfhecckapgpnaa
set_option linter.unusedVariables false
set_option linter.unusedSimpArgs false
open Go.RowKit

theorem cyclic1_any (n x y B : Nat) (w : World) (hB : w.cell? ⟨B, 0, none⟩ = some (.int .i64 n)) (h1 : 1 ≤ n) (hn : n ≤ 12) (hx : x < n) (hy : y < n) :
    Calls Try.prog 80 #[.int .i64 x, .int .i64 y, .pointer (some ⟨B, 0, none⟩)] w fun e w' => e = .returned (.int .i64 (cycF n x y)) ∧ Ext w w' := by
  rw [cycF_def]
  go_enter Try.func80, Try.ntmps80
  go_wp2
  go_ret
  exact ⟨rfl, Ext.refl _⟩
theorem callCyclic1 (args : Array Value) (w : World) : (callFunc 80 args).run Try.prog w = .ok (.enter 80 args) w :=
  callFunc_enter Try.func80 (by kernel_rfl) rfl args w

theorem cyclic_any (n : Nat) (w : World) (h1 : 1 ≤ n) (hn : n ≤ 12) :
    Calls Try.prog 46 #[.int .i64 n] w (NewG (mkT n (cycF n)) w) := by
  go_enter Try.func46, Try.ntmps46
  go_wp2_with fail
  have hx0 := ext_box2 w (.int .i64 n) (.slice none 0 0) 3 32
  have c0 : ((w.alloc (.cells #[.int .i64 n] 3)).alloc (.cells #[.slice none 0 0] 32)).cell? ⟨w.heap.size, 0, none⟩ = some (.int .i64 n) := by simp [go_sem]
  refine (tableBy_any n (cycF n) 80 #[.pointer (some ⟨w.heap.size, 0, none⟩)] _ (by omega) callCyclic1 (fun w1 x y hx hxn hyn => by rw [app21]; exact cyclic1_any n x y w.heap.size w1 (hx.cell c0) h1 hn hxn hyn)).mono ?_
  rintro e w1 ⟨b, c, rfl, ho, hx1⟩
  rw [length_mkT] at *
  have f1 := hx1.cell (p := ⟨w.heap.size + 1, 0, none⟩) (v := .slice none 0 0) (by simp [go_sem])
  have f2 := hx1.free (p := ⟨w.heap.size + 1, 0, none⟩) (by simp [go_sem]) (by simp)
  have hsz := hx1.size
  simp at hsz
  go_wp2
  refine bodyPost_ret (v := .agg #[.slice (some ⟨b, 0, none⟩) n c]) (by simp [results, Try.results46, go_sem, f1]) rfl ⟨b, c, by rw [length_mkT], ?_, (hx0.trans hx1).setNew (by simp <;> omega) _⟩
  exact ((ho.setOther (.inl (by simp)) _).mono (by simp <;> omega) (by simp))

end Go.Proofs.Ytbfhecckapgpnaa

/-
  Contracts of CyclicGroup, DihedralGroup, DicyclicGroup: reference and program.
-/
namespace Go.Proofs.Ytbfhecckapgpnaa
set_option linter.unusedVariables false
set_option linter.unusedSimpArgs false
open Go.RowKit

/-- what CyclicGroup gives -/
@[irreducible] def cyclicGroupT (a : Int) : List (List Int) := if 1 ≤ a ∧ a ≤ 12 then (fun n : Nat => mkT n (cycF n)) a.toNat else []
@[irreducible] def cyclicGroupC (a : Int) : Int := if 1 ≤ a ∧ a ≤ 12 then 0 else 2

theorem cyclicGroup_in {n : Nat} (h0 : 1 ≤ n) (h1 : n ≤ 12) : cyclicGroupT n = mkT n (cycF n) ∧ cyclicGroupC n = 0 := by
  unfold cyclicGroupT cyclicGroupC
  rw [if_pos ⟨by omega, by omega⟩, if_pos ⟨by omega, by omega⟩, Int.toNat_natCast]
  exact ⟨rfl, rfl⟩

theorem cyclicGroup_out {a : Int} (h : ¬ (1 ≤ a ∧ a ≤ 12)) : cyclicGroupT a = [] ∧ cyclicGroupC a = 2 := by
  unfold cyclicGroupT cyclicGroupC
  rw [if_neg h, if_neg h]
  exact ⟨rfl, rfl⟩

theorem CyclicGroup_impl (a : Int) (w : World) : Calls Try.prog 11 #[.int .i64 a] w (NewGC (cyclicGroupT a) (cyclicGroupC a) w) := by
  cases hin : inR a 1 12 with
  | false =>
    obtain ⟨eT, eC⟩ := cyclicGroup_out (inR_false.1 hin)
    rw [eT, eC]
    go_enter Try.func11, Try.ntmps11
    go_wp2_with (go_at_call 39; refine (within_any _ _ _ _).mono ?_; rintro e w' ⟨rfl, rfl⟩)
    exact bodyPost_ret (v := .tuple #[.agg #[.slice none 0 0], .int .i64 2]) (by simp [results, Try.results11, go_sem]) rfl ⟨_, rfl, OwnV.nil _ _ _, ext_box _ _ _⟩
  | true =>
    have hb := inR_iff.1 hin
    obtain ⟨n, rfl⟩ := Int.eq_ofNat_of_zero_le (a := a) (by omega)
    obtain ⟨eT, eC⟩ := cyclicGroup_in (n := n) (by omega) (by omega)
    rw [eT, eC]
    have hx0 := ext_box w (.slice none 0 0) 32
    have b0 := cell_new w (.slice none 0 0) 32
    have q0 : (w.alloc (.cells #[.slice none 0 0] 32)).frozen? ⟨w.heap.size, 0, none⟩ = false := by simp
    go_enter Try.func11, Try.ntmps11
    go_wp2_with (go_at_call 39; refine (within_any _ _ _ _).mono ?_; rintro e w' ⟨rfl, rfl⟩)
    refine (cyclic_any n _ (by omega) (by omega)).mono ?_
    rintro e w1 ⟨rb, rc, rfl, ho, hx1⟩
    rw [length_mkT] at *
    have f1 := hx1.cell b0
    have f2 := hx1.free q0 (by simp)
    have hsz := hx1.size
    simp at hsz
    go_wp2
    refine bodyPost_ret (v := .tuple #[.agg #[.slice (some ⟨rb, 0, none⟩) (n) rc], .int .i64 0]) (by simp [results, Try.results11, go_sem, f1]) rfl ⟨_, rfl, ?_, (hx0.trans hx1).setNew (Nat.le_refl _) _⟩
    have := ((ho.setOther (a := ⟨w.heap.size, 0, none⟩) (.inl (by simp)) (.slice (some ⟨rb, 0, none⟩) (n) rc)).mono (lo' := w.heap.size) (hi' := w1.heap.size) (by simp <;> omega) (by simp)).v (small_mkT (by omega) _) rc
    rw [length_mkT] at this
    simpa using this

/-- what DihedralGroup gives -/
@[irreducible] def dihedralGroupT (a : Int) : List (List Int) := if 1 ≤ a ∧ a ≤ 6 then (fun n : Nat => mkT (2 * n) (dblF n 0)) a.toNat else []
@[irreducible] def dihedralGroupC (a : Int) : Int := if 1 ≤ a ∧ a ≤ 6 then 0 else 2

theorem dihedralGroup_in {n : Nat} (h0 : 1 ≤ n) (h1 : n ≤ 6) : dihedralGroupT n = mkT (2 * n) (dblF n 0) ∧ dihedralGroupC n = 0 := by
  unfold dihedralGroupT dihedralGroupC
  rw [if_pos ⟨by omega, by omega⟩, if_pos ⟨by omega, by omega⟩, Int.toNat_natCast]
  exact ⟨rfl, rfl⟩

theorem dihedralGroup_out {a : Int} (h : ¬ (1 ≤ a ∧ a ≤ 6)) : dihedralGroupT a = [] ∧ dihedralGroupC a = 2 := by
  unfold dihedralGroupT dihedralGroupC
  rw [if_neg h, if_neg h]
  exact ⟨rfl, rfl⟩

/-- what DicyclicGroup gives -/
@[irreducible] def dicyclicGroupT (a : Int) : List (List Int) := if 2 ≤ a ∧ a ≤ 3 then (fun n : Nat => mkT (2 * (2 * n)) (dblF (2 * n) n)) a.toNat else []
@[irreducible] def dicyclicGroupC (a : Int) : Int := if 2 ≤ a ∧ a ≤ 3 then 0 else 2

theorem dicyclicGroup_in {n : Nat} (h0 : 2 ≤ n) (h1 : n ≤ 3) : dicyclicGroupT n = mkT (2 * (2 * n)) (dblF (2 * n) n) ∧ dicyclicGroupC n = 0 := by
  unfold dicyclicGroupT dicyclicGroupC
  rw [if_pos ⟨by omega, by omega⟩, if_pos ⟨by omega, by omega⟩, Int.toNat_natCast]
  exact ⟨rfl, rfl⟩

theorem dicyclicGroup_out {a : Int} (h : ¬ (2 ≤ a ∧ a ≤ 3)) : dicyclicGroupT a = [] ∧ dicyclicGroupC a = 2 := by
  unfold dicyclicGroupT dicyclicGroupC
  rw [if_neg h, if_neg h]
  exact ⟨rfl, rfl⟩

end Go.Proofs.Ytbfhecckapgpnaa
