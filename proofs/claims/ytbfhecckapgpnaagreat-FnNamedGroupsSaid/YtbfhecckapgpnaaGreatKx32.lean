/-
  Contract (new memory)s: the cyclic groups and those of two halves, by formulas: reference.
-/
import Derived.Test.YtbfhecckapgpnaaGreatProg
import Derived.Test.YtbfhecckapgpnaaGreatKx0
import Derived.Test.YtbfhecckapgpnaaGreatKx1
import Derived.Test.YtbfhecckapgpnaaGreatKx2
import Derived.Test.YtbfhecckapgpnaaGreatKx8
import Derived.Test.YtbfhecckapgpnaaGreatKx5
import Derived.Test.YtbfhecckapgpnaaGreatKx6
import Derived.Test.YtbfhecckapgpnaaGreatKx9
import Derived.Test.YtbfhecckapgpnaaGreatKx7
import Derived.Test.YtbfhecckapgpnaaGreatKx10
import Derived.Test.YtbfhecckapgpnaaGreatKx13
import Derived.Test.YtbfhecckapgpnaaGreatKx28
import Derived.Test.YtbfhecckapgpnaaGreatKx29
import Derived.Test.YtbfhecckapgpnaaGreatKx12
namespace Go.Proofs.YtbfhecckapgpnaaGreat
set_option linter.unusedVariables false
set_option linter.unusedSimpArgs false
open Go.RowKit

set_option maxRecDepth 100000 in
theorem l10Cyclic_own (n : Nat) (w : World) (h1 : 1 ≤ n) (h2 : n ≤ 12) :
    Calls Tryz.prog 98 #[.int .i64 n] w (NewT (mkT n (cycF n)) w) := by
  have hlt := length_mkT n (cycF n)
  have HLT := Lib.hid hlt
  clear hlt
  go_enter Tryz.func98, Tryz.ntmps98
  go_wp2
  have hx0 : Ext w (w.alloc (.cells #[] 46)) := (Ext.refl _).alloc _
  have hg0 := MineT.lit (lo := w.heap.size) (w := w) (Nat.le_refl _)
  go_loopw [3, 4] (fun v x wr => ∃ k : Nat, k ≤ n ∧ x = .int .i64 k ∧ MineT w.heap.size NoO wr v ((mkT n (cycF n)).take k) ∧ v ≠ .slice none 0 0 ∧ Ext w wr) (fun _ x _ => n - (intOf x).toNat)
  case atStart => exact ⟨0, Nat.zero_le _, rfl, hg0, by simp, hx0⟩
  case round =>
    clear hx0 hg0
    obtain ⟨k, hk, rfl, hg, hv, hx⟩ := hrel
    have HV := Lib.hid hv
    clear hv
    by_cases hkl : k < n
    case neg =>
      have : (mkT n (cycF n)).take k = mkT n (cycF n) := List.take_of_length_le (by rw [HLT.out]; omega)
      rw [this] at hg
      obtain ⟨bq, cq, rfl, hoq⟩ := hg.newT HV.out
      go_wp2
      go_ret
      exact ⟨bq, cq, rfl, hoq, hx⟩
    case pos =>
      go_wp2
      obtain ⟨w2, rfl⟩ : ∃ w2 : World, w2 = wr := ⟨_, rfl⟩
      have hxa : Ext w2 (w2.alloc (.cells #[] 2)) := (Ext.refl _).alloc _
      have hi0 := GrowI.lit (e := 2) (base := w2.heap.size) (w := w2) (Nat.le_refl _)
      have hrl : (row (mkT n (cycF n)) k).length = n := by rw [row_mkT _ _ _ hkl, length_partRow]
      have HRL := Lib.hid hrl
      have hout := hg.lt
      have HO := Lib.hid hout
      clear hrl hout
      go_loopw [5, 6] (fun v y wr => ∃ j : Nat, j ≤ n ∧ y = .int .i64 j ∧ GrowI 2 w2.heap.size wr v ((row (mkT n (cycF n)) k).take j) ∧ v ≠ .slice none 0 0 ∧ Ext w2 wr) (fun _ y _ => n - (intOf y).toNat)
      case atStart => exact ⟨0, Nat.zero_le _, rfl, hi0, by simp, hxa⟩
      case round =>
        clear hxa hi0
        obtain ⟨j, hj, rfl, hi, hvr, hx2⟩ := hrel
        have HVR := Lib.hid hvr
        clear hvr
        by_cases hjl : j < n
        case neg =>
          have hta : (row (mkT n (cycF n)) k).take j = row (mkT n (cycF n)) k := List.take_of_length_le (by rw [HRL.out]; omega)
          rw [hta] at hi
          obtain ⟨br, cr, rfl, hoi⟩ := hi.own HVR.out
          have htl : ((mkT n (cycF n)).take k).length = k := by rw [List.length_take, HLT.out]; omega
          have HTL := Lib.hid htl
          go_wp2_with (at_builtin; refine wpList_append_row_mine rfl _ _ 24 rfl Tryz.underlying24 infoSl w.heap.size _ _ rfl hg (hx2.trans (ext_box _ _ _)) _ br cr _ rfl (cell_new _ _ _) (OwnI.alloc1 hoi) (by rw [HTL.out]; omega) (by have := hx.size; omega) ?_)
          intro v' w3 hg3 hgr hv3 hat3
          have hx3 : Ext w w3 := (hx.trans (hx2.trans (ext_box _ _ _))).grownOwn hgr (fun g e => (HO.out g e).1)
          clear hgr hat3
          go_wp2
          go_roundw
          case rel => exact ⟨k + 1, by omega, by go_num, by rw [take_row _ _ (by rw [HLT.out]; exact hkl)]; exact hg3, hv3, hx3⟩
          case measure => simp [intOf]; omega
        case pos =>
          have hlj : ((row (mkT n (cycF n)) k).take j).length = j := by rw [List.length_take, HRL.out]; omega
          have HLJ := Lib.hid hlj
          clear hlj
          have hmod := Int.emod_nonneg ((k : Int) + (j : Int)) (b := (n : Int)) (by omega)
          go_wp2_with (at_builtin; refine wpList_append_int rfl _ _ 46 2 rfl Tryz.underlying46 infoInt w2.heap.size _ _ rfl (hi.alloc _) _ _ rfl (cell_new _ _ _) (by rw [HLJ.out]; omega) (by have := hx2.size; simp; omega) ?_)
          intro v' w3 hi3 hgr hv3
          have hx3 : Ext w2 w3 := (hx2.trans (ext_box _ _ _)).grown hgr (hi.alloc _) (Nat.le_refl _)
          clear hgr
          go_wp2
          go_roundw
          case rel => exact ⟨j + 1, by omega, by go_num, by
            rw [take_ix _ _ (by rw [HRL.out]; exact hjl), row_mkT _ _ _ hkl, ix_partRow _ _ _ _ _ hjl, if_pos hjl]
            rw [row_mkT _ _ _ hkl, ← cycF_def n k j] at hi3
            exact hi3, hv3, hx3⟩
          case measure => simp [intOf]; omega
end Go.Proofs.YtbfhecckapgpnaaGreat

/-
  Contract (new memory): groups of two halves, by formulas: reference.
-/
namespace Go.Proofs.YtbfhecckapgpnaaGreat
set_option linter.unusedVariables false
set_option linter.unusedSimpArgs false
open Go.RowKit

set_option maxRecDepth 100000 in
set_option maxHeartbeats 1000000 in
theorem l10Double_own (n s : Nat) (w : World) (h1 : 1 ≤ n) (h2 : n ≤ 12) (h3 : s ≤ 12) :
    Calls Tryz.prog 100 #[.int .i64 n, .int .i64 s] w (NewT (mkT (2 * n) (dblF n s)) w) := by
  have hlt := length_mkT (2 * n) (dblF n s)
  have HLT := Lib.hid hlt
  clear hlt
  go_enter Tryz.func100, Tryz.ntmps100
  go_wp2
  have hx0 : Ext w (w.alloc (.cells #[] 46)) := (Ext.refl _).alloc _
  have hg0 := MineT.lit (lo := w.heap.size) (w := w) (Nat.le_refl _)
  go_loopw [5, 6] (fun v x wr => ∃ k : Nat, k ≤ 2 * n ∧ x = .int .i64 k ∧ MineT w.heap.size NoO wr v ((mkT (2 * n) (dblF n s)).take k) ∧ v ≠ .slice none 0 0 ∧ Ext w wr) (fun _ x _ => 2 * n - (intOf x).toNat)
  case atStart => exact ⟨0, Nat.zero_le _, rfl, hg0, by simp, hx0⟩
  case round =>
    clear hx0 hg0
    obtain ⟨k, hk, rfl, hg, hv, hx⟩ := hrel
    have HV := Lib.hid hv
    clear hv
    by_cases hkl : k < 2 * n
    case neg =>
      have : (mkT (2 * n) (dblF n s)).take k = mkT (2 * n) (dblF n s) := List.take_of_length_le (by rw [HLT.out]; omega)
      rw [this] at hg
      obtain ⟨bq, cq, rfl, hoq⟩ := hg.newT HV.out
      go_wp2
      go_ret
      exact ⟨bq, cq, rfl, hoq, hx⟩
    case pos =>
      have hkI : (k : Int) < 2 * (n : Int) := by omega
      go_wp2
      obtain ⟨w2, rfl⟩ : ∃ w2 : World, w2 = wr := ⟨_, rfl⟩
      have hxa : Ext w2 (w2.alloc (.cells #[] 2)) := (Ext.refl _).alloc _
      have hi0 := GrowI.lit (e := 2) (base := w2.heap.size) (w := w2) (Nat.le_refl _)
      have hrl : (row (mkT (2 * n) (dblF n s)) k).length = 2 * n := by rw [row_mkT _ _ _ hkl, length_partRow]
      have HRL := Lib.hid hrl
      have hout := hg.lt
      have HO := Lib.hid hout
      clear hrl hout
      go_loopw [7, 8] (fun v y wr => ∃ j : Nat, j ≤ 2 * n ∧ y = .int .i64 j ∧ GrowI 2 w2.heap.size wr v ((row (mkT (2 * n) (dblF n s)) k).take j) ∧ v ≠ .slice none 0 0 ∧ Ext w2 wr) (fun _ y _ => 2 * n - (intOf y).toNat)
      case atStart => exact ⟨0, Nat.zero_le _, rfl, hi0, by simp, hxa⟩
      case round =>
        clear hxa hi0
        obtain ⟨j, hj, rfl, hi, hvr, hx2⟩ := hrel
        have HVR := Lib.hid hvr
        clear hvr
        by_cases hjl : j < 2 * n
        case neg =>
          have hta : (row (mkT (2 * n) (dblF n s)) k).take j = row (mkT (2 * n) (dblF n s)) k := List.take_of_length_le (by rw [HRL.out]; omega)
          rw [hta] at hi
          obtain ⟨br, cr, rfl, hoi⟩ := hi.own HVR.out
          have htl : ((mkT (2 * n) (dblF n s)).take k).length = k := by rw [List.length_take, HLT.out]; omega
          have HTL := Lib.hid htl
          go_wp2_with (at_builtin; refine wpList_append_row_mine rfl _ _ 24 rfl Tryz.underlying24 infoSl w.heap.size _ _ rfl hg (hx2.trans (ext_box _ _ _)) _ br cr _ rfl (cell_new _ _ _) (OwnI.alloc1 hoi) (by rw [HTL.out]; omega) (by have := hx.size; omega) ?_)
          intro v' w3 hg3 hgr hv3 hat3
          have hx3 : Ext w w3 := (hx.trans (hx2.trans (ext_box _ _ _))).grownOwn hgr (fun g e => (HO.out g e).1)
          clear hgr hat3
          go_wp2
          go_roundw
          case rel => exact ⟨k + 1, by omega, by go_num, by rw [take_row _ _ (by rw [HLT.out]; exact hkl)]; exact hg3, hv3, hx3⟩
          case measure => simp [intOf]; omega
        case pos =>
          have hlj : ((row (mkT (2 * n) (dblF n s)) k).take j).length = j := by rw [List.length_take, HRL.out]; omega
          have HLJ := Lib.hid hlj
          clear hlj
          have hk0 := Int.emod_nonneg (k : Int) (b := (n : Int)) (by omega)
          have hk1 := Int.emod_lt_of_pos (k : Int) (b := (n : Int)) (by omega)
          have hj0 := Int.emod_nonneg (j : Int) (b := (n : Int)) (by omega)
          have hj1 := Int.emod_lt_of_pos (j : Int) (b := (n : Int)) (by omega)
          have p0 := Int.emod_nonneg ((k : Int) + (j : Int)) (b := (n : Int)) (by omega)
          have p1 := Int.emod_lt_of_pos ((k : Int) + (j : Int)) (b := (n : Int)) (by omega)
          have q0 := Int.emod_nonneg ((k : Int) - (j : Int)) (b := (n : Int)) (by omega)
          have q1 := Int.emod_lt_of_pos ((k : Int) - (j : Int)) (b := (n : Int)) (by omega)
          have hjI : (j : Int) < 2 * (n : Int) := by omega
          go_wp2
          go_quiet (fail)
          obtain ⟨w4, hw4⟩ : ∃ w4 : World, w4 = wr.drewN nq := ⟨_, rfl⟩
          have hx4 : Ext w2 w4 := by rw [hw4]; exact hx2.drewN _
          have hi4 : GrowI 2 w2.heap.size w4 u7 ((row (mkT (2 * n) (dblF n s)) k).take j) := by rw [hw4]; exact hi.ext ((Ext.refl _).drewN _)
          rw [← hw4]
          clear hw4 hi hx2
          by_cases hkn : k < n <;> by_cases hjn : j < n
          all_goals
            go_wp2_with (at_builtin; refine wpList_append_int rfl _ _ 46 2 rfl Tryz.underlying46 infoInt w2.heap.size _ _ rfl (hi4.alloc _) _ _ rfl (cell_new _ _ _) (by rw [HLJ.out]; omega) (by have := hx4.size; simp; omega) ?_)
            intro v' w3 hi3 hgr hv3
            have hx3 : Ext w2 w3 := (hx4.trans (ext_box _ _ _)).grown hgr (hi4.alloc _) (Nat.le_refl _)
            clear hgr
            go_wp2
            go_roundw
            case rel => exact ⟨j + 1, by omega, by go_num, by
              rw [take_ix _ _ (by rw [HRL.out]; exact hjl), row_mkT _ _ _ hkl, ix_partRow _ _ _ _ _ hjl, if_pos hjl]
              rw [row_mkT _ _ _ hkl] at hi3
              first
                | (rw [dblF_1 ‹_› ‹_›]; exact hi3)
                | (rw [dblF_2 ‹_› (by omega)]; exact hi3)
                | (rw [dblF_3 (by omega) ‹_›]; exact hi3)
                | (rw [dblF_4 (by omega) (by omega)]; exact hi3), hv3, hx3⟩
            case measure => simp [intOf]; omega
end Go.Proofs.YtbfhecckapgpnaaGreat

/-
  The laws' own helpers at lists of groups.
-/
namespace Go.Proofs.YtbfhecckapgpnaaGreat
set_option linter.unusedVariables false
set_option linter.unusedSimpArgs false
open Go.RowKit

/-- where table i begins -/
def startD (ts : List (List (List Int))) (k : Int) : Nat → Int
  | 0 => k
  | i + 1 => startD ts k i + total (tab ts i)
def totalD (ts : List (List (List Int))) : Int := startD ts 0 ts.length
theorem startD_add (ts : List (List (List Int))) (k : Int) : ∀ i : Nat, startD ts k i = k + startD ts 0 i
  | 0 => by simp [startD]
  | i + 1 => by simp only [startD]; rw [startD_add ts k i]; omega
def markD (ts : List (List (List Int))) (k : Int) (m : Nat) : List (List (List Int)) := (List.range ts.length).map fun i => if i < m then markTo (tab ts i) (startD ts k i) (tab ts i).length else tab ts i
@[simp] theorem length_markD (ts : List (List (List Int))) (k : Int) (m : Nat) : (markD ts k m).length = ts.length := by simp [markD]
theorem tab_markD (ts : List (List (List Int))) (k : Int) (m i : Nat) (h : i < ts.length) : tab (markD ts k m) i = if i < m then markTo (tab ts i) (startD ts k i) (tab ts i).length else tab ts i := by
  rw [tab_eq]; simp [markD, List.getD, h]
/-- few tables, all small -/
def SmallD (ts : List (List (List Int))) : Prop := ts.length ≤ 16 ∧ ∀ i, Small (tab ts i)
theorem startD_le {ts : List (List (List Int))} (hs : ∀ i, Small (tab ts i)) (k : Int) : ∀ i : Nat, k ≤ startD ts k i ∧ startD ts k i ≤ k + i * 1099511627776
  | 0 => by simp [startD]
  | i + 1 => by
    have h1 := startD_le hs k i
    have h2 := total_nonneg (tab ts i)
    have h3 := total_le (tab ts i) (hs i)
    simp only [startD]
    omega
theorem totalD_le {ts : List (List (List Int))} (h : SmallD ts) : 0 ≤ totalD ts ∧ totalD ts ≤ 17592186044416 := by
  have := startD_le h.2 0 ts.length
  have h1 := h.1
  unfold totalD
  omega

/-- v is a list of the tables ts (nil perhaps) -/
def TabsR (w : World) (v : Value) (ts : List (List (List Int))) : Prop :=
  ∃ a c, v = .slice a ts.length c ∧ (ts ≠ [] → ∃ b o, a = some ⟨b, o, none⟩ ∧ ∀ i, i < ts.length → ∃ r, w.cell? ⟨b, o + i, none⟩ = some r ∧ RowsR w r (tab ts i))
theorem TabsR.ext {w w' : World} {v : Value} {ts : List (List (List Int))} (h : TabsR w v ts) (hx : Ext w w') : TabsR w' v ts := by
  obtain ⟨a, c, rfl, h⟩ := h
  refine ⟨a, c, rfl, fun hl => ?_⟩
  obtain ⟨b, o, rfl, hc⟩ := h hl
  exact ⟨b, o, rfl, fun i hi => by obtain ⟨r, h1, h2⟩ := hc i hi; exact ⟨r, hx.cell h1, h2.ext hx⟩⟩
/-- .. in memory of the call's own, each table in blocks apart -/
def OwnDs (lo hi : Nat) (w : World) (v : Value) (ts : List (List (List Int))) : Prop :=
  ∃ a c, v = .slice a ts.length c ∧ (ts ≠ [] → ∃ b, a = some ⟨b, 0, none⟩ ∧ lo ≤ b ∧ b < hi ∧ ∃ L H : Nat → Nat,
    (∀ i, i < ts.length → lo ≤ L i ∧ H i ≤ hi ∧ (b < L i ∨ H i ≤ b) ∧ ∃ r, w.cell? ⟨b, i, none⟩ = some r ∧ OwnV (L i) (H i) w r (tab ts i)) ∧
    ∀ i j, i < ts.length → j < ts.length → i ≠ j → H i ≤ L j ∨ H j ≤ L i)
theorem OwnDs.nil (lo hi : Nat) (w : World) : OwnDs lo hi w (.slice none 0 0) [] := ⟨none, 0, rfl, fun h => absurd rfl h⟩
theorem OwnDs.toR {lo hi : Nat} {w : World} {v : Value} {ts : List (List (List Int))} (h : OwnDs lo hi w v ts) : TabsR w v ts := by
  obtain ⟨a, c, rfl, h⟩ := h
  refine ⟨a, c, rfl, fun hl => ?_⟩
  obtain ⟨b, rfl, -, -, L, H, hc, -⟩ := h hl
  exact ⟨b, 0, rfl, fun i hi => by obtain ⟨-, -, -, r, h1, h2⟩ := hc i hi; exact ⟨r, by rw [Nat.zero_add]; exact h1, h2.toR⟩⟩
theorem OwnDs.ext {lo hi : Nat} {w w' : World} {v : Value} {ts : List (List (List Int))} (h : OwnDs lo hi w v ts) (hx : Ext w w') (hh : hi ≤ w.heap.size) : OwnDs lo hi w' v ts := by
  obtain ⟨a, c, rfl, h⟩ := h
  refine ⟨a, c, rfl, fun hl => ?_⟩
  obtain ⟨b, rfl, h1, h2, L, H, hc, hd⟩ := h hl
  exact ⟨b, rfl, h1, h2, L, H, fun i hi => by obtain ⟨g1, g2, g3, r, g4, g5⟩ := hc i hi; exact ⟨g1, g2, g3, r, hx.cell g4, g5.ext hx (by omega)⟩, hd⟩
theorem OwnDs.mono {lo hi lo' hi' : Nat} {w : World} {v : Value} {ts : List (List (List Int))} (h : OwnDs lo hi w v ts) (k1 : lo' ≤ lo) (k2 : hi ≤ hi') : OwnDs lo' hi' w v ts := by
  obtain ⟨a, c, rfl, h⟩ := h
  refine ⟨a, c, rfl, fun hl => ?_⟩
  obtain ⟨b, rfl, h1, h2, L, H, hc, hd⟩ := h hl
  exact ⟨b, rfl, by omega, by omega, L, H, fun i hi => by obtain ⟨g1, g2, g3, r⟩ := hc i hi; exact ⟨by omega, by omega, g3, r⟩, hd⟩
theorem OwnDs.touch {lo hi lo' hi' : Nat} {w w' : World} {v : Value} {ts : List (List (List Int))} (h : OwnDs lo hi w v ts) (m : Touch lo' hi' w w') (hd : hi ≤ lo' ∨ hi' ≤ lo) (hw : hi ≤ w.heap.size) : OwnDs lo hi w' v ts := by
  obtain ⟨a, c, rfl, h⟩ := h
  refine ⟨a, c, rfl, fun hl => ?_⟩
  obtain ⟨b, rfl, h1, h2, L, H, hc, hd2⟩ := h hl
  exact ⟨b, rfl, h1, h2, L, H, fun i hi => by obtain ⟨g1, g2, g3, r, g4, g5⟩ := hc i hi; exact ⟨g1, g2, g3, r, m.cell g4 (by simp only []; omega), g5.touch m (by omega) (by omega)⟩, hd2⟩

end Go.Proofs.YtbfhecckapgpnaaGreat

/-
  Contracts: the cyclic groups and those of two halves: the program; both sides' exported functions.
-/
namespace Go.Proofs.YtbfhecckapgpnaaGreat
set_option linter.unusedVariables false
set_option linter.unusedSimpArgs false
open Go.RowKit

theorem cyclic1_any (n x y B : Nat) (w : World) (hB : w.cell? ⟨B, 0, none⟩ = some (.int .i64 n)) (h1 : 1 ≤ n) (hn : n ≤ 12) (hx : x < n) (hy : y < n) :
    Calls Tryz.prog 118 #[.int .i64 x, .int .i64 y, .pointer (some ⟨B, 0, none⟩)] w fun e w' => e = .returned (.int .i64 (cycF n x y)) ∧ Ext w w' := by
  rw [cycF_def]
  go_enter Tryz.func118, Tryz.ntmps118
  go_wp2
  go_ret
  exact ⟨rfl, Ext.refl _⟩
theorem callCyclic1 (args : Array Value) (w : World) : (callFunc 118 args).run Tryz.prog w = .ok (.enter 118 args) w :=
  callFunc_enter Tryz.func118 (by kernel_rfl) rfl args w

set_option maxRecDepth 100000 in
theorem twoHalves1_any (n s x y B C : Nat) (w : World) (hB : w.cell? ⟨B, 0, none⟩ = some (.int .i64 n)) (hC : w.cell? ⟨C, 0, none⟩ = some (.int .i64 s)) (h1 : 1 ≤ n) (hn : n ≤ 12) (hs : s ≤ 12) (hx : x < 2 * n) (hy : y < 2 * n) :
    Calls Tryz.prog 119 #[.int .i64 x, .int .i64 y, .pointer (some ⟨B, 0, none⟩), .pointer (some ⟨C, 0, none⟩)] w fun e w' => e = .returned (.int .i64 (dblF n s x y)) ∧ Ext w w' := by
  have hk0 := Int.emod_nonneg (x : Int) (b := (n : Int)) (by omega)
  have hk1 := Int.emod_lt_of_pos (x : Int) (b := (n : Int)) (by omega)
  have hj0 := Int.emod_nonneg (y : Int) (b := (n : Int)) (by omega)
  have hj1 := Int.emod_lt_of_pos (y : Int) (b := (n : Int)) (by omega)
  have p0 := Int.emod_nonneg ((x : Int) + (y : Int)) (b := (n : Int)) (by omega)
  have p1 := Int.emod_lt_of_pos ((x : Int) + (y : Int)) (b := (n : Int)) (by omega)
  have q0 := Int.emod_nonneg ((x : Int) - (y : Int)) (b := (n : Int)) (by omega)
  have q1 := Int.emod_lt_of_pos ((x : Int) - (y : Int)) (b := (n : Int)) (by omega)
  by_cases hxn : x < n <;> by_cases hyn : y < n
  · rw [dblF_1 hxn hyn]
    go_enter Tryz.func119, Tryz.ntmps119
    go_wp2
    go_quiet (fail)
    go_wp2
    go_ret
    exact ⟨ret_int (by first | rfl | simp), (Ext.refl _).drewN _⟩
  · rw [dblF_2 hxn hyn]
    go_enter Tryz.func119, Tryz.ntmps119
    go_wp2
    go_quiet (fail)
    go_wp2
    go_quiet (fail)
    go_wp2
    go_ret
    exact ⟨ret_int (by first | rfl | simp), ((Ext.refl _).drewN _).drewN _⟩
  · rw [dblF_3 hxn hyn]
    go_enter Tryz.func119, Tryz.ntmps119
    go_wp2
    go_quiet (fail)
    go_wp2
    go_quiet (fail)
    go_wp2
    go_ret
    exact ⟨ret_int (by first | rfl | simp), ((Ext.refl _).drewN _).drewN _⟩
  · rw [dblF_4 hxn hyn]
    go_enter Tryz.func119, Tryz.ntmps119
    go_wp2
    go_quiet (fail)
    go_wp2
    go_ret
    exact ⟨ret_int (by first | rfl | simp), (Ext.refl _).drewN _⟩
theorem callTwoHalves1 (args : Array Value) (w : World) : (callFunc 119 args).run Tryz.prog w = .ok (.enter 119 args) w :=
  callFunc_enter Tryz.func119 (by kernel_rfl) rfl args w

theorem cyclic_any (n : Nat) (w : World) (h1 : 1 ≤ n) (hn : n ≤ 12) :
    Calls Tryz.prog 93 #[.int .i64 n] w (NewG (mkT n (cycF n)) w) := by
  go_enter Tryz.func93, Tryz.ntmps93
  go_wp2_with fail
  have hx0 := ext_box2 w (.int .i64 n) (.slice none 0 0) 3 26
  have c0 : ((w.alloc (.cells #[.int .i64 n] 3)).alloc (.cells #[.slice none 0 0] 26)).cell? ⟨w.heap.size, 0, none⟩ = some (.int .i64 n) := by simp [go_sem]
  refine (tableBy_any n (cycF n) 118 #[.pointer (some ⟨w.heap.size, 0, none⟩)] _ (by omega) callCyclic1 (fun w1 x y hx hxn hyn => by rw [app21]; exact cyclic1_any n x y w.heap.size w1 (hx.cell c0) h1 hn hxn hyn)).mono ?_
  rintro e w1 ⟨b, c, rfl, ho, hx1⟩
  rw [length_mkT] at *
  have f1 := hx1.cell (p := ⟨w.heap.size + 1, 0, none⟩) (v := .slice none 0 0) (by simp [go_sem])
  have f2 := hx1.free (p := ⟨w.heap.size + 1, 0, none⟩) (by simp [go_sem]) (by simp)
  have hsz := hx1.size
  simp at hsz
  go_wp2
  refine bodyPost_ret (v := .agg #[.slice (some ⟨b, 0, none⟩) n c]) (by simp [results, Tryz.results93, go_sem, f1]) rfl ⟨b, c, by rw [length_mkT], ?_, (hx0.trans hx1).setNew (by simp <;> omega) _⟩
  exact ((ho.setOther (.inl (by simp)) _).mono (by simp <;> omega) (by simp))

theorem twoHalves_any (n s : Nat) (w : World) (h1 : 1 ≤ n) (hn : n ≤ 12) (hs : s ≤ 12) :
    Calls Tryz.prog 94 #[.int .i64 n, .int .i64 s] w (NewG (mkT (2 * n) (dblF n s)) w) := by
  go_enter Tryz.func94, Tryz.ntmps94
  go_wp2_with fail
  have hx0 : Ext w (((w.alloc (.cells #[.int .i64 n] 3)).alloc (.cells #[.int .i64 s] 3)).alloc (.cells #[.slice none 0 0] 26)) := (ext_box2 w _ _ _ _).alloc _
  have c0 : (((w.alloc (.cells #[.int .i64 n] 3)).alloc (.cells #[.int .i64 s] 3)).alloc (.cells #[.slice none 0 0] 26)).cell? ⟨w.heap.size, 0, none⟩ = some (.int .i64 n) := by simp [go_sem]
  have d0 : (((w.alloc (.cells #[.int .i64 n] 3)).alloc (.cells #[.int .i64 s] 3)).alloc (.cells #[.slice none 0 0] 26)).cell? ⟨w.heap.size + 1, 0, none⟩ = some (.int .i64 s) := by simp [go_sem]
  rw [show (2 * (n : Int)) = ((2 * n : Nat) : Int) by omega]
  refine (tableBy_any (2 * n) (dblF n s) 119 #[.pointer (some ⟨w.heap.size, 0, none⟩), .pointer (some ⟨w.heap.size + 1, 0, none⟩)] _ (by omega) callTwoHalves1 (fun w1 x y hx hxn hyn => by rw [app22]; exact twoHalves1_any n s x y w.heap.size (w.heap.size + 1) w1 (hx.cell c0) (hx.cell d0) h1 hn hs hxn hyn)).mono ?_
  rintro e w1 ⟨b, c, rfl, ho, hx1⟩
  rw [length_mkT] at *
  have f1 := hx1.cell (p := ⟨w.heap.size + 1 + 1, 0, none⟩) (v := .slice none 0 0) (by simp [go_sem])
  have f2 := hx1.free (p := ⟨w.heap.size + 1 + 1, 0, none⟩) (by simp [go_sem]) (by simp)
  have hsz := hx1.size
  simp at hsz
  go_wp2
  refine bodyPost_ret (v := .agg #[.slice (some ⟨b, 0, none⟩) (2 * n) c]) (by simp [results, Tryz.results94, go_sem, f1]) rfl ⟨b, c, by rw [length_mkT], ?_, (hx0.trans hx1).setNew (by simp <;> omega) _⟩
  exact ((ho.setOther (.inl (by simp)) _).mono (by simp <;> omega) (by simp))
end Go.Proofs.YtbfhecckapgpnaaGreat

/-
  Contracts of CyclicGroup, DihedralGroup, DicyclicGroup: reference and program.
-/
namespace Go.Proofs.YtbfhecckapgpnaaGreat
set_option linter.unusedVariables false
set_option linter.unusedSimpArgs false
open Go.RowKit

end Go.Proofs.YtbfhecckapgpnaaGreat
