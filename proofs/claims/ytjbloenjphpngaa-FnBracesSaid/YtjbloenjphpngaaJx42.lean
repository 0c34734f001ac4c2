/-
  Contract (new memory)s: the cyclic groups and those of two halves, by formulas: reference.
-/
import Derived.Test.YtjbloenjphpngaaProg
import Derived.Test.YtjbloenjphpngaaJx0
import Derived.Test.YtjbloenjphpngaaJx1
import Derived.Test.YtjbloenjphpngaaJx2
import Derived.Test.YtjbloenjphpngaaJx8
import Derived.Test.YtjbloenjphpngaaJx10
import Derived.Test.YtjbloenjphpngaaJx3
import Derived.Test.YtjbloenjphpngaaJx4
import Derived.Test.YtjbloenjphpngaaJx5
import Derived.Test.YtjbloenjphpngaaJx14
import Derived.Test.YtjbloenjphpngaaJx9
import Derived.Test.YtjbloenjphpngaaJx6
import Derived.Test.YtjbloenjphpngaaJx15
import Derived.Test.YtjbloenjphpngaaJx33
import Derived.Test.YtjbloenjphpngaaJx34
import Derived.Test.YtjbloenjphpngaaJx12
import Derived.Test.YtjbloenjphpngaaJx17
namespace Go.Proofs.Ytjbloenjphpngaa
set_option linter.unusedVariables false
set_option linter.unusedSimpArgs false
open Go.RowKit

set_option maxRecDepth 100000 in
theorem l10Cyclic_own (n : Nat) (w : World) (h1 : 1 ≤ n) (h2 : n ≤ 12) :
    Calls Try.prog 60 #[.int .i64 n] w (NewT (mkT n (cycF n)) w) := by
  have hlt := length_mkT n (cycF n)
  have HLT := Lib.hid hlt
  clear hlt
  go_enter Try.func60, Try.ntmps60
  go_wp2
  have hx0 : Ext w (w.alloc (.cells #[] 28)) := (Ext.refl _).alloc _
  have hg0 := MineT.lit (lo := w.heap.size) (w := w) (Nat.le_refl _)
  go_loopw [3, 4] (fun v x wr => ∃ k : Nat, k ≤ n ∧ x = .int .i64 k ∧ MineT w.heap.size NoO wr v ((mkT n (cycF n)).take k) ∧ v ≠ .slice none 0 0 ∧ Ext w wr) (fun _ x _ => n - (intOf x).toNat)
  case atStart => exact ⟨0, Nat.zero_le _, rfl, hg0, by simp, hx0⟩
  case round =>
    clear hx0 hg0
    obtain ⟨k, hk, rfl, hg, hv, hx⟩ := hrel
    have HV := Lib.hid hv
    clear hv
    by_cases hkl : k < n
    case neg =>
      have : (mkT n (cycF n)).take k = mkT n (cycF n) := List.take_of_length_le (by rw [HLT.out]; omega)
      rw [this] at hg
      obtain ⟨bq, cq, rfl, hoq⟩ := hg.newT HV.out
      go_wp2
      go_ret
      exact ⟨bq, cq, rfl, hoq, hx⟩
    case pos =>
      go_wp2
      obtain ⟨w2, rfl⟩ : ∃ w2 : World, w2 = wr := ⟨_, rfl⟩
      have hxa : Ext w2 (w2.alloc (.cells #[] 2)) := (Ext.refl _).alloc _
      have hi0 := GrowI.lit (e := 2) (base := w2.heap.size) (w := w2) (Nat.le_refl _)
      have hrl : (row (mkT n (cycF n)) k).length = n := by rw [row_mkT _ _ _ hkl, length_partRow]
      have HRL := Lib.hid hrl
      have hout := hg.lt
      have HO := Lib.hid hout
      clear hrl hout
      go_loopw [5, 6] (fun v y wr => ∃ j : Nat, j ≤ n ∧ y = .int .i64 j ∧ GrowI 2 w2.heap.size wr v ((row (mkT n (cycF n)) k).take j) ∧ v ≠ .slice none 0 0 ∧ Ext w2 wr) (fun _ y _ => n - (intOf y).toNat)
      case atStart => exact ⟨0, Nat.zero_le _, rfl, hi0, by simp, hxa⟩
      case round =>
        clear hxa hi0
        obtain ⟨j, hj, rfl, hi, hvr, hx2⟩ := hrel
        have HVR := Lib.hid hvr
        clear hvr
        by_cases hjl : j < n
        case neg =>
          have hta : (row (mkT n (cycF n)) k).take j = row (mkT n (cycF n)) k := List.take_of_length_le (by rw [HRL.out]; omega)
          rw [hta] at hi
          obtain ⟨br, cr, rfl, hoi⟩ := hi.own HVR.out
          have htl : ((mkT n (cycF n)).take k).length = k := by rw [List.length_take, HLT.out]; omega
          have HTL := Lib.hid htl
          go_wp2_with (at_builtin; refine wpList_append_row_mine rfl _ _ 24 rfl Try.underlying24 infoSl w.heap.size _ _ rfl hg (hx2.trans (ext_box _ _ _)) _ br cr _ rfl (cell_new _ _ _) (OwnI.alloc1 hoi) (by rw [HTL.out]; omega) (by have := hx.size; omega) ?_)
          intro v' w3 hg3 hgr hv3 hat3
          have hx3 : Ext w w3 := (hx.trans (hx2.trans (ext_box _ _ _))).grownOwn hgr (fun g e => (HO.out g e).1)
          clear hgr hat3
          go_wp2
          go_roundw
          case rel => exact ⟨k + 1, by omega, by go_num, by rw [take_row _ _ (by rw [HLT.out]; exact hkl)]; exact hg3, hv3, hx3⟩
          case measure => simp [intOf]; omega
        case pos =>
          have hlj : ((row (mkT n (cycF n)) k).take j).length = j := by rw [List.length_take, HRL.out]; omega
          have HLJ := Lib.hid hlj
          clear hlj
          have hmod := Int.emod_nonneg ((k : Int) + (j : Int)) (b := (n : Int)) (by omega)
          go_wp2_with (at_builtin; refine wpList_append_int rfl _ _ 28 2 rfl Try.underlying28 infoInt w2.heap.size _ _ rfl (hi.alloc _) _ _ rfl (cell_new _ _ _) (by rw [HLJ.out]; omega) (by have := hx2.size; simp; omega) ?_)
          intro v' w3 hi3 hgr hv3
          have hx3 : Ext w2 w3 := (hx2.trans (ext_box _ _ _)).grown hgr (hi.alloc _) (Nat.le_refl _)
          clear hgr
          go_wp2
          go_roundw
          case rel => exact ⟨j + 1, by omega, by go_num, by
            rw [take_ix _ _ (by rw [HRL.out]; exact hjl), row_mkT _ _ _ hkl, ix_partRow _ _ _ _ _ hjl, if_pos hjl]
            rw [row_mkT _ _ _ hkl, ← cycF_def n k j] at hi3
            exact hi3, hv3, hx3⟩
          case measure => simp [intOf]; omega
end Go.Proofs.Ytjbloenjphpngaa

/-
  Contract (new memory): groups of two halves, by formulas: reference.
-/
namespace Go.Proofs.Ytjbloenjphpngaa
set_option linter.unusedVariables false
set_option linter.unusedSimpArgs false
open Go.RowKit

set_option maxRecDepth 100000 in
set_option maxHeartbeats 1000000 in
theorem l10Double_own (n s : Nat) (w : World) (h1 : 1 ≤ n) (h2 : n ≤ 12) (h3 : s ≤ 12) :
    Calls Try.prog 62 #[.int .i64 n, .int .i64 s] w (NewT (mkT (2 * n) (dblF n s)) w) := by
  have hlt := length_mkT (2 * n) (dblF n s)
  have HLT := Lib.hid hlt
  clear hlt
  go_enter Try.func62, Try.ntmps62
  go_wp2
  have hx0 : Ext w (w.alloc (.cells #[] 28)) := (Ext.refl _).alloc _
  have hg0 := MineT.lit (lo := w.heap.size) (w := w) (Nat.le_refl _)
  go_loopw [5, 6] (fun v x wr => ∃ k : Nat, k ≤ 2 * n ∧ x = .int .i64 k ∧ MineT w.heap.size NoO wr v ((mkT (2 * n) (dblF n s)).take k) ∧ v ≠ .slice none 0 0 ∧ Ext w wr) (fun _ x _ => 2 * n - (intOf x).toNat)
  case atStart => exact ⟨0, Nat.zero_le _, rfl, hg0, by simp, hx0⟩
  case round =>
    clear hx0 hg0
    obtain ⟨k, hk, rfl, hg, hv, hx⟩ := hrel
    have HV := Lib.hid hv
    clear hv
    by_cases hkl : k < 2 * n
    case neg =>
      have : (mkT (2 * n) (dblF n s)).take k = mkT (2 * n) (dblF n s) := List.take_of_length_le (by rw [HLT.out]; omega)
      rw [this] at hg
      obtain ⟨bq, cq, rfl, hoq⟩ := hg.newT HV.out
      go_wp2
      go_ret
      exact ⟨bq, cq, rfl, hoq, hx⟩
    case pos =>
      have hkI : (k : Int) < 2 * (n : Int) := by omega
      go_wp2
      obtain ⟨w2, rfl⟩ : ∃ w2 : World, w2 = wr := ⟨_, rfl⟩
      have hxa : Ext w2 (w2.alloc (.cells #[] 2)) := (Ext.refl _).alloc _
      have hi0 := GrowI.lit (e := 2) (base := w2.heap.size) (w := w2) (Nat.le_refl _)
      have hrl : (row (mkT (2 * n) (dblF n s)) k).length = 2 * n := by rw [row_mkT _ _ _ hkl, length_partRow]
      have HRL := Lib.hid hrl
      have hout := hg.lt
      have HO := Lib.hid hout
      clear hrl hout
      go_loopw [7, 8] (fun v y wr => ∃ j : Nat, j ≤ 2 * n ∧ y = .int .i64 j ∧ GrowI 2 w2.heap.size wr v ((row (mkT (2 * n) (dblF n s)) k).take j) ∧ v ≠ .slice none 0 0 ∧ Ext w2 wr) (fun _ y _ => 2 * n - (intOf y).toNat)
      case atStart => exact ⟨0, Nat.zero_le _, rfl, hi0, by simp, hxa⟩
      case round =>
        clear hxa hi0
        obtain ⟨j, hj, rfl, hi, hvr, hx2⟩ := hrel
        have HVR := Lib.hid hvr
        clear hvr
        by_cases hjl : j < 2 * n
        case neg =>
          have hta : (row (mkT (2 * n) (dblF n s)) k).take j = row (mkT (2 * n) (dblF n s)) k := List.take_of_length_le (by rw [HRL.out]; omega)
          rw [hta] at hi
          obtain ⟨br, cr, rfl, hoi⟩ := hi.own HVR.out
          have htl : ((mkT (2 * n) (dblF n s)).take k).length = k := by rw [List.length_take, HLT.out]; omega
          have HTL := Lib.hid htl
          go_wp2_with (at_builtin; refine wpList_append_row_mine rfl _ _ 24 rfl Try.underlying24 infoSl w.heap.size _ _ rfl hg (hx2.trans (ext_box _ _ _)) _ br cr _ rfl (cell_new _ _ _) (OwnI.alloc1 hoi) (by rw [HTL.out]; omega) (by have := hx.size; omega) ?_)
          intro v' w3 hg3 hgr hv3 hat3
          have hx3 : Ext w w3 := (hx.trans (hx2.trans (ext_box _ _ _))).grownOwn hgr (fun g e => (HO.out g e).1)
          clear hgr hat3
          go_wp2
          go_roundw
          case rel => exact ⟨k + 1, by omega, by go_num, by rw [take_row _ _ (by rw [HLT.out]; exact hkl)]; exact hg3, hv3, hx3⟩
          case measure => simp [intOf]; omega
        case pos =>
          have hlj : ((row (mkT (2 * n) (dblF n s)) k).take j).length = j := by rw [List.length_take, HRL.out]; omega
          have HLJ := Lib.hid hlj
          clear hlj
          have hk0 := Int.emod_nonneg (k : Int) (b := (n : Int)) (by omega)
          have hk1 := Int.emod_lt_of_pos (k : Int) (b := (n : Int)) (by omega)
          have hj0 := Int.emod_nonneg (j : Int) (b := (n : Int)) (by omega)
          have hj1 := Int.emod_lt_of_pos (j : Int) (b := (n : Int)) (by omega)
          have p0 := Int.emod_nonneg ((k : Int) + (j : Int)) (b := (n : Int)) (by omega)
          have p1 := Int.emod_lt_of_pos ((k : Int) + (j : Int)) (b := (n : Int)) (by omega)
          have q0 := Int.emod_nonneg ((k : Int) - (j : Int)) (b := (n : Int)) (by omega)
          have q1 := Int.emod_lt_of_pos ((k : Int) - (j : Int)) (b := (n : Int)) (by omega)
          have hjI : (j : Int) < 2 * (n : Int) := by omega
          go_wp2
          go_quiet (fail)
          obtain ⟨w4, hw4⟩ : ∃ w4 : World, w4 = wr.drewN nq := ⟨_, rfl⟩
          have hx4 : Ext w2 w4 := by rw [hw4]; exact hx2.drewN _
          have hi4 : GrowI 2 w2.heap.size w4 u7 ((row (mkT (2 * n) (dblF n s)) k).take j) := by rw [hw4]; exact hi.ext ((Ext.refl _).drewN _)
          rw [← hw4]
          clear hw4 hi hx2
          by_cases hkn : k < n <;> by_cases hjn : j < n
          all_goals
            go_wp2_with (at_builtin; refine wpList_append_int rfl _ _ 28 2 rfl Try.underlying28 infoInt w2.heap.size _ _ rfl (hi4.alloc _) _ _ rfl (cell_new _ _ _) (by rw [HLJ.out]; omega) (by have := hx4.size; simp; omega) ?_)
            intro v' w3 hi3 hgr hv3
            have hx3 : Ext w2 w3 := (hx4.trans (ext_box _ _ _)).grown hgr (hi4.alloc _) (Nat.le_refl _)
            clear hgr
            go_wp2
            go_roundw
            case rel => exact ⟨j + 1, by omega, by go_num, by
              rw [take_ix _ _ (by rw [HRL.out]; exact hjl), row_mkT _ _ _ hkl, ix_partRow _ _ _ _ _ hjl, if_pos hjl]
              rw [row_mkT _ _ _ hkl] at hi3
              first
                | (rw [dblF_1 ‹_› ‹_›]; exact hi3)
                | (rw [dblF_2 ‹_› (by omega)]; exact hi3)
                | (rw [dblF_3 (by omega) ‹_›]; exact hi3)
                | (rw [dblF_4 (by omega) (by omega)]; exact hi3), hv3, hx3⟩
            case measure => simp [intOf]; omega
end Go.Proofs.Ytjbloenjphpngaa

/-
  Contracts: the cyclic groups and those of two halves: the program; both sides' exported functions.
-/
namespace Go.Proofs.Ytjbloenjphpngaa
set_option linter.unusedVariables false
set_option linter.unusedSimpArgs false
open Go.RowKit

theorem cyclic1_any (n x y B : Nat) (w : World) (hB : w.cell? ⟨B, 0, none⟩ = some (.int .i64 n)) (h1 : 1 ≤ n) (hn : n ≤ 12) (hx : x < n) (hy : y < n) :
    Calls Try.prog 75 #[.int .i64 x, .int .i64 y, .pointer (some ⟨B, 0, none⟩)] w fun e w' => e = .returned (.int .i64 (cycF n x y)) ∧ Ext w w' := by
  rw [cycF_def]
  go_enter Try.func75, Try.ntmps75
  go_wp2
  go_ret
  exact ⟨rfl, Ext.refl _⟩
theorem callCyclic1 (args : Array Value) (w : World) : (callFunc 75 args).run Try.prog w = .ok (.enter 75 args) w :=
  callFunc_enter Try.func75 (by kernel_rfl) rfl args w

theorem cyclic_any (n : Nat) (w : World) (h1 : 1 ≤ n) (hn : n ≤ 12) :
    Calls Try.prog 51 #[.int .i64 n] w (NewG (mkT n (cycF n)) w) := by
  go_enter Try.func51, Try.ntmps51
  go_wp2_with fail
  have hx0 := ext_box2 w (.int .i64 n) (.slice none 0 0) 3 38
  have c0 : ((w.alloc (.cells #[.int .i64 n] 3)).alloc (.cells #[.slice none 0 0] 38)).cell? ⟨w.heap.size, 0, none⟩ = some (.int .i64 n) := by simp [go_sem]
  refine (tableBy_any n (cycF n) 75 #[.pointer (some ⟨w.heap.size, 0, none⟩)] _ (by omega) callCyclic1 (fun w1 x y hx hxn hyn => by rw [app21]; exact cyclic1_any n x y w.heap.size w1 (hx.cell c0) h1 hn hxn hyn)).mono ?_
  rintro e w1 ⟨b, c, rfl, ho, hx1⟩
  rw [length_mkT] at *
  have f1 := hx1.cell (p := ⟨w.heap.size + 1, 0, none⟩) (v := .slice none 0 0) (by simp [go_sem])
  have f2 := hx1.free (p := ⟨w.heap.size + 1, 0, none⟩) (by simp [go_sem]) (by simp)
  have hsz := hx1.size
  simp at hsz
  go_wp2
  refine bodyPost_ret (v := .agg #[.slice (some ⟨b, 0, none⟩) n c]) (by simp [results, Try.results51, go_sem, f1]) rfl ⟨b, c, by rw [length_mkT], ?_, (hx0.trans hx1).setNew (by simp <;> omega) _⟩
  exact ((ho.setOther (.inl (by simp)) _).mono (by simp <;> omega) (by simp))

end Go.Proofs.Ytjbloenjphpngaa

/-
  Contracts of IsTwoSidedBrace.
-/
namespace Go.Proofs.Ytjbloenjphpngaa
set_option linter.unusedVariables false
set_option linter.unusedSimpArgs false
open Go.RowKit

/-- (x + y) o z -/
@[irreducible] def leftS (t u : List (List Int)) (x y z : Nat) : Int := ent u (ent t x y).toNat z
/-- ((x o z) - z) + (y o z) -/
@[irreducible] def rightS (t u : List (List Int)) (x y z : Nat) : Int := ent t (ent t (ent u x z).toNat (backF t z).toNat).toNat (ent u y z).toNat
theorem leftS_def (t u : List (List Int)) (x y z : Nat) : ent u (ent t x y).toNat z = leftS t u x y z := by unfold leftS; rfl
theorem rightS_def (t u : List (List Int)) (x y z : Nat) : ent t (ent t (ent u x z).toNat (backF t z).toNat).toNat (ent u y z).toNat = rightS t u x y z := by unfold rightS; rfl
def TsZ (t u : List (List Int)) (x y k : Nat) : Prop := ∀ z, z < k → leftS t u x y z = rightS t u x y z
def TsY (t u : List (List Int)) (x k : Nat) : Prop := ∀ y, y < k → TsZ t u x y t.length
def TsX (t u : List (List Int)) (k : Nat) : Prop := ∀ x, x < k → TsY t u x t.length
instance (t u x y k) : Decidable (TsZ t u x y k) := by unfold TsZ; infer_instance
instance (t u x k) : Decidable (TsY t u x k) := by unfold TsY; infer_instance
instance (t u k) : Decidable (TsX t u k) := by unfold TsX; infer_instance
@[irreducible] def twoSB (t u : List (List Int)) : Bool := decide (TsX t u t.length)
theorem twoSB_yes {t u} (h : TsX t u t.length) : twoSB t u = true := by unfold twoSB; simpa using h
theorem twoSB_no {t u : List (List Int)} {x y z : Nat} (hx : x < t.length) (hy : y < t.length) (hz : z < t.length) (h : leftS t u x y z ≠ rightS t u x y z) : twoSB t u = false := by
  unfold twoSB
  rw [decide_eq_false_iff_not]
  intro k; exact h (k x hx y hy z hz)
theorem ret_bi {a b : Bool} {k : IntKind} {c : Int} (h : a = b) : Ending.returned (.tuple #[.bool a, .int k c]) = .returned (.tuple #[.bool b, .int k c]) := by rw [h]
theorem l10Back_drawn (t : List (List Int)) (v : Value) (x : Nat) (w : World) (hv : Rows w v t) (hx : x < t.length) :
    Calls Try.prog 67 #[v, .int .i64 x] w fun e w' => e = .returned (.int .i64 (backF t x)) ∧ Drawn w w' :=
  (l10Back_any t v x w hv hx).mono fun _ _ ⟨h1, h2⟩ => ⟨h1, h2 ▸ Drawn.refl _⟩

set_option maxRecDepth 100000 in
set_option maxHeartbeats 2000000 in
theorem IsTwoSidedBrace_impl (t u : List (List Int)) (v y : Value) (w : World) (hv : Rows w v t) (hy : Rows w y u) :
    Calls Try.prog 26 #[.agg #[v, y]] w (RetBI (ifB t u (twoSB t u) false) (codeB t u) w) := by
  obtain ⟨hlen, b, o, c, rfl, hc⟩ := id hv
  obtain ⟨hlen2, b2, o2, c2, rfl, hc2⟩ := id hy
  have hX := ext_boxB w (.slice (some ⟨b, o, none⟩) t.length c) (.slice (some ⟨b2, o2, none⟩) u.length c2) 26
  have k0 := cell_new2a w (.slice (some ⟨b, o, none⟩) t.length c) (.slice (some ⟨b2, o2, none⟩) u.length c2) 26
  have k1 := cell_new2b w (.slice (some ⟨b, o, none⟩) t.length c) (.slice (some ⟨b2, o2, none⟩) u.length c2) 26
  cases hb : braceB t u with
  | false =>
    rw [ifB_no hb, codeB_no hb]
    go_enter Try.func26, Try.ntmps26
    go_wp2_with fail
    refine (IsBrace_impl t u _ _ _ (hv.ext hX) (hy.ext hX)).mono ?_
    rintro e w1 ⟨rfl, hx1⟩
    rw [hb]
    go_wp2
    go_ret2
    exact ⟨rfl, hX.trans hx1⟩
  | true =>
    rw [ifB_yes hb, codeB_yes hb]
    obtain ⟨hG, hU, hL⟩ := braceB_ok hb
    have HL := Lib.hid hL
    have h12 := hG.1.2.1
    have HT := Lib.hid hG
    have HU := Lib.hid hU
    have HB := Lib.hid (fun x (hx : x < t.length) => backF_ok hG hx)
    clear hL hG hU
    go_enter Try.func26, Try.ntmps26
    go_wp2_with fail
    refine (IsBrace_impl t u _ _ _ (hv.ext hX) (hy.ext hX)).mono ?_
    rintro e A ⟨rfl, hx⟩
    rw [hb]
    replace hX := hX.trans hx
    replace k0 := hx.cell k0
    replace k1 := hx.cell k1
    clear hx hb
    go_wp2_with fail
    refine (groupInverses_any t _ _ (hv.ext hX)).mono ?_
    rintro e B ⟨bb, cb, rfl, hib, hx⟩
    replace hX := hX.trans hx
    replace k0 := hx.cell k0
    replace k1 := hx.cell k1
    clear hx
    obtain ⟨A, rfl⟩ : ∃ A : World, A = B := ⟨_, rfl⟩
    rw [← HL.out] at k1
    go_wp2
    go_loopw [17] (fun i wr => ∃ x : Nat, x ≤ t.length ∧ i = .int .i64 x ∧ TsX t u x ∧ Ext A wr) (fun i _ => t.length - (intOf i).toNat)
    case atStart => exact ⟨0, Nat.zero_le _, rfl, all_zero, Ext.refl _⟩
    case round =>
      obtain ⟨x, hx, rfl, hno, hxA⟩ := hrel
      have HX := Lib.hid hno
      clear hno
      have j0 := hxA.cell k0
      have j1 := hxA.cell k1
      by_cases hxl : x < t.length
      case neg =>
        go_wp2
        go_ret2
        have hxx : x = t.length := by omega
        subst hxx
        exact ⟨ret_bi (twoSB_yes HX.out).symm, hX.trans hxA⟩
      case pos =>
        obtain ⟨w2, rfl⟩ : ∃ w2 : World, w2 = wr := ⟨_, rfl⟩
        go_wp2
        go_loopw [23] (fun i wr => ∃ y : Nat, y ≤ t.length ∧ i = .int .i64 y ∧ TsY t u x y ∧ Ext w2 wr) (fun i _ => t.length - (intOf i).toNat)
        case atStart => exact ⟨0, Nat.zero_le _, rfl, all_zero, Ext.refl _⟩
        case round =>
          obtain ⟨y, hyy, rfl, hno, hxB⟩ := hrel
          have HY := Lib.hid hno
          clear hno
          have e0 := hxB.cell j0
          have e1 := hxB.cell j1
          by_cases hyl : y < t.length
          case neg =>
            go_wp2
            go_roundw
            case rel =>
              have hyy : y = t.length := by omega
              subst hyy
              exact ⟨x + 1, by omega, by go_num, all_succ HX.out HY.out, hxA.trans hxB⟩
            case measure => simp [intOf]; omega
          case pos =>
            obtain ⟨w3, rfl⟩ : ∃ w3 : World, w3 = wr := ⟨_, rfl⟩
            go_wp2
            go_loopw [29] (fun i wr => ∃ z : Nat, z ≤ t.length ∧ i = .int .i64 z ∧ TsZ t u x y z ∧ Ext w3 wr) (fun i _ => t.length - (intOf i).toNat)
            case atStart => exact ⟨0, Nat.zero_le _, rfl, all_zero, Ext.refl _⟩
            case round =>
              obtain ⟨z, hzz, rfl, hno, hxC⟩ := hrel
              have HZ := Lib.hid hno
              clear hno
              by_cases hzl : z < t.length
              case neg =>
                go_wp2
                go_roundw
                case rel =>
                  have hzz : z = t.length := by omega
                  subst hzz
                  exact ⟨y + 1, by omega, by go_num, all_succ HY.out HZ.out, hxB.trans hxC⟩
                case measure => simp [intOf]; omega
              case pos =>
                have hXC := (hX.trans hxA).trans (hxB.trans hxC)
                have i0 := hxC.cell e0
                have i1 := hxC.cell e1
                have hb := HB.out z hzl
                have p := HT.out.1.bd hxl hyl
                have q := HU.out.1.bd (x := x) (y := z) (by have := HL.out; omega) (by have := HL.out; omega)
                rw [← HL.out] at q
                have qy := HU.out.1.bd (x := y) (y := z) (by have := HL.out; omega) (by have := HL.out; omega)
                rw [← HL.out] at qy
                obtain ⟨d1, s1, m1, r1, l1, -⟩ := (hc.ext hXC).get (i := x) (by omega)
                obtain ⟨d2, s2, m2, r2, l2, -⟩ := (hc2.ext hXC).get (i := (ent t x y).toNat) (by have := HL.out; omega)
                obtain ⟨d3, s3, m3, r3, l3, -⟩ := (hc2.ext hXC).get (i := x) (by have := HL.out; omega)
                obtain ⟨d4, s4, m4, r4, l4, -⟩ := (hc.ext hXC).get (i := (ent u x z).toNat) (by omega)
                have g := HT.out.1.bd (x := (ent u x z).toNat) (y := (backF t z).toNat) (by omega) (by omega)
                obtain ⟨d5, s5, m5, r5, l5, -⟩ := (hc.ext hXC).get (i := (ent t (ent u x z).toNat (backF t z).toNat).toNat) (by omega)
                obtain ⟨d6, s6, m6, r6, l6, -⟩ := (hc2.ext hXC).get (i := y) (by have := HL.out; omega)
                have n2 := HU.out.1.len (x := (ent t x y).toNat) (by have := HL.out; omega)
                have n3 := HU.out.1.len (x := x) (by have := HL.out; omega)
                have n6 := HU.out.1.len (x := y) (by have := HL.out; omega)
                rw [← HL.out] at n2 n3 n6
                have f1 := l1.ent (HT.out.1.len (x := x) (by omega)) (y := y) (by omega)
                have f2 := l2.ent n2 (y := z) (by omega)
                have f3 := l3.ent n3 (y := z) (by omega)
                have f4 := l4.ent (HT.out.1.len (x := (ent u x z).toNat) (by omega)) (y := (backF t z).toNat) (by omega)
                have f5 := l5.ent (HT.out.1.len (x := (ent t (ent u x z).toNat (backF t z).toNat).toNat) (by omega)) (y := (ent u y z).toNat) (by omega)
                have f6 := l6.ent n6 (y := z) (by omega)
                rw [HT.out.1.len (x := x) (by omega)] at r1
                rw [n2] at r2
                rw [n3] at r3
                rw [HT.out.1.len (x := (ent u x z).toNat) (by omega)] at r4
                rw [HT.out.1.len (x := (ent t (ent u x z).toNat (backF t z).toNat).toNat) (by omega)] at r5
                rw [n6] at r6
                rw [leftS_def] at f2
                rw [rightS_def] at f5
                have ib := (hib.ext (hxA.trans (hxB.trans hxC))) z (by rw [length_backs]; exact hzl)
                rw [ix_backs _ _ hzl, Nat.zero_add] at ib
                clear l1 l2 l3 l4 l5 l6 n2 n3 n6
                cases hne : (leftS t u x y z != rightS t u x y z) with
                | true =>
                  go_wp2
                  go_quiet (fail)
                  go_wp2
                  go_ret2
                  exact ⟨ret_bi (twoSB_no hxl hyl hzl (by simpa using hne)).symm, hXC.drewN _⟩
                | false =>
                  go_wp2
                  go_quiet (fail)
                  go_wp2
                  go_roundw
                  case rel => exact ⟨z + 1, by omega, by go_num, all_succ HZ.out (by simpa using hne), hxC.drewN _⟩
                  case measure => simp [intOf]; omega

end Go.Proofs.Ytjbloenjphpngaa
