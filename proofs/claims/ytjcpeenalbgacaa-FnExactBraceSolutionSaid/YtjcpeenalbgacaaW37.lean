/-
  Contracts of LambdaOf: reference and program.
-/
import Derived.Test.YtjcpeenalbgacaaProg
import Derived.Deep.DeepCutAuto
import Derived.Deep.RegionWith
import Derived.Deep.RegionHeld3
import Derived.Deep.DrawnRows
import Derived.Test.YtjcpeenalbgacaaBase
import Derived.Test.YtjcpeenalbgacaaBase2
import Derived.Test.YtjcpeenalbgacaaRet
import Derived.Test.YtjcpeenalbgacaaSteps
import Derived.Test.YtjcpeenalbgacaaGrow
import Derived.Test.YtjcpeenalbgacaaGrowR
import Derived.Test.YtjcpeenalbgacaaPure1
import Derived.Test.YtjcpeenalbgacaaPureOrd
import Derived.Test.YtjcpeenalbgacaaPureInv
import Derived.Test.YtjcpeenalbgacaaPureTurn
import Derived.Test.YtjcpeenalbgacaaPureConj
import Derived.Test.YtjcpeenalbgacaaPureBr
import Derived.Test.YtjcpeenalbgacaaW1
import Derived.Test.YtjcpeenalbgacaaW3
import Derived.Test.YtjcpeenalbgacaaW6
import Derived.Test.YtjcpeenalbgacaaW8
import Derived.Test.YtjcpeenalbgacaaW11
import Derived.Test.YtjcpeenalbgacaaW12
import Derived.Test.YtjcpeenalbgacaaW13
import Derived.Test.YtjcpeenalbgacaaW20
import Derived.Test.YtjcpeenalbgacaaW26
import Derived.Test.YtjcpeenalbgacaaW28
import Derived.Test.YtjcpeenalbgacaaW29
import Derived.Test.YtjcpeenalbgacaaK2
import Derived.Test.YtjcpeenalbgacaaK3
namespace Go.Proofs.Ytjcpeenalbgacaa
set_option linter.unusedVariables false
set_option linter.unusedSimpArgs false
open Go.RowKit
attribute [local go_sem ↓] Go.wp_at_zero Go.wp_at_succ

/-- lambda -/
@[irreducible] def lamF (t u : List (List Int)) (x y : Nat) : Int := ent t (backF t x).toNat (ent u x y).toNat
theorem lamF_def (t u : List (List Int)) (x y : Nat) : ent t (backF t x).toNat (ent u x y).toNat = lamF t u x y := by unfold lamF; rfl
theorem lamF_bd {t u : List (List Int)} (hG : GroupOk t) (hU : GroupOk u) (hl : t.length = u.length) {x y : Nat} (hx : x < t.length) (hy : y < t.length) : 0 ≤ lamF t u x y ∧ lamF t u x y < (t.length : Int) := by
  rw [← lamF_def]
  have h1 := backF_ok hG hx
  have h2 := hU.1.bd (x := x) (y := y) (by omega) (by omega)
  have := hG.1.bd (x := (backF t x).toNat) (y := (ent u x y).toNat) (by omega) (by omega)
  omega

set_option maxRecDepth 100000 in
set_option maxHeartbeats 1000000 in
theorem l11Lambda_any (t u : List (List Int)) (v y : Value) (w : World) (hv : Rows w v t) (hy : Rows w y u) (hG : GroupOk t) (hU : GroupOk u) (hl : t.length = u.length) :
    Calls Try.prog 115 #[.agg #[v, y]] w fun e w' => ∃ v, e = .returned v ∧ Rows w' v (mkT t.length (lamF t u)) ∧ Ext w w' := by
  obtain ⟨hlen, b, o, c, rfl, hc⟩ := id hv
  obtain ⟨hlen2, b2, o2, c2, rfl, hc2⟩ := id hy
  have hX := ext_boxB w (.slice (some ⟨b, o, none⟩) t.length c) (.slice (some ⟨b2, o2, none⟩) u.length c2) 29
  have k0 := cell_new2a w (.slice (some ⟨b, o, none⟩) t.length c) (.slice (some ⟨b2, o2, none⟩) u.length c2) 29
  have k1 := cell_new2b w (.slice (some ⟨b, o, none⟩) t.length c) (.slice (some ⟨b2, o2, none⟩) u.length c2) 29
  have h12 := hG.1.2.1
  have HLT := Lib.hid (length_mkT t.length (lamF t u))
  have HB := Lib.hid (fun x (hx : x < t.length) => backF_ok hG hx)
  have HG := Lib.hid hG
  have HU := Lib.hid hU
  have HL := Lib.hid hl.symm
  clear hG hU hl
  go_enter Try.func115, Try.ntmps115
  go_wp2
  have zA : w.heap.size + 1 = (w.alloc (.cells #[.slice (some ⟨b, o, none⟩) t.length c, .slice (some ⟨b2, o2, none⟩) u.length c2] 29)).heap.size := by simp
  generalize (w.alloc (.cells #[.slice (some ⟨b, o, none⟩) t.length c, .slice (some ⟨b2, o2, none⟩) u.length c2] 29)) = A at *
  have hx0 : Ext A (A.alloc (.cells #[] 26)) := (Ext.refl _).alloc _
  have hg0 : GrowT 26 A.heap.size (A.alloc (.cells #[] 26)) (.slice (some ⟨w.heap.size + 1, 0, none⟩) 0 0) [] := by rw [zA]; exact GrowT.lit (Nat.le_refl _)
  replace zA := Nat.le_of_eq zA
  go_loopw [3, 4] (fun v x wr => ∃ k : Nat, k ≤ t.length ∧ x = .int .i64 k ∧ GrowT 26 A.heap.size wr v ((mkT t.length (lamF t u)).take k) ∧ v ≠ .slice none 0 0 ∧ Ext A wr) (fun _ x _ => t.length - (intOf x).toNat)
  case atStart => exact ⟨0, Nat.zero_le _, rfl, hg0, by simp, hx0⟩
  case round =>
    clear hx0 hg0
    obtain ⟨k, hk, rfl, hg, hv', hx⟩ := hrel
    have HV := Lib.hid hv'
    clear hv'
    have j0 := hx.cell k0
    have j1 := hx.cell k1
    by_cases hkl : k < t.length
    case neg =>
      go_wp2
      go_ret
      refine ⟨u3, rfl, ?_, hX.trans hx⟩
      have : (mkT t.length (lamF t u)).take k = mkT t.length (lamF t u) := List.take_of_length_le (by rw [HLT.out]; omega)
      rw [this] at hg
      exact hg.rows (by rw [HLT.out]; omega) HV.out
    case pos =>
      obtain ⟨w2, rfl⟩ : ∃ w2 : World, w2 = wr := ⟨_, rfl⟩
      have hxa : Ext w2 (w2.alloc (.cells #[] 2)) := (Ext.refl _).alloc _
      have hi0 := GrowI.lit (e := 2) (base := w2.heap.size) (w := w2) (Nat.le_refl _)
      have ja := hxa.cell j0
      have hXk := (hX.trans hx).trans hxa
      go_wp2_with (go_at_call 135; refine (l10Back_any t _ k _ (hv.ext hXk) hkl).mono ?_; rintro e w' ⟨rfl, rfl⟩)
      have hrl : (row (mkT t.length (lamF t u)) k).length = t.length := by rw [row_mkT _ _ _ hkl, length_partRow]
      have HRL := Lib.hid hrl
      have hout := hg.lt
      have HO := Lib.hid hout
      clear hrl hout ja hXk
      go_loopw [5, 7] (fun v y wr => ∃ j : Nat, j ≤ t.length ∧ y = .int .i64 j ∧ GrowI 2 w2.heap.size wr v ((row (mkT t.length (lamF t u)) k).take j) ∧ v ≠ .slice none 0 0 ∧ Ext w2 wr) (fun _ y _ => t.length - (intOf y).toNat)
      case atStart => exact ⟨0, Nat.zero_le _, rfl, hi0, by simp, hxa⟩
      case round =>
        clear hxa hi0
        obtain ⟨j, hj, rfl, hi, hvr, hx2⟩ := hrel
        have HVR := Lib.hid hvr
        clear hvr
        have m0 := hx2.cell j0
        have m1 := hx2.cell j1
        by_cases hjl : j < t.length
        case neg =>
          have hta : (row (mkT t.length (lamF t u)) k).take j = row (mkT t.length (lamF t u)) k := List.take_of_length_le (by rw [HRL.out]; omega)
          rw [hta] at hi
          obtain ⟨br, cr, rfl, hri, hrb, hrb2⟩ := hi.row HVR.out
          have hgw := hg.ext hx2
          have hne : some br ≠ u3.ownBlock := fun e => by have := HO.out br e.symm; omega
          have htl : ((mkT t.length (lamF t u)).take k).length = k := by rw [List.length_take, HLT.out]; omega
          have HTL := Lib.hid htl
          clear htl hg
          go_wp2_with (at_builtin; refine wpList_append_row rfl _ _ 22 26 rfl Try.underlying22 infoSl A.heap.size _ _ rfl (hgw.ext (ext_box _ _ _)) _ br cr _ rfl (cell_new _ _ _) (hri.ext (ext_box _ _ _)) (by rw [HRL.out]; omega) hne (by rw [HTL.out]; omega) (by have := hx.size; have := hx2.size; simp; omega) ?_)
          intro v' w3 hg3 hgr hv3
          have hx3 : Ext A w3 := (hx.trans (hx2.trans (ext_box _ _ _))).grown hgr (hgw.ext (ext_box _ _ _)).own.choose_spec (Nat.le_refl _)
          clear hgr hne hgw
          go_wp2
          go_roundw
          case rel => exact ⟨k + 1, by omega, by go_num, by rw [take_row _ _ (by rw [HLT.out]; exact hkl)]; exact hg3, hv3, hx3⟩
          case measure => simp [intOf]; omega
        case pos =>
          have hp := HB.out k hkl
          have i0 : backF t k < (t.length : Int) := by omega
          have iu : (k : Int) < (u.length : Int) := by have := HL.out; omega
          obtain ⟨d1, s1, n1, r1, l1⟩ := (hc2.ext (hX.trans hx)).read HU.out.1 HL.out hkl
          obtain ⟨e1, i1, i2⟩ := l1 j hjl
          obtain ⟨d2, s2, n2, r2, l2⟩ := (hc.ext (hX.trans hx)).read HG.out.1 rfl (x := (backF t k).toNat) (by omega)
          obtain ⟨e2, i3, i4⟩ := l2 (ent u k j).toNat (by omega)
          rw [lamF_def] at e2 i3 i4
          have p1 := hx2.cell r1
          have p2 := hx2.cell r2
          have p3 := hx2.cell e1
          have p4 := hx2.cell e2
          have hlj : ((row (mkT t.length (lamF t u)) k).take j).length = j := by rw [List.length_take, HRL.out]; omega
          have HLJ := Lib.hid hlj
          clear hlj l1 l2
          go_wp2_with fail
          go_region_held3 (fun w' => w'.cell? ⟨w.heap.size, 0, none⟩ = some (.slice (some ⟨b, o, none⟩) t.length c) ∧ w'.cell? ⟨w.heap.size, 1, none⟩ = some (.slice (some ⟨b2, o2, none⟩) u.length c2) ∧ w'.cell? ⟨b2, o2 + k, none⟩ = some (.slice (some ⟨d1, s1, none⟩) t.length n1) ∧ w'.cell? ⟨b, o + (backF t k).toNat, none⟩ = some (.slice (some ⟨d2, s2, none⟩) t.length n2) ∧ w'.cell? ⟨d1, s1 + j, none⟩ = some (.int .i64 (ent u k j)) ∧ w'.cell? ⟨d2, s2 + (ent u k j).toNat, none⟩ = some (.int .i64 (lamF t u k j)))
            ((refine ⟨?_, ?_, ?_, ?_, ?_, ?_⟩ <;> (repeat first | (with_reducible assumption) | (with_reducible refine Ext.cell hx3 ?_) |  (with_reducible exact kc_new) | ((with_reducible refine kc_newE ?_); (simp; done)) | ((with_reducible refine kc_newEa ?_); (simp; done)) | ((with_reducible refine kc_newEb ?_); (simp; done)) | (with_reducible apply kc_alloc) | (with_reducible apply kc_drewN) | (with_reducible apply kc_drew) | ((with_reducible refine kc_set ?_ ?_); (first | (simp only []; omega) | (simp; omega) | (focus (simp; done)))) | ((with_reducible refine kc_set2 ?_ ?_); (focus (simp; done))) | (with_reducible refine kc_same (v := .slice none 0 0) ?_))))
            ((refine step_append_int (by rfl) _ _ 26 2 (by rfl) Try.underlying26 infoInt w2.heap.size _ _ (by rfl) (hi.ext (by (repeat first | (with_reducible exact Ext.refl _) | (with_reducible assumption) | (with_reducible apply Ext.drew) | (with_reducible apply kx_drewN) | (with_reducible apply kx_alloc) | ((with_reducible refine kx_set ?_ ?_); (first | (simp only []; omega) | (simp; omega) | (focus (simp; done)))) ))) _ _ (by rfl) (by (repeat first | (with_reducible assumption) |  (with_reducible exact kc_new) | ((with_reducible refine kc_newE ?_); (simp; done)) | ((with_reducible refine kc_newEa ?_); (simp; done)) | ((with_reducible refine kc_newEb ?_); (simp; done)) | (with_reducible apply kc_alloc) | (with_reducible apply kc_drewN) | (with_reducible apply kc_drew) | ((with_reducible refine kc_set ?_ ?_); (first | (simp only []; omega) | (simp; omega) | (focus (simp; done)))) | ((with_reducible refine kc_set2 ?_ ?_); (focus (simp; done))) | (with_reducible refine kc_same (v := .slice none 0 0) ?_))) (by rw [HLJ.out]; omega) (by have := hx2.size; simp; omega) ?_; intro v' w3 hi3 hgr hv3; have hx3 : Ext w2 w3 := Ext.grown (hx2.trans (by (repeat first | (with_reducible exact Ext.refl _) | (with_reducible assumption) | (with_reducible apply Ext.drew) | (with_reducible apply kx_drewN) | (with_reducible apply kx_alloc) | ((with_reducible refine kx_set ?_ ?_); (first | (simp only []; omega) | (simp; omega) | (focus (simp; done)))) ))) hgr (hi.ext (by (repeat first | (with_reducible exact Ext.refl _) | (with_reducible assumption) | (with_reducible apply Ext.drew) | (with_reducible apply kx_drewN) | (with_reducible apply kx_alloc) | ((with_reducible refine kx_set ?_ ?_); (first | (simp only []; omega) | (simp; omega) | (focus (simp; done)))) ))) (Nat.le_refl _)))
          all_goals
            go_wp2
            go_roundw
            case rel => exact ⟨j + 1, by omega, by go_num, by
              rw [take_ix _ _ (by rw [HRL.out]; exact hjl), row_mkT _ _ _ hkl, ix_partRow _ _ _ _ _ hjl, if_pos hjl]
              rw [row_mkT _ _ _ hkl] at hi3
              exact hi3, hv3, hx3⟩
            case measure => simp [intOf]; omega

theorem lambdaTable1_any (t u : List (List Int)) (v y : Value) (b3 c3 : Nat) (i j B C : Nat) (w : World) (hB : w.cell? ⟨B, 0, none⟩ = some v) (hB1 : w.cell? ⟨B, 1, none⟩ = some y) (hC : w.cell? ⟨C, 0, none⟩ = some (.slice (some ⟨b3, 0, none⟩) t.length c3)) (hv : Rows w v t) (hy : Rows w y u) (hi : IntsAt w b3 0 (backs t)) (hG : GroupOk t) (hU : GroupOk u) (hl : t.length = u.length) (hx : i < t.length) (hj : j < t.length) :
    Calls Try.prog 120 #[.int .i64 i, .int .i64 j, .pointer (some ⟨B, 0, none⟩), .pointer (some ⟨C, 0, none⟩)] w fun e w' => e = .returned (.int .i64 (lamF t u i j)) ∧ Ext w w' := by
  obtain ⟨hlen, b, o, c, rfl, hc⟩ := id hv
  obtain ⟨hlen2, b2, o2, c2, rfl, hc2⟩ := id hy
  have h12 := hG.1.2.1
  have hb := backF_ok hG hx
  have i0 : backF t i < (t.length : Int) := by omega
  obtain ⟨d1, s1, m1, r1, l1⟩ := hc2.read hU.1 hl.symm hx
  obtain ⟨f1, p1, p2⟩ := l1 j hj
  obtain ⟨d2, s2, m2, r2, l2⟩ := hc.read hG.1 rfl (x := (backF t i).toNat) (by omega)
  obtain ⟨f2, p3, p4⟩ := l2 (ent u i j).toNat (by omega)
  rw [lamF_def] at f2 p3 p4
  have ib := hi i (by rw [length_backs]; exact hx)
  rw [ix_backs _ _ hx, Nat.zero_add] at ib
  have HL := Lib.hid hl
  rw [← hl] at hB1
  clear l1 l2 hl
  go_enter Try.func120, Try.ntmps120
  go_wp2
  go_quiet (fail)
  go_wp2
  go_ret
  exact ⟨rfl, (Ext.refl _).drewN _⟩

theorem callLambdaTable1 (args : Array Value) (w : World) : (callFunc 120 args).run Try.prog w = .ok (.enter 120 args) w :=
  callFunc_enter Try.func120 (by kernel_rfl) rfl args w

set_option maxRecDepth 100000 in
theorem lambdaTable_any (t u : List (List Int)) (v y : Value) (w : World) (hv : Rows w v t) (hy : Rows w y u) (hG : GroupOk t) (hU : GroupOk u) (hl : t.length = u.length) :
    Calls Try.prog 76 #[.agg #[v, y]] w (NewT (mkT t.length (lamF t u)) w) := by
  obtain ⟨hlen, b, o, c, rfl, hc⟩ := id hv
  obtain ⟨hlen2, b2, o2, c2, rfl, hc2⟩ := id hy
  have hX := ext_boxB w (.slice (some ⟨b, o, none⟩) t.length c) (.slice (some ⟨b2, o2, none⟩) u.length c2) 29
  have k0 := cell_new2a w (.slice (some ⟨b, o, none⟩) t.length c) (.slice (some ⟨b2, o2, none⟩) u.length c2) 29
  have k1 := cell_new2b w (.slice (some ⟨b, o, none⟩) t.length c) (.slice (some ⟨b2, o2, none⟩) u.length c2) 29
  have zA : w.heap.size + 1 = (w.alloc (.cells #[.slice (some ⟨b, o, none⟩) t.length c, .slice (some ⟨b2, o2, none⟩) u.length c2] 29)).heap.size := by simp
  clear hc hc2
  have h12 := hG.1.2.1
  have HG := Lib.hid hG
  have HU := Lib.hid hU
  have HL := Lib.hid hl
  clear hG hU hl
  replace zA := Nat.le_of_eq zA
  go_enter Try.func76, Try.ntmps76
  go_wp2_with fail
  generalize (w.alloc (.cells #[.slice (some ⟨b, o, none⟩) t.length c, .slice (some ⟨b2, o2, none⟩) u.length c2] 29)) = A at *
  refine (groupInverses_any t _ _ (hv.ext hX)).mono ?_
  rintro e w1 ⟨b3, c3, rfl, hi3, hx1⟩
  replace hX := hX.trans hx1
  replace k0 := hx1.cell k0
  replace k1 := hx1.cell k1
  have hxB := ext_box w1 (.slice (some ⟨b3, 0, none⟩) t.length c3) 26
  have bB := cell_new w1 (.slice (some ⟨b3, 0, none⟩) t.length c3) 26
  have hz := hx1.size
  replace k0 := hxB.cell k0
  replace k1 := hxB.cell k1
  go_wp2_with fail
  refine (tableBy_any t.length (lamF t u) 120 #[.pointer (some ⟨w.heap.size, 0, none⟩), .pointer (some ⟨w1.heap.size, 0, none⟩)] _ (by omega) callLambdaTable1 (fun w3 x y h3 hx hy' => by
    rw [app22]
    have hX3 := hX.trans (hxB.trans h3)
    exact lambdaTable1_any t u _ _ b3 c3 x y w.heap.size w1.heap.size w3 (h3.cell k0) (h3.cell k1) (h3.cell bB) (hv.ext hX3) (hy.ext hX3) (hi3.ext (hxB.trans h3)) HG.out HU.out HL.out hx hy')).mono ?_
  rintro e w2 ⟨b4, c4, rfl, ho, hx2⟩
  go_wp2
  go_ret
  exact ⟨b4, c4, rfl, ho.mono (by simp; omega) (Nat.le_refl _), hX.trans (hxB.trans hx2)⟩

end Go.Proofs.Ytjcpeenalbgacaa
