/-
  Contracts: the tables of quotients; reference and program.
-/
import Derived.Test.YtbfhecckapgpnaaGreatProg
import Derived.Deep.DeepCutAuto
import Derived.Deep.RegionWith
import Derived.Deep.RegionHeld3
import Derived.Deep.DrawnRows
import Derived.Test.YtbfhecckapgpnaaGreatJx0
import Derived.Test.YtbfhecckapgpnaaGreatJx1
import Derived.Test.YtbfhecckapgpnaaGreatJx2
import Derived.Test.YtbfhecckapgpnaaGreatJx8
import Derived.Test.YtbfhecckapgpnaaGreatJx9
import Derived.Test.YtbfhecckapgpnaaGreatJx7
import Derived.Test.YtbfhecckapgpnaaGreatJx3
import Derived.Test.YtbfhecckapgpnaaGreatJx22
import Derived.Test.YtbfhecckapgpnaaGreatJx5
import Derived.Test.YtbfhecckapgpnaaGreatJx12
import Derived.Test.YtbfhecckapgpnaaGreatJx6
import Derived.Test.YtbfhecckapgpnaaGreatJx14
import Derived.Test.YtbfhecckapgpnaaGreatJx49
import Derived.Test.YtbfhecckapgpnaaGreatJx51
import Derived.Test.YtbfhecckapgpnaaGreatJx52
import Derived.Test.YtbfhecckapgpnaaGreatJx13
namespace Go.Proofs.YtbfhecckapgpnaaGreat
set_option linter.unusedVariables false
set_option linter.unusedSimpArgs false
open Go.RowKit
attribute [local go_sem ↓] Go.wp_at_zero Go.wp_at_succ

theorem quotientTable1_any (t : List (List Int)) (cl : List Int) (v cv fv : Value) (i j C B F : Nat) (w : World) (hC : w.cell? ⟨C, 0, none⟩ = some cv) (hB : w.cell? ⟨B, 0, none⟩ = some v) (hF : w.cell? ⟨F, 0, none⟩ = some fv) (hv : Rows w v t) (hcv : Ints w cv cl) (hfv : IntsR w fv (firTo cl t.length)) (hT : TableOk t) (hcl : cl.length = t.length) (hi : i < quoN t cl) (hj : j < quoN t cl) :
    Calls Tryz.prog 68 #[.int .i64 i, .int .i64 j, .pointer (some ⟨C, 0, none⟩), .pointer (some ⟨B, 0, none⟩), .pointer (some ⟨F, 0, none⟩)] w fun e w' => e = .returned (.int .i64 (quoF t cl i j)) ∧ Ext w w' := by
  obtain ⟨hlen, b, o, c, rfl, hc⟩ := id hv
  obtain ⟨hlen2, b2, o2, c2, rfl, hc2⟩ := id hcv
  obtain ⟨fa, fc, rfl, hf⟩ := id hfv
  rw [← quoN_def] at hi hj
  obtain ⟨fb, fo, rfl, hfi⟩ := hf (ne_nil_of_lt hi)
  obtain ⟨x, hx, ex⟩ := firTo_mem cl t.length i hi
  obtain ⟨y, hy, ey⟩ := firTo_mem cl t.length j hj
  have e1 := hfi i hi
  have e2 := hfi j hj
  rw [ex] at e1
  rw [ey] at e2
  rw [quoF_def t cl i j x y ex ey]
  obtain ⟨d1, s1, m1, r1, l1⟩ := hc.read hT rfl hx
  obtain ⟨e3, i1, i2⟩ := l1 y hy
  have e4 := hc2 (ent t x y).toNat (by omega)
  have hfl := firTo_len cl t.length
  rw [hcl] at hC
  clear l1 hfi hf ex ey
  go_enter Tryz.func68, Tryz.ntmps68
  go_wp2
  go_quiet (fail)
  go_wp2
  go_ret
  exact ⟨rfl, (Ext.refl _).drewN _⟩

theorem callQuotientTable1 (args : Array Value) (w : World) : (callFunc 68 args).run Tryz.prog w = .ok (.enter 68 args) w :=
  callFunc_enter Tryz.func68 (by kernel_rfl) rfl args w

set_option maxRecDepth 100000 in
set_option maxHeartbeats 1000000 in
theorem quotientTable_any (t : List (List Int)) (cl : List Int) (v cv : Value) (w : World) (hv : Rows w v t) (hcv : Ints w cv cl) (hT : TableOk t) (hcl : cl.length = t.length) :
    Calls Tryz.prog 30 #[v, cv] w (NewT (quoT t cl) w) := by
  obtain ⟨hlen, b, o, c, rfl, hc⟩ := id hv
  obtain ⟨hlen2, b2, o2, c2, rfl, hc2⟩ := id hcv
  have h12 := hT.2.1
  have HN := Lib.hid (quoN_def t cl)
  have HNL := Lib.hid (quoN_le t cl)
  have HT := Lib.hid hT
  have HCL := Lib.hid hcl
  have hX : Ext w ((w.alloc (.cells #[.slice (some ⟨b, o, none⟩) t.length c] 24)).alloc (.cells #[.slice (some ⟨b2, o2, none⟩) cl.length c2] 46)) := ((Ext.refl _).alloc _).alloc _
  have k0 : ((w.alloc (.cells #[.slice (some ⟨b, o, none⟩) t.length c] 24)).alloc (.cells #[.slice (some ⟨b2, o2, none⟩) cl.length c2] 46)).cell? ⟨w.heap.size, 0, none⟩ = some (.slice (some ⟨b, o, none⟩) t.length c) := by (repeat first | (with_reducible assumption) |  (with_reducible exact kc_new) | ((with_reducible refine kc_newE ?_); (simp; done)) | ((with_reducible refine kc_newEa ?_); (simp; done)) | ((with_reducible refine kc_newEb ?_); (simp; done)) | (with_reducible apply kc_alloc) | (with_reducible apply kc_drewN) | (with_reducible apply kc_drew) | ((with_reducible refine kc_set ?_ ?_); (first | (simp only []; omega) | (simp; omega) | (focus (simp; done)))) | ((with_reducible refine kc_set2 ?_ ?_); (focus (simp; done))) | (with_reducible refine kc_same (v := .slice none 0 0) ?_))
  have k1 : ((w.alloc (.cells #[.slice (some ⟨b, o, none⟩) t.length c] 24)).alloc (.cells #[.slice (some ⟨b2, o2, none⟩) cl.length c2] 46)).cell? ⟨w.heap.size + 1, 0, none⟩ = some (.slice (some ⟨b2, o2, none⟩) cl.length c2) := by (repeat first | (with_reducible assumption) |  (with_reducible exact kc_new) | ((with_reducible refine kc_newE ?_); (simp; done)) | ((with_reducible refine kc_newEa ?_); (simp; done)) | ((with_reducible refine kc_newEb ?_); (simp; done)) | (with_reducible apply kc_alloc) | (with_reducible apply kc_drewN) | (with_reducible apply kc_drew) | ((with_reducible refine kc_set ?_ ?_); (first | (simp only []; omega) | (simp; omega) | (focus (simp; done)))) | ((with_reducible refine kc_set2 ?_ ?_); (focus (simp; done))) | (with_reducible refine kc_same (v := .slice none 0 0) ?_))
  have zA := hX.size
  clear hc hc2 hT hcl
  go_enter Tryz.func30, Tryz.ntmps30
  go_wp2_with fail
  generalize ((w.alloc (.cells #[.slice (some ⟨b, o, none⟩) t.length c] 24)).alloc (.cells #[.slice (some ⟨b2, o2, none⟩) cl.length c2] 46)) = A at *
  refine (firstOf_any cl _ _ (hcv.ext hX)).mono ?_
  rintro e w1 ⟨v1, rfl, hf, hx1⟩
  rw [HCL.out] at hf
  obtain ⟨fa, fc, rfl, hf'⟩ := id hf
  clear hf'
  rw [HN.out]
  rw [HN.out] at hf
  have hxB := ext_box w1 (.slice fa (quoN t cl) fc) 46
  have bB := cell_new w1 (.slice fa (quoN t cl) fc) 46
  have hX1 := hX.trans hx1
  have k2 := hxB.cell (hx1.cell k0)
  have k3 := hxB.cell (hx1.cell k1)
  have hz := hx1.size
  go_wp2_with fail
  refine (tableBy_any (quoN t cl) (quoF t cl) 68 #[.pointer (some ⟨w.heap.size + 1, 0, none⟩), .pointer (some ⟨w.heap.size, 0, none⟩), .pointer (some ⟨w1.heap.size, 0, none⟩)] _ (by have := HNL.out; omega) callQuotientTable1 (fun w3 x y h3 hx hy' => by
    rw [app23]
    have hX3 := hX1.trans (hxB.trans h3)
    exact quotientTable1_any t cl _ _ _ x y (w.heap.size + 1) w.heap.size w1.heap.size w3 (h3.cell k3) (h3.cell k2) (h3.cell bB) (hv.ext hX3) (hcv.ext hX3) (by have := hf.ext (hxB.trans h3); exact this) HT.out HCL.out hx hy')).mono ?_
  rintro e w2 ⟨b4, c4, rfl, ho, hx2⟩
  rw [quoT_def] at ho ⊢
  go_wp2
  go_ret
  exact ⟨b4, c4, rfl, ho.mono (by simp; omega) (Nat.le_refl _), hX1.trans (hxB.trans hx2)⟩

end Go.Proofs.YtbfhecckapgpnaaGreat

/-
  Contracts of QuotientGroup: reference and program.
-/
namespace Go.Proofs.YtbfhecckapgpnaaGreat
set_option linter.unusedVariables false
set_option linter.unusedSimpArgs false
open Go.RowKit
attribute [local go_sem ↓] Go.wp_at_zero Go.wp_at_succ

set_option maxRecDepth 100000 in
set_option maxHeartbeats 1000000 in
theorem l04Quotient_any (t : List (List Int)) (cl : List Int) (v cv : Value) (w : World) (hv : Rows w v t) (hcv : Ints w cv cl) (hT : TableOk t) (hcl : cl.length = t.length) (hle : ∀ i, i < t.length → ix cl i ≤ ((firTo cl i).length : Int)) :
    Calls Tryz.prog 33 #[v, cv] w fun e w' => ∃ v', e = .returned v' ∧ Rows w' v' (quoT t cl) ∧ Ext w w' := by
  obtain ⟨hlen, b, o, c, rfl, hc⟩ := id hv
  obtain ⟨hlen2, b2, o2, c2, rfl, hc2⟩ := id hcv
  have h12 := hT.2.1
  have HT := Lib.hid hT
  have HCL := Lib.hid hcl
  have HLE := Lib.hid hle
  have HNL := quoN_le t cl
  have HLT := Lib.hid (show (quoT t cl).length = quoN t cl by rw [← quoT_def, length_mkT])
  clear hT hle
  rw [hcl]
  clear hcl
  go_enter Tryz.func33, Tryz.ntmps33
  go_wp2
  have hx0 : Ext w (w.alloc (.cells #[] 46)) := (Ext.refl _).alloc _
  have hg0 := GrowT.lit (e := 46) (base := w.heap.size) (w := w) (Nat.le_refl _)
  go_loopw [5, 6] (fun v x wr => ∃ k : Nat, k ≤ t.length ∧ x = .int .i64 k ∧ GrowT 46 w.heap.size wr v ((quoT t cl).take (firTo cl k).length) ∧ v ≠ .slice none 0 0 ∧ Ext w wr) (fun _ x _ => t.length - (intOf x).toNat)
  case atStart => exact ⟨0, Nat.zero_le _, rfl, hg0, by simp, hx0⟩
  case round =>
    clear hx0 hg0
    obtain ⟨k, hk, rfl, hg, hv', hx⟩ := hrel
    have HV := Lib.hid hv'
    clear hv'
    have hm := quoN_mono (t := t) (c := cl) hk
    have HTL := Lib.hid (show ((quoT t cl).take (firTo cl k).length).length = (firTo cl k).length by rw [List.length_take, HLT.out]; omega)
    by_cases hkl : k < t.length
    case neg =>
      have hkk : k = t.length := by omega
      subst hkk
      have hta : (quoT t cl).take (firTo cl t.length).length = quoT t cl := List.take_of_length_le (by rw [HLT.out, quoN_def]; omega)
      rw [hta] at hg
      have hr := hg.rows (by rw [HLT.out]; omega) HV.out
      go_wp2
      go_ret
      exact ⟨_, rfl, hr, hx⟩
    case pos =>
      obtain ⟨ga, gc, hgv⟩ := hg.slice
      rw [HTL.out] at hgv
      subst hgv
      have e0 := (hc2.ext hx) k (by rw [HCL.out]; exact hkl)
      have hle := HLE.out k hkl
      have hfl := firTo_len cl k
      cases hq : (ix cl k == ((firTo cl k).length : Int)) with
      | false =>
        have hlt : ix cl k < ((firTo cl k).length : Int) := by
          have : ix cl k ≠ ((firTo cl k).length : Int) := by simpa using hq
          omega
        have HF := Lib.hid (firTo_no hq)
        clear hq
        go_wp2
        go_roundw
        case rel => exact ⟨k + 1, by omega, by go_num, by rw [HF.out]; exact hg, HV.out, hx⟩
        case measure => simp [intOf]; omega
      | true =>
        have heq : ix cl k = ((firTo cl k).length : Int) := by simpa using hq
        have hnl : ¬ ix cl k < ((firTo cl k).length : Int) := by omega
        have HQ := Lib.hid hq
        clear hq heq
        have hrn := quoN_at hkl HQ.out
        have HF := Lib.hid (firTo_yes HQ.out)
        obtain ⟨w2, rfl⟩ : ∃ w2 : World, w2 = wr := ⟨_, rfl⟩
        obtain ⟨d1, s1, m1, r1, l1⟩ := (hc.ext hx).read HT.out rfl hkl
        have L1 := Lib.hid l1
        have HRL := Lib.hid (show (row (quoT t cl) (firTo cl k).length).length = quoN t cl by rw [← quoT_def, row_mkT _ _ _ hrn, length_partRow])
        have HO := Lib.hid hg.lt
        clear l1
        go_wp2
        have hxa : Ext w2 (w2.alloc (.cells #[] 2)) := (Ext.refl _).alloc _
        have hi0 := GrowI.lit (e := 2) (base := w2.heap.size) (w := w2) (Nat.le_refl _)
        go_loopw [7, 8] (fun v y wr => ∃ j : Nat, j ≤ t.length ∧ y = .int .i64 j ∧ GrowI 2 w2.heap.size wr v ((row (quoT t cl) (firTo cl k).length).take (firTo cl j).length) ∧ v ≠ .slice none 0 0 ∧ Ext w2 wr) (fun _ y _ => t.length - (intOf y).toNat)
        case atStart => exact ⟨0, Nat.zero_le _, rfl, hi0, by simp, hxa⟩
        case round =>
          clear hxa hi0
          obtain ⟨j, hj, rfl, hi, hvr, hx2⟩ := hrel
          have HVR := Lib.hid hvr
          clear hvr
          have hmj := quoN_mono (t := t) (c := cl) hj
          have HTJ := Lib.hid (show ((row (quoT t cl) (firTo cl k).length).take (firTo cl j).length).length = (firTo cl j).length by rw [List.length_take, HRL.out]; omega)
          by_cases hjl : j < t.length
          case neg =>
            have hjj : j = t.length := by omega
            subst hjj
            have hta : (row (quoT t cl) (firTo cl k).length).take (firTo cl t.length).length = row (quoT t cl) (firTo cl k).length := List.take_of_length_le (by rw [HRL.out, quoN_def]; omega)
            rw [hta] at hi
            obtain ⟨br, cr, rfl, hri, hrb, hrb2⟩ := hi.row HVR.out
            have hgw := hg.ext hx2
            have hne : some br ≠ (Value.slice ga (firTo cl k).length gc).ownBlock := fun e => by have := HO.out br e.symm; omega
            have HT1 := Lib.hid (show (quoT t cl).take (firTo cl (k + 1)).length = (quoT t cl).take (firTo cl k).length ++ [row (quoT t cl) (firTo cl k).length] by rw [HF.out, List.length_append]; exact take_row _ _ (by rw [HLT.out]; exact hrn))
            clear hg
            go_wp2_with (at_builtin; refine wpList_append_row rfl _ _ 24 46 rfl Tryz.underlying24 infoSl w.heap.size _ _ rfl (hgw.ext (ext_box _ _ _)) _ br cr _ rfl (cell_new _ _ _) (hri.ext (ext_box _ _ _)) (by rw [HRL.out]; omega) hne (by rw [HTL.out]; omega) (by have := hx.size; have := hx2.size; simp; omega) ?_)
            intro v' w3 hg3 hgr hv3
            have hx3 : Ext w w3 := (hx.trans (hx2.trans (ext_box _ _ _))).grown hgr (hgw.ext (ext_box _ _ _)).own.choose_spec (Nat.le_refl _)
            clear hgr hne hgw
            go_wp2
            go_roundw
            case rel => exact ⟨k + 1, by omega, by go_num, by rw [HT1.out]; exact hg3, hv3, hx3⟩
            case measure => simp [intOf]; omega
          case pos =>
            obtain ⟨ra, rc, hrv⟩ := hi.slice
            rw [HTJ.out] at hrv
            subst hrv
            have e1 := (hc2.ext (hx.trans hx2)) j (by rw [HCL.out]; exact hjl)
            have hfj := firTo_len cl j
            cases hq : (ix cl j == ((firTo cl j).length : Int)) with
            | false =>
              have HFJ := Lib.hid (firTo_no hq)
              go_wp2
              go_roundw
              case rel => exact ⟨j + 1, by omega, by go_num, by rw [HFJ.out]; exact hi, HVR.out, hx2⟩
              case measure => simp [intOf]; omega
            | true =>
              obtain ⟨e3, i1, i2⟩ := L1.out j hjl
              have e4 := hx2.cell r1
              have e5 := hx2.cell e3
              have e6 := (hc2.ext (hx.trans hx2)) (ent t k j).toNat (by rw [HCL.out]; omega)
              have hjn := quoN_at hjl hq
              have HT1 := Lib.hid (show (row (quoT t cl) (firTo cl k).length).take (firTo cl (j + 1)).length = (row (quoT t cl) (firTo cl k).length).take (firTo cl j).length ++ [ix cl (ent t k j).toNat] by
                rw [firTo_yes hq, List.length_append]
                rw [show (firTo cl j).length + [(j : Int)].length = (firTo cl j).length + 1 from rfl, take_ix _ _ (by rw [HRL.out]; exact hjn), ← quoT_def, row_mkT _ _ _ hrn, ix_partRow _ _ _ _ _ hjn, if_pos hjn, quoF_at hkl hjl HQ.out hq])
              go_wp2_with (at_builtin; refine wpList_append_int rfl _ _ 46 2 rfl Tryz.underlying46 infoInt w2.heap.size _ _ rfl (hi.alloc _) _ _ rfl (cell_new _ _ _) (by rw [HTJ.out]; omega) (by have := hx2.size; simp; omega) ?_)
              intro v' w3 hi3 hgr hv3
              have hx3 : Ext w2 w3 := (hx2.trans (ext_box _ _ _)).grown hgr (hi.alloc _) (Nat.le_refl _)
              clear hgr
              go_wp2
              go_roundw
              case rel => exact ⟨j + 1, by omega, by go_num, by rw [HT1.out]; exact hi3, hv3, hx3⟩
              case measure => simp [intOf]; omega

end Go.Proofs.YtbfhecckapgpnaaGreat

/-
  Contracts of QuotientGroup: reference and program (exported).
-/
namespace Go.Proofs.YtbfhecckapgpnaaGreat
set_option linter.unusedVariables false
set_option linter.unusedSimpArgs false
open Go.RowKit
attribute [local go_sem ↓] Go.wp_at_zero Go.wp_at_succ

set_option maxRecDepth 100000 in
set_option maxHeartbeats 1000000 in
theorem QuotientGroup_spec (t : List (List Int)) (v : Value) (a : Int) (w : World) (hv : Rows w v t) :
    Calls Tryz.prog 8 #[.agg #[v], .int .i64 a] w (RetG (quoV t a) (quoC t a) w) := by
  obtain ⟨hlen, b, o, c, rfl, hc⟩ := id hv
  have hx0 := ext_box2 w (.slice (some ⟨b, o, none⟩) t.length c) (.slice none 0 0) 26 26
  have b0 : ((w.alloc (.cells #[.slice (some ⟨b, o, none⟩) t.length c] 26)).alloc (.cells #[.slice none 0 0] 26)).cell? ⟨w.heap.size, 0, none⟩ = some (.slice (some ⟨b, o, none⟩) t.length c) := by simp [go_sem]
  have r0 : ((w.alloc (.cells #[.slice (some ⟨b, o, none⟩) t.length c] 26)).alloc (.cells #[.slice none 0 0] 26)).cell? ⟨w.heap.size + 1, 0, none⟩ = some (.slice none 0 0) := by simp [go_sem]
  have q0 : ((w.alloc (.cells #[.slice (some ⟨b, o, none⟩) t.length c] 26)).alloc (.cells #[.slice none 0 0] 26)).frozen? ⟨w.heap.size + 1, 0, none⟩ = false := by simp [go_sem]
  have z0 : w.heap.size + 2 ≤ ((w.alloc (.cells #[.slice (some ⟨b, o, none⟩) t.length c] 26)).alloc (.cells #[.slice none 0 0] 26)).heap.size := by simp
  clear hc
  cases hz : (subC t a != 0) with
  | true =>
    have hz' : subC t a ≠ 0 := by simpa using hz
    rw [(quo_bad hz').1, (quo_bad hz').2]
    have hz2 : (subC t a == 0) = false := by simpa using hz
    clear hz'
    go_enter Tryz.func8, Tryz.ntmps8
    go_wp2_with fail
    generalize ((w.alloc (.cells #[.slice (some ⟨b, o, none⟩) t.length c] 26)).alloc (.cells #[.slice none 0 0] 26)) = A at *
    refine (l10Sub_any t _ _ _ (hv.ext hx0)).mono ?_
    rintro e w1 ⟨rfl, hx1⟩
    have f1 := hx1.cell r0
    have f2 := hx1.free q0 (by simp only []; omega)
    have b1 := hx1.cell b0
    have zz := hx1.size
    go_wp2
    refine bodyPost_ret (v := .tuple #[.agg #[.slice none 0 0], .int .i64 (subC t a)]) (by simp [results, Tryz.results8, go_sem, f1]) rfl ⟨_, rfl, RowsR.nil _ _, (hx0.trans hx1).setNew (by simp only []; omega) _⟩
  | false =>
    have hz' : subC t a = 0 := by simpa using hz
    obtain ⟨hg, m, rfl, hm, -⟩ := subC_zero hz'
    have HZ := Lib.hid hz'
    have HM := Lib.hid hm
    have HG := Lib.hid (groupB_iff.1 hg)
    have h12 := HG.out.1.2.1
    have HQL := Lib.hid (length_cosL t m)
    clear hz hz' hm hg
    cases hn : normB t m with
    | false =>
      rw [(quo_no HZ.out hn).1, (quo_no HZ.out hn).2]
      go_enter Tryz.func8, Tryz.ntmps8
      go_wp2_with fail
      generalize ((w.alloc (.cells #[.slice (some ⟨b, o, none⟩) t.length c] 26)).alloc (.cells #[.slice none 0 0] 26)) = A at *
      refine (l10Sub_any t _ _ _ (hv.ext hx0)).mono ?_
      rintro e w1 ⟨rfl, hx1⟩
      have f1 := hx1.cell r0
      have f2 := hx1.free q0 (by simp only []; omega)
      have b1 := hx1.cell b0
      have zz := hx1.size
      rw [HZ.out]
      go_wp2_with fail
      refine (l10Normal_any t _ m _ (hv.ext (hx0.trans hx1)) HG.out HM.out).mono ?_
      rintro e w2 ⟨rfl, hx2⟩
      rw [hn]
      have g1 := hx2.cell f1
      have g2 := hx2.free f2 (by simp only []; omega)
      have c1 := hx2.cell b1
      have zz2 := hx2.size
      have hX2 := (hx0.trans hx1).trans hx2
      go_wp2
      refine bodyPost_ret (v := .tuple #[.agg #[.slice none 0 0], .int .i64 5]) (by simp [results, Tryz.results8, go_sem, g1]) rfl ⟨_, rfl, RowsR.nil _ _, hX2.setNew (by simp only []; omega) _⟩
    | true =>
      rw [(quo_yes HZ.out hn).1, (quo_yes HZ.out hn).2]
      go_enter Tryz.func8, Tryz.ntmps8
      go_wp2_with fail
      generalize ((w.alloc (.cells #[.slice (some ⟨b, o, none⟩) t.length c] 26)).alloc (.cells #[.slice none 0 0] 26)) = A at *
      refine (l10Sub_any t _ _ _ (hv.ext hx0)).mono ?_
      rintro e w1 ⟨rfl, hx1⟩
      have f1 := hx1.cell r0
      have f2 := hx1.free q0 (by simp only []; omega)
      have b1 := hx1.cell b0
      have zz := hx1.size
      rw [HZ.out]
      go_wp2_with fail
      refine (l10Normal_any t _ m _ (hv.ext (hx0.trans hx1)) HG.out HM.out).mono ?_
      rintro e w2 ⟨rfl, hx2⟩
      rw [hn]
      have g1 := hx2.cell f1
      have g2 := hx2.free f2 (by simp only []; omega)
      have c1 := hx2.cell b1
      have zz2 := hx2.size
      have hX2 := (hx0.trans hx1).trans hx2
      have hle := fun i (hi : i < t.length) => cosL_le t m hi
      have HLE := Lib.hid hle
      clear hle
      go_wp2_with fail
      go_region_held3 (fun w' => w'.cell? ⟨w.heap.size, 0, none⟩ = some (.slice (some ⟨b, o, none⟩) t.length c))
        ((first | (focus ((repeat first | (with_reducible assumption) | (with_reducible refine Ext.cell hx4 ?_) | (with_reducible refine Ext.cell hx3 ?_) |  (with_reducible exact kc_new) | ((with_reducible refine kc_newE ?_); (simp; done)) | ((with_reducible refine kc_newEa ?_); (simp; done)) | ((with_reducible refine kc_newEb ?_); (simp; done)) | (with_reducible apply kc_alloc) | (with_reducible apply kc_drewN) | (with_reducible apply kc_drew) | ((with_reducible refine kc_set ?_ ?_); (first | (simp only []; omega) | (simp; omega) | (focus (simp; done)))) | ((with_reducible refine kc_set2 ?_ ?_); (focus (simp; done))) | (with_reducible refine kc_same (v := .slice none 0 0) ?_)); done)) | (focus ((repeat first | (with_reducible assumption) | (with_reducible refine Ext.cell hx3 ?_) |  (with_reducible exact kc_new) | ((with_reducible refine kc_newE ?_); (simp; done)) | ((with_reducible refine kc_newEa ?_); (simp; done)) | ((with_reducible refine kc_newEb ?_); (simp; done)) | (with_reducible apply kc_alloc) | (with_reducible apply kc_drewN) | (with_reducible apply kc_drew) | ((with_reducible refine kc_set ?_ ?_); (first | (simp only []; omega) | (simp; omega) | (focus (simp; done)))) | ((with_reducible refine kc_set2 ?_ ?_); (focus (simp; done))) | (with_reducible refine kc_same (v := .slice none 0 0) ?_)); done))))
        (first
          | (go_at_call 34; refine (l10Cosets_any t _ m _ (hv.ext (hX2.trans (by (repeat first | (with_reducible exact Ext.refl _) | (with_reducible assumption) | (with_reducible apply Ext.drew) | (with_reducible apply kx_drewN) | (with_reducible apply kx_alloc) | ((with_reducible refine kx_set ?_ ?_); (first | (simp only []; omega) | (simp; omega) | (focus (simp; done)))) )))) HG.out.1 HM.out).mono ?_; rintro e w3 ⟨b3, c3, rfl, hi3, hx3⟩; have zz3 : w2.heap.size ≤ w3.heap.size := hx3.size)
          | (go_at_call 33; refine (l04Quotient_any t (cosL t m) _ _ _ (hv.ext (hX2.trans (by (repeat first | (with_reducible exact Ext.refl _) | (with_reducible assumption) | (with_reducible apply Ext.drew) | (with_reducible apply kx_drewN) | (with_reducible apply kx_alloc) | ((with_reducible refine kx_set ?_ ?_); (first | (simp only []; omega) | (simp; omega) | (focus (simp; done)))) | (with_reducible refine Ext.trans ?_ hx3) )))) ⟨by rw [HQL.out]; omega, b3, 0, c3, by rw [HQL.out], hi3.ext (by (repeat first | (with_reducible exact Ext.refl _) | (with_reducible assumption) | (with_reducible apply Ext.drew) | (with_reducible apply kx_drewN) | (with_reducible apply kx_alloc) | ((with_reducible refine kx_set ?_ ?_); (first | (simp only []; omega) | (simp; omega) | (focus (simp; done)))) ))⟩ HG.out.1 HQL.out HLE.out).mono ?_; rintro e w4 ⟨v4, rfl, hr4, hx4⟩; obtain ⟨-, rb, ro, rc, rfl, -⟩ := id hr4; have zz4 := hx4.size; have g3 := hx4.cell (hx3.cell (kc_drew g1)); have g4 := hx4.free (hx3.free (kf_drew g2) (by simp; omega)) (by simp; omega)))
      go_wp2
      refine bodyPost_ret (v := .tuple #[.agg #[.slice (some ⟨rb, ro, none⟩) (quoT t (cosL t m)).length rc], .int .i64 0]) (by simp [results, Tryz.results8, go_sem, g3]) rfl ⟨_, rfl, ?_, ((hX2.drew.trans hx3).trans hx4).setNew (by simp only []; omega) _⟩
      exact Rows.toR (hr4.setNil g3 (.slice (some ⟨rb, ro, none⟩) (quoT t (cosL t m)).length rc))

set_option maxRecDepth 100000 in
set_option maxHeartbeats 1000000 in
theorem QuotientGroup_impl (t : List (List Int)) (v : Value) (a : Int) (w : World) (hv : Rows w v t) :
    Calls Tryz.prog 7 #[.agg #[v], .int .i64 a] w (NewGC (quoV t a) (quoC t a) w) := by
  obtain ⟨hlen, b, o, c, rfl, hc⟩ := id hv
  have hx0 := ext_box2 w (.slice (some ⟨b, o, none⟩) t.length c) (.slice none 0 0) 26 26
  have b0 : ((w.alloc (.cells #[.slice (some ⟨b, o, none⟩) t.length c] 26)).alloc (.cells #[.slice none 0 0] 26)).cell? ⟨w.heap.size, 0, none⟩ = some (.slice (some ⟨b, o, none⟩) t.length c) := by simp [go_sem]
  have r0 : ((w.alloc (.cells #[.slice (some ⟨b, o, none⟩) t.length c] 26)).alloc (.cells #[.slice none 0 0] 26)).cell? ⟨w.heap.size + 1, 0, none⟩ = some (.slice none 0 0) := by simp [go_sem]
  have q0 : ((w.alloc (.cells #[.slice (some ⟨b, o, none⟩) t.length c] 26)).alloc (.cells #[.slice none 0 0] 26)).frozen? ⟨w.heap.size + 1, 0, none⟩ = false := by simp [go_sem]
  have z0 : w.heap.size + 2 ≤ ((w.alloc (.cells #[.slice (some ⟨b, o, none⟩) t.length c] 26)).alloc (.cells #[.slice none 0 0] 26)).heap.size := by simp
  clear hc
  cases hz : (subC t a != 0) with
  | true =>
    have hz' : subC t a ≠ 0 := by simpa using hz
    rw [(quo_bad hz').1, (quo_bad hz').2]
    have hz2 : (subC t a == 0) = false := by simpa using hz
    clear hz'
    go_enter Tryz.func7, Tryz.ntmps7
    go_wp2_with fail
    generalize ((w.alloc (.cells #[.slice (some ⟨b, o, none⟩) t.length c] 26)).alloc (.cells #[.slice none 0 0] 26)) = A at *
    refine (checkSubgroup_any t _ _ _ (hv.ext hx0)).mono ?_
    rintro e w1 ⟨rfl, hx1⟩
    have f1 := hx1.cell r0
    have f2 := hx1.free q0 (by simp only []; omega)
    have b1 := hx1.cell b0
    have zz := hx1.size
    go_wp2
    refine bodyPost_ret (v := .tuple #[.agg #[.slice none 0 0], .int .i64 (subC t a)]) (by simp [results, Tryz.results7, go_sem, f1]) rfl ⟨_, rfl, OwnV.nil _ _ _, (hx0.trans hx1).setNew (by simp only []; omega) _⟩
  | false =>
    have hz' : subC t a = 0 := by simpa using hz
    obtain ⟨hg, m, rfl, hm, -⟩ := subC_zero hz'
    have HZ := Lib.hid hz'
    have HM := Lib.hid hm
    have HG := Lib.hid (groupB_iff.1 hg)
    have h12 := HG.out.1.2.1
    have HQL := Lib.hid (length_cosL t m)
    clear hz hz' hm hg
    cases hn : normB t m with
    | false =>
      rw [(quo_no HZ.out hn).1, (quo_no HZ.out hn).2]
      go_enter Tryz.func7, Tryz.ntmps7
      go_wp2_with fail
      generalize ((w.alloc (.cells #[.slice (some ⟨b, o, none⟩) t.length c] 26)).alloc (.cells #[.slice none 0 0] 26)) = A at *
      refine (checkSubgroup_any t _ _ _ (hv.ext hx0)).mono ?_
      rintro e w1 ⟨rfl, hx1⟩
      have f1 := hx1.cell r0
      have f2 := hx1.free q0 (by simp only []; omega)
      have b1 := hx1.cell b0
      have zz := hx1.size
      rw [HZ.out]
      go_wp2_with fail
      refine (isNormal_any t _ m _ (hv.ext (hx0.trans hx1)) HG.out HM.out).mono ?_
      rintro e w2 ⟨rfl, hx2⟩
      rw [hn]
      have g1 := hx2.cell f1
      have g2 := hx2.free f2 (by simp only []; omega)
      have c1 := hx2.cell b1
      have zz2 := hx2.size
      have hX2 := (hx0.trans hx1).trans hx2
      go_wp2
      refine bodyPost_ret (v := .tuple #[.agg #[.slice none 0 0], .int .i64 5]) (by simp [results, Tryz.results7, go_sem, g1]) rfl ⟨_, rfl, OwnV.nil _ _ _, hX2.setNew (by simp only []; omega) _⟩
    | true =>
      rw [(quo_yes HZ.out hn).1, (quo_yes HZ.out hn).2]
      go_enter Tryz.func7, Tryz.ntmps7
      go_wp2_with fail
      generalize ((w.alloc (.cells #[.slice (some ⟨b, o, none⟩) t.length c] 26)).alloc (.cells #[.slice none 0 0] 26)) = A at *
      refine (checkSubgroup_any t _ _ _ (hv.ext hx0)).mono ?_
      rintro e w1 ⟨rfl, hx1⟩
      have f1 := hx1.cell r0
      have f2 := hx1.free q0 (by simp only []; omega)
      have b1 := hx1.cell b0
      have zz := hx1.size
      rw [HZ.out]
      go_wp2_with fail
      refine (isNormal_any t _ m _ (hv.ext (hx0.trans hx1)) HG.out HM.out).mono ?_
      rintro e w2 ⟨rfl, hx2⟩
      rw [hn]
      have g1 := hx2.cell f1
      have g2 := hx2.free f2 (by simp only []; omega)
      have c1 := hx2.cell b1
      have zz2 := hx2.size
      have hX2 := (hx0.trans hx1).trans hx2
      go_wp2_with fail
      refine (cosets_any t _ m _ (hv.ext hX2) HG.out.1 HM.out).mono ?_
      rintro e w3 ⟨b3, c3, rfl, hi3, hx3⟩
      have g3 := hx3.cell g1
      have g4 := hx3.free g2 (by simp only []; omega)
      have c3' := hx3.cell c1
      have zz3 := hx3.size
      have hX3 := hX2.trans hx3
      have hii : Ints w3 (.slice (some ⟨b3, 0, none⟩) t.length c3) (cosL t m) := ⟨by rw [HQL.out]; omega, b3, 0, c3, by rw [HQL.out], hi3⟩
      have HII := Lib.hid hii
      clear hii hi3
      go_wp2_with fail
      refine (quotientTable_any t (cosL t m) _ _ _ (hv.ext hX3) HII.out HG.out.1 HQL.out).mono ?_
      rintro e w4 ⟨rb, rc, rfl, ho, hx4⟩
      have f3 := hx4.cell g3
      have f4 := hx4.free g4 (by simp only []; omega)
      have zz4 := hx4.size
      have hql : (quoT t (cosL t m)).length ≤ 12 := by rw [← quoT_def, length_mkT]; have := quoN_le t (cosL t m); omega
      go_wp2
      refine bodyPost_ret (v := .tuple #[.agg #[.slice (some ⟨rb, 0, none⟩) (quoT t (cosL t m)).length rc], .int .i64 0]) (by simp [results, Tryz.results7, go_sem, f3]) rfl ⟨_, rfl, ?_, (hX3.trans hx4).setNew (by simp only []; omega) _⟩
      have := ((ho.setOther (a := ⟨w.heap.size + 1, 0, none⟩) (.inl (by simp only []; omega)) (.slice (some ⟨rb, 0, none⟩) (quoT t (cosL t m)).length rc)).mono (lo' := w.heap.size) (hi' := w4.heap.size) (by omega) (Nat.le_refl _)).v (by rw [← quoT_def]; exact small_mkT (by have := quoN_le t (cosL t m); omega) _) rc
      simpa using this

end Go.Proofs.YtbfhecckapgpnaaGreat
