/-
  Contracts of QuotientGroup: reference and program.
-/
import Derived.Test.YtjcpeenalbgacaaProg
import Derived.Deep.DeepCutAuto
import Derived.Deep.RegionWith
import Derived.Deep.RegionHeld3
import Derived.Deep.DrawnRows
import Derived.Test.YtjcpeenalbgacaaBase
import Derived.Test.YtjcpeenalbgacaaBase2
import Derived.Test.YtjcpeenalbgacaaRet
import Derived.Test.YtjcpeenalbgacaaSteps
import Derived.Test.YtjcpeenalbgacaaGrow
import Derived.Test.YtjcpeenalbgacaaGrowR
import Derived.Test.YtjcpeenalbgacaaPure1
import Derived.Test.YtjcpeenalbgacaaPureOrd
import Derived.Test.YtjcpeenalbgacaaPureInv
import Derived.Test.YtjcpeenalbgacaaPureTurn
import Derived.Test.YtjcpeenalbgacaaPureConj
import Derived.Test.YtjcpeenalbgacaaPureSet
import Derived.Test.YtjcpeenalbgacaaPureNorm
import Derived.Test.YtjcpeenalbgacaaPureNum
import Derived.Test.YtjcpeenalbgacaaPureQuo
import Derived.Test.YtjcpeenalbgacaaW1
import Derived.Test.YtjcpeenalbgacaaW3
import Derived.Test.YtjcpeenalbgacaaW6
import Derived.Test.YtjcpeenalbgacaaW8
import Derived.Test.YtjcpeenalbgacaaW11
import Derived.Test.YtjcpeenalbgacaaW12
import Derived.Test.YtjcpeenalbgacaaW13
import Derived.Test.YtjcpeenalbgacaaW17
import Derived.Test.YtjcpeenalbgacaaW20
import Derived.Test.YtjcpeenalbgacaaW33
import Derived.Test.YtjcpeenalbgacaaW34
import Derived.Test.YtjcpeenalbgacaaW41
import Derived.Test.YtjcpeenalbgacaaW42
import Derived.Test.YtjcpeenalbgacaaW48
import Derived.Test.YtjcpeenalbgacaaW56
import Derived.Test.YtjcpeenalbgacaaW57
import Derived.Test.YtjcpeenalbgacaaW58
import Derived.Test.YtjcpeenalbgacaaK3
namespace Go.Proofs.Ytjcpeenalbgacaa
set_option linter.unusedVariables false
set_option linter.unusedSimpArgs false
open Go.RowKit
attribute [local go_sem ↓] Go.wp_at_zero Go.wp_at_succ

set_option maxRecDepth 100000 in
set_option maxHeartbeats 1000000 in
theorem l04Quotient_any (t : List (List Int)) (cl : List Int) (v cv : Value) (w : World) (hv : Rows w v t) (hcv : Ints w cv cl) (hT : TableOk t) (hcl : cl.length = t.length) (hle : ∀ i, i < t.length → ix cl i ≤ ((firTo cl i).length : Int)) :
    Calls Try.prog 87 #[v, cv] w fun e w' => ∃ v', e = .returned v' ∧ Rows w' v' (quoT t cl) ∧ Ext w w' := by
  obtain ⟨hlen, b, o, c, rfl, hc⟩ := id hv
  obtain ⟨hlen2, b2, o2, c2, rfl, hc2⟩ := id hcv
  have h12 := hT.2.1
  have HT := Lib.hid hT
  have HCL := Lib.hid hcl
  have HLE := Lib.hid hle
  have HNL := quoN_le t cl
  have HLT := Lib.hid (show (quoT t cl).length = quoN t cl by rw [← quoT_def, length_mkT])
  clear hT hle
  rw [hcl]
  clear hcl
  go_enter Try.func87, Try.ntmps87
  go_wp2
  have hx0 : Ext w (w.alloc (.cells #[] 26)) := (Ext.refl _).alloc _
  have hg0 := GrowT.lit (e := 26) (base := w.heap.size) (w := w) (Nat.le_refl _)
  go_loopw [5, 6] (fun v x wr => ∃ k : Nat, k ≤ t.length ∧ x = .int .i64 k ∧ GrowT 26 w.heap.size wr v ((quoT t cl).take (firTo cl k).length) ∧ v ≠ .slice none 0 0 ∧ Ext w wr) (fun _ x _ => t.length - (intOf x).toNat)
  case atStart => exact ⟨0, Nat.zero_le _, rfl, hg0, by simp, hx0⟩
  case round =>
    clear hx0 hg0
    obtain ⟨k, hk, rfl, hg, hv', hx⟩ := hrel
    have HV := Lib.hid hv'
    clear hv'
    have hm := quoN_mono (t := t) (c := cl) hk
    have HTL := Lib.hid (show ((quoT t cl).take (firTo cl k).length).length = (firTo cl k).length by rw [List.length_take, HLT.out]; omega)
    by_cases hkl : k < t.length
    case neg =>
      have hkk : k = t.length := by omega
      subst hkk
      have hta : (quoT t cl).take (firTo cl t.length).length = quoT t cl := List.take_of_length_le (by rw [HLT.out, quoN_def]; omega)
      rw [hta] at hg
      have hr := hg.rows (by rw [HLT.out]; omega) HV.out
      go_wp2
      go_ret
      exact ⟨_, rfl, hr, hx⟩
    case pos =>
      obtain ⟨ga, gc, hgv⟩ := hg.slice
      rw [HTL.out] at hgv
      subst hgv
      have e0 := (hc2.ext hx) k (by rw [HCL.out]; exact hkl)
      have hle := HLE.out k hkl
      have hfl := firTo_len cl k
      cases hq : (ix cl k == ((firTo cl k).length : Int)) with
      | false =>
        have hlt : ix cl k < ((firTo cl k).length : Int) := by
          have : ix cl k ≠ ((firTo cl k).length : Int) := by simpa using hq
          omega
        have HF := Lib.hid (firTo_no hq)
        clear hq
        go_wp2
        go_roundw
        case rel => exact ⟨k + 1, by omega, by go_num, by rw [HF.out]; exact hg, HV.out, hx⟩
        case measure => simp [intOf]; omega
      | true =>
        have heq : ix cl k = ((firTo cl k).length : Int) := by simpa using hq
        have hnl : ¬ ix cl k < ((firTo cl k).length : Int) := by omega
        have HQ := Lib.hid hq
        clear hq heq
        have hrn := quoN_at hkl HQ.out
        have HF := Lib.hid (firTo_yes HQ.out)
        obtain ⟨w2, rfl⟩ : ∃ w2 : World, w2 = wr := ⟨_, rfl⟩
        obtain ⟨d1, s1, m1, r1, l1⟩ := (hc.ext hx).read HT.out rfl hkl
        have L1 := Lib.hid l1
        have HRL := Lib.hid (show (row (quoT t cl) (firTo cl k).length).length = quoN t cl by rw [← quoT_def, row_mkT _ _ _ hrn, length_partRow])
        have HO := Lib.hid hg.lt
        clear l1
        go_wp2
        have hxa : Ext w2 (w2.alloc (.cells #[] 2)) := (Ext.refl _).alloc _
        have hi0 := GrowI.lit (e := 2) (base := w2.heap.size) (w := w2) (Nat.le_refl _)
        go_loopw [7, 8] (fun v y wr => ∃ j : Nat, j ≤ t.length ∧ y = .int .i64 j ∧ GrowI 2 w2.heap.size wr v ((row (quoT t cl) (firTo cl k).length).take (firTo cl j).length) ∧ v ≠ .slice none 0 0 ∧ Ext w2 wr) (fun _ y _ => t.length - (intOf y).toNat)
        case atStart => exact ⟨0, Nat.zero_le _, rfl, hi0, by simp, hxa⟩
        case round =>
          clear hxa hi0
          obtain ⟨j, hj, rfl, hi, hvr, hx2⟩ := hrel
          have HVR := Lib.hid hvr
          clear hvr
          have hmj := quoN_mono (t := t) (c := cl) hj
          have HTJ := Lib.hid (show ((row (quoT t cl) (firTo cl k).length).take (firTo cl j).length).length = (firTo cl j).length by rw [List.length_take, HRL.out]; omega)
          by_cases hjl : j < t.length
          case neg =>
            have hjj : j = t.length := by omega
            subst hjj
            have hta : (row (quoT t cl) (firTo cl k).length).take (firTo cl t.length).length = row (quoT t cl) (firTo cl k).length := List.take_of_length_le (by rw [HRL.out, quoN_def]; omega)
            rw [hta] at hi
            obtain ⟨br, cr, rfl, hri, hrb, hrb2⟩ := hi.row HVR.out
            have hgw := hg.ext hx2
            have hne : some br ≠ (Value.slice ga (firTo cl k).length gc).ownBlock := fun e => by have := HO.out br e.symm; omega
            have HT1 := Lib.hid (show (quoT t cl).take (firTo cl (k + 1)).length = (quoT t cl).take (firTo cl k).length ++ [row (quoT t cl) (firTo cl k).length] by rw [HF.out, List.length_append]; exact take_row _ _ (by rw [HLT.out]; exact hrn))
            clear hg
            go_wp2_with (at_builtin; refine wpList_append_row rfl _ _ 22 26 rfl Try.underlying22 infoSl w.heap.size _ _ rfl (hgw.ext (ext_box _ _ _)) _ br cr _ rfl (cell_new _ _ _) (hri.ext (ext_box _ _ _)) (by rw [HRL.out]; omega) hne (by rw [HTL.out]; omega) (by have := hx.size; have := hx2.size; simp; omega) ?_)
            intro v' w3 hg3 hgr hv3
            have hx3 : Ext w w3 := (hx.trans (hx2.trans (ext_box _ _ _))).grown hgr (hgw.ext (ext_box _ _ _)).own.choose_spec (Nat.le_refl _)
            clear hgr hne hgw
            go_wp2
            go_roundw
            case rel => exact ⟨k + 1, by omega, by go_num, by rw [HT1.out]; exact hg3, hv3, hx3⟩
            case measure => simp [intOf]; omega
          case pos =>
            obtain ⟨ra, rc, hrv⟩ := hi.slice
            rw [HTJ.out] at hrv
            subst hrv
            have e1 := (hc2.ext (hx.trans hx2)) j (by rw [HCL.out]; exact hjl)
            have hfj := firTo_len cl j
            cases hq : (ix cl j == ((firTo cl j).length : Int)) with
            | false =>
              have HFJ := Lib.hid (firTo_no hq)
              go_wp2
              go_roundw
              case rel => exact ⟨j + 1, by omega, by go_num, by rw [HFJ.out]; exact hi, HVR.out, hx2⟩
              case measure => simp [intOf]; omega
            | true =>
              obtain ⟨e3, i1, i2⟩ := L1.out j hjl
              have e4 := hx2.cell r1
              have e5 := hx2.cell e3
              have e6 := (hc2.ext (hx.trans hx2)) (ent t k j).toNat (by rw [HCL.out]; omega)
              have hjn := quoN_at hjl hq
              have HT1 := Lib.hid (show (row (quoT t cl) (firTo cl k).length).take (firTo cl (j + 1)).length = (row (quoT t cl) (firTo cl k).length).take (firTo cl j).length ++ [ix cl (ent t k j).toNat] by
                rw [firTo_yes hq, List.length_append]
                rw [show (firTo cl j).length + [(j : Int)].length = (firTo cl j).length + 1 from rfl, take_ix _ _ (by rw [HRL.out]; exact hjn), ← quoT_def, row_mkT _ _ _ hrn, ix_partRow _ _ _ _ _ hjn, if_pos hjn, quoF_at hkl hjl HQ.out hq])
              go_wp2_with (at_builtin; refine wpList_append_int rfl _ _ 26 2 rfl Try.underlying26 infoInt w2.heap.size _ _ rfl (hi.alloc _) _ _ rfl (cell_new _ _ _) (by rw [HTJ.out]; omega) (by have := hx2.size; simp; omega) ?_)
              intro v' w3 hi3 hgr hv3
              have hx3 : Ext w2 w3 := (hx2.trans (ext_box _ _ _)).grown hgr (hi.alloc _) (Nat.le_refl _)
              clear hgr
              go_wp2
              go_roundw
              case rel => exact ⟨j + 1, by omega, by go_num, by rw [HT1.out]; exact hi3, hv3, hx3⟩
              case measure => simp [intOf]; omega

end Go.Proofs.Ytjcpeenalbgacaa
