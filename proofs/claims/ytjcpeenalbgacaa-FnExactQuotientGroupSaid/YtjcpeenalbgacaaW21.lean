/-
  Contracts: the table the other way round.
-/
import Derived.Test.YtjcpeenalbgacaaProg
import Derived.Test.YtjcpeenalbgacaaBase
import Derived.Test.YtjcpeenalbgacaaBase2
import Derived.Test.YtjcpeenalbgacaaRet
import Derived.Test.YtjcpeenalbgacaaGrow
import Derived.Test.YtjcpeenalbgacaaPure1
import Derived.Test.YtjcpeenalbgacaaPureOrd
import Derived.Test.YtjcpeenalbgacaaPureInv
import Derived.Test.YtjcpeenalbgacaaPureTurn
import Derived.Test.YtjcpeenalbgacaaW1
import Derived.Test.YtjcpeenalbgacaaW7
import Derived.Test.YtjcpeenalbgacaaW8
import Derived.Test.YtjcpeenalbgacaaW12
import Derived.Test.YtjcpeenalbgacaaW13
import Derived.Test.YtjcpeenalbgacaaW3
import Derived.Test.YtjcpeenalbgacaaW6
import Derived.Test.YtjcpeenalbgacaaW11
namespace Go.Proofs.Ytjcpeenalbgacaa
set_option linter.unusedVariables false
set_option linter.unusedSimpArgs false
open Go.RowKit

theorem transposed1_any (t : List (List Int)) (v : Value) (x y B : Nat) (w : World) (hB : w.cell? ⟨B, 0, none⟩ = some v) (hv : Rows w v t) (hT : TableOk t) (hx : x < t.length) (hy : y < t.length) :
    Calls Try.prog 111 #[.int .i64 x, .int .i64 y, .pointer (some ⟨B, 0, none⟩)] w fun e w' => e = .returned (.int .i64 (turnF t x y)) ∧ Ext w w' := by
  obtain ⟨hlen, b, o, c, rfl, hc⟩ := id hv
  obtain ⟨b1, o1, c1, hr, hc1, hl1⟩ := hc.get hy
  have f1 := hc1.ent (hT.len hy) hx
  rw [hT.len hy] at hr
  rw [turnF_def]
  go_enter Try.func111, Try.ntmps111
  go_wp2
  go_ret
  exact ⟨rfl, Ext.refl _⟩

theorem callTransposed1 (args : Array Value) (w : World) : (callFunc 111 args).run Try.prog w = .ok (.enter 111 args) w :=
  callFunc_enter Try.func111 (by kernel_rfl) rfl args w

theorem transposed_any (t : List (List Int)) (v : Value) (w : World) (hv : Rows w v t) (hT : TableOk t) :
    Calls Try.prog 69 #[v] w (NewT (turnT t) w) := by
  obtain ⟨hlen, b, o, c, rfl, hc⟩ := id hv
  have hx0 := ext_box w (.slice (some ⟨b, o, none⟩) t.length c) 22
  have b0 := cell_new w (.slice (some ⟨b, o, none⟩) t.length c) 22
  go_enter Try.func69, Try.ntmps69
  go_wp2_with fail
  refine (tableBy_any t.length (turnF t) 111 #[.pointer (some ⟨w.heap.size, 0, none⟩)] _ (by omega) callTransposed1 (fun w1 x y h1 hx hy => by
    rw [app21]
    exact transposed1_any t _ x y w.heap.size w1 (h1.cell b0) (hv.ext (hx0.trans h1)) hT hx hy)).mono ?_
  rintro e w1 ⟨b1, c1, rfl, ho, hx1⟩
  rw [← turnT_def] at ho ⊢
  go_wp2
  go_ret
  exact ⟨b1, c1, rfl, ho.mono (by simp) (Nat.le_refl _), hx0.trans hx1⟩

theorem l01Column_any (t : List (List Int)) (v : Value) (x : Nat) (w : World) (hv : Rows w v t) (hT : TableOk t) (hx : x < t.length) :
    Calls Try.prog 108 #[v, .int .i64 x] w fun e w' => ∃ b c, e = .returned (.slice (some ⟨b, 0, none⟩) t.length c) ∧ IntsAt w' b 0 (row (turnT t) x) ∧ w.heap.size ≤ b ∧ b < w'.heap.size ∧ Ext w w' := by
  obtain ⟨hlen, b, o, c, rfl, hc⟩ := id hv
  have hrl := length_row_turnT t x hx
  have HRL := Lib.hid hrl
  clear hrl
  go_enter Try.func108, Try.ntmps108
  go_wp2
  have hx0 : Ext w (w.alloc (.cells #[] 2)) := (Ext.refl _).alloc _
  have hg0 := GrowI.lit (e := 2) (base := w.heap.size) (w := w) (Nat.le_refl _)
  go_loopw [5, 6] (fun v y wr => ∃ j : Nat, j ≤ t.length ∧ y = .int .i64 j ∧ GrowI 2 w.heap.size wr v ((row (turnT t) x).take j) ∧ v ≠ .slice none 0 0 ∧ Ext w wr) (fun _ y _ => t.length - (intOf y).toNat)
  case atStart => exact ⟨0, Nat.zero_le _, rfl, hg0, by simp, hx0⟩
  case round =>
    clear hx0 hg0
    obtain ⟨j, hj, rfl, hi, hvr, hx2⟩ := hrel
    have HVR := Lib.hid hvr
    clear hvr
    by_cases hjl : j < t.length
    case neg =>
      have hta : (row (turnT t) x).take j = row (turnT t) x := List.take_of_length_le (by rw [HRL.out]; omega)
      rw [hta] at hi
      obtain ⟨br, cr, rfl, hri, hrb, hrb2⟩ := hi.row HVR.out
      rw [HRL.out]
      go_wp2
      go_ret
      exact ⟨br, cr, rfl, hri, hrb, hrb2, hx2⟩
    case pos =>
      obtain ⟨b1, o1, c1, hr, hc1, hl1⟩ := (hc.ext hx2).get hjl
      have f1 := hc1.ent (hT.len hjl) hx
      rw [hT.len hjl] at hr
      clear hc1
      have hlj : ((row (turnT t) x).take j).length = j := by rw [List.length_take, HRL.out]; omega
      have HLJ := Lib.hid hlj
      clear hlj
      go_wp2_with (at_builtin; refine wpList_append_int rfl _ _ 26 2 rfl Try.underlying26 infoInt w.heap.size _ _ rfl (hi.alloc _) _ _ rfl (cell_new _ _ _) (by rw [HLJ.out]; omega) (by have := hx2.size; simp; omega) ?_)
      intro v' w3 hi3 hgr hv3
      have hx3 : Ext w w3 := (hx2.trans (ext_box _ _ _)).grown hgr (hi.alloc _) (Nat.le_refl _)
      clear hgr
      go_wp2
      go_roundw
      case rel => exact ⟨j + 1, by omega, by go_num, by
        rw [take_ix _ _ (by rw [HRL.out]; exact hjl), ent_def, ent_turnT t x j hx hjl]; exact hi3, hv3, hx3⟩
      case measure => simp [intOf]; omega

theorem l01Turn_any (t : List (List Int)) (v : Value) (w : World) (hv : Rows w v t) (hT : TableOk t) :
    Calls Try.prog 67 #[v] w fun e w' => ∃ v, e = .returned v ∧ Rows w' v (turnT t) ∧ Ext w w' := by
  obtain ⟨hlen, b, o, c, rfl, hc⟩ := id hv
  have HLT := Lib.hid (length_turnT t)
  go_enter Try.func67, Try.ntmps67
  go_wp2
  have hx0 : Ext w (w.alloc (.cells #[] 26)) := (Ext.refl _).alloc _
  have hg0 := GrowT.lit (e := 26) (base := w.heap.size) (w := w) (Nat.le_refl _)
  go_loopw [3, 4] (fun v x wr => ∃ k : Nat, k ≤ t.length ∧ x = .int .i64 k ∧ GrowT 26 w.heap.size wr v ((turnT t).take k) ∧ v ≠ .slice none 0 0 ∧ Ext w wr) (fun _ x _ => t.length - (intOf x).toNat)
  case atStart => exact ⟨0, Nat.zero_le _, rfl, hg0, by simp, hx0⟩
  case round =>
    clear hx0 hg0
    obtain ⟨k, hk, rfl, hg, hv', hx⟩ := hrel
    have HV := Lib.hid hv'
    clear hv'
    by_cases hkl : k < t.length
    case neg =>
      go_wp2
      go_ret
      refine ⟨u3, rfl, ?_, hx⟩
      have : (turnT t).take k = turnT t := List.take_of_length_le (by rw [HLT.out]; omega)
      rw [this] at hg
      exact hg.rows (by rw [HLT.out]; omega) HV.out
    case pos =>
      have HO := Lib.hid hg.lt
      have HRL := Lib.hid (length_row_turnT t k hkl)
      obtain ⟨w2, rfl⟩ : ∃ w2 : World, w2 = wr := ⟨_, rfl⟩
      go_wp2_with fail
      refine (l01Column_any t _ k _ (hv.ext hx) hT hkl).mono ?_
      rintro e w3 ⟨br, cr, rfl, hri, hrb, hrb2, hx2⟩
      have hgw := hg.ext hx2
      have hne : some br ≠ u3.ownBlock := fun e => by have := HO.out br e.symm; omega
      have htl : ((turnT t).take k).length = k := by rw [List.length_take, HLT.out]; omega
      have HTL := Lib.hid htl
      clear htl hg
      go_wp2_with (at_builtin; refine wpList_append_row rfl _ _ 22 26 rfl Try.underlying22 infoSl w.heap.size _ _ rfl (hgw.ext (ext_box _ _ _)) _ br cr (row (turnT t) k) rfl (by rw [HRL.out]; exact cell_new _ _ _) (hri.ext (ext_box _ _ _)) (by rw [HRL.out]; omega) hne (by rw [HTL.out]; omega) (by have := hx.size; have := hx2.size; simp; omega) ?_)
      intro v' w4 hg3 hgr hv3
      have hx3 : Ext w w4 := (hx.trans (hx2.trans (ext_box _ _ _))).grown hgr (hgw.ext (ext_box _ _ _)).own.choose_spec (Nat.le_refl _)
      clear hgr hne hgw
      go_wp2
      go_roundw
      case rel => exact ⟨k + 1, by omega, by go_num, by rw [take_row _ _ (by rw [HLT.out]; exact hkl)]; exact hg3, hv3, hx3⟩
      case measure => simp [intOf]; omega
end Go.Proofs.Ytjcpeenalbgacaa
