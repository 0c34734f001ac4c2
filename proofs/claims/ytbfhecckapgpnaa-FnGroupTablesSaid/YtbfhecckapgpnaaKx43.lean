/-
  Contracts: cosets and the tables of quotients; reference and program.
-/
import Derived.Test.YtbfhecckapgpnaaProg
import Derived.Deep.DeepCutAuto
import Derived.Deep.RegionWith
import Derived.Deep.RegionHeld3
import Derived.Deep.DrawnRows
import Derived.StillTailTactics
import Derived.Deep.RegionLaw
import Derived.Test.YtbfhecckapgpnaaKx0
import Derived.Test.YtbfhecckapgpnaaKx1
import Derived.Test.YtbfhecckapgpnaaKx2
import Derived.Test.YtbfhecckapgpnaaKx8
import Derived.Test.YtbfhecckapgpnaaKx9
import Derived.Test.YtbfhecckapgpnaaKx7
import Derived.Test.YtbfhecckapgpnaaKx3
import Derived.Test.YtbfhecckapgpnaaKx22
import Derived.Test.YtbfhecckapgpnaaKx5
import Derived.Test.YtbfhecckapgpnaaKx12
import Derived.Test.YtbfhecckapgpnaaKx6
import Derived.Test.YtbfhecckapgpnaaKx14
import Derived.Test.YtbfhecckapgpnaaKx33
import Derived.Test.YtbfhecckapgpnaaKx42
namespace Go.Proofs.Ytbfhecckapgpnaa
set_option linter.unusedVariables false
set_option linter.unusedSimpArgs false
open Go.RowKit
attribute [local go_sem ↓] Go.wp_at_zero Go.wp_at_succ

/-- the least product of x with the members below k -/
@[irreducible] def cosK (t : List (List Int)) (m x k : Nat) : Int := cosG t x (elemsTo m k)
theorem cosK_zero (t m x) : cosK t m x 0 = (x : Int) := by unfold cosK; rw [elemsTo_zero, cosG_nil]
theorem cosK_yes {t : List (List Int)} {m x k : Nat} (h : bitB m k = true) : cosK t m x (k + 1) = min (cosK t m x k) (ent t x k) := by unfold cosK; rw [elemsTo_yes h, cosG_add, Int.toNat_natCast]
theorem cosK_no {t : List (List Int)} {m x k : Nat} (h : bitB m k = false) : cosK t m x (k + 1) = cosK t m x k := by unfold cosK; rw [elemsTo_no h]
theorem cosK_all {t : List (List Int)} {m : Nat} (hm : m < 2 ^ t.length) (h12 : t.length ≤ 12) (x : Nat) : cosK t m x t.length = cosF t m x := by unfold cosK; rw [← elemsL_eq hm (by omega), cosF_def]

set_option maxRecDepth 100000 in
theorem elementsOf_new (m : Nat) (w : World) (hm : m < 2 ^ 62) :
    Calls Try.prog 95 #[.int .i64 m] w fun e w' => ∃ v, e = .returned v ∧ OwnIV w.heap.size w'.heap.size w' v (elemsL m) ∧ Ext w w' := by
  have HM := Lib.hid hm
  clear hm
  go_enter Try.func95, Try.ntmps95
  go_wp2
  go_loopw [3, 4] (fun v x wr => ∃ k : Nat, k ≤ 62 ∧ x = .int .i64 k ∧ GrowI 2 w.heap.size wr v (elemsTo m k) ∧ Ext w wr) (fun _ x _ => 62 - (intOf x).toNat)
  case atStart => exact ⟨0, by omega, rfl, by rw [elemsTo_zero]; exact GrowI.nil _ _ _, Ext.refl _⟩
  case round =>
    obtain ⟨k, hk, rfl, hg, hx⟩ := hrel
    have hlen := elemsTo_len m k
    by_cases hp : 0 < (m : Int) / 2 ^ k
    case neg =>
      have HL := Lib.hid (elemsL_eq (lt_of_not_pos hp) hk)
      have hs := (hg.ownIV (hi := wr.heap.size) (by omega) (Nat.le_refl _))
      go_wp2
      go_ret
      exact ⟨u3, rfl, by rw [HL.out]; exact hs, hx⟩
    case pos =>
      have hk2 := k_lt_of_pos hp HM.out
      cases hb : bitB m k with
      | false =>
        go_wp2_with (go_at_call 94; refine (hasBit_any m k _ (by omega)).mono ?_; rintro e w' ⟨rfl, rfl⟩; rw [hb])
        go_roundw
        case rel => exact ⟨k + 1, by omega, by go_num, by rw [elemsTo_no hb]; exact hg, hx⟩
        case measure => simp [intOf]; omega
      | true =>
        go_wp2_with (first | (go_at_call 94; refine (hasBit_any m k _ (by omega)).mono ?_; rintro e w' ⟨rfl, rfl⟩; rw [hb]) | (at_builtin; refine wpList_append_int rfl _ _ 45 2 rfl Try.underlying45 infoInt w.heap.size _ _ rfl (hg.alloc _) _ _ rfl (cell_new _ _ _) (by omega) (by have := hx.size; simp; omega) ?_))
        intro v' w3 hi3 hgr hv3
        have hx3 : Ext w w3 := (hx.trans (ext_box _ _ _)).grown hgr (hg.alloc _) (Nat.le_refl _)
        clear hgr hg
        go_wp2
        go_roundw
        case rel => exact ⟨k + 1, by omega, by go_num, by rw [elemsTo_yes hb]; exact hi3, hx3⟩
        case measure => simp [intOf]; omega

set_option maxRecDepth 100000 in
set_option maxHeartbeats 1000000 in
theorem cosets_any (t : List (List Int)) (v : Value) (m : Nat) (w : World) (hv : Rows w v t) (hT : TableOk t) (hm : m < 2 ^ t.length) :
    Calls Try.prog 73 #[v, .int .i64 m] w fun e w' => ∃ b c, e = .returned (.slice (some ⟨b, 0, none⟩) t.length c) ∧ IntsAt w' b 0 (cosL t m) ∧ Ext w w' := by
  obtain ⟨hlen, b, o, c, rfl, hc⟩ := id hv
  have h12 := hT.2.1
  have H62 := Lib.hid (lt62 h12 hm)
  have HT := Lib.hid hT
  have HM := Lib.hid hm
  have HLC := Lib.hid (length_coL t m)
  have HE := Lib.hid (fun i (h : i < (elemsL m).length) => elemsL_get (k := t.length) HM.out (by omega) h)
  have hlL := elemsL_len m
  have hmk := run_make_row' (P := Try.prog) 45 2 (.int .i64 0) 8 Try.underlying45 infoInt rfl .i64 .i64 t.length (by omega) (by omega)
  clear hT hm
  go_enter Try.func73, Try.ntmps73
  go_wp2_with fail
  clear hmk
  have hx0 : Ext w (w.alloc (.cells (madeCells #[Value.int .i64 0] t.length) 2)) := (Ext.refl _).alloc _
  have hr0 := World.rowIs_made w (.int .i64 0) t.length 2
  have hz0 : w.heap.size + 1 ≤ (w.alloc (.cells (madeCells #[Value.int .i64 0] t.length) 2)).heap.size := by simp
  go_loopw [14] (fun i wr => ∃ k : Nat, k ≤ t.length ∧ i = .int .i64 k ∧ wr.rowIs w.heap.size 2 t.length (fun i => .int .i64 (copyTo (coL t m) k i)) ∧ Ext w wr ∧ w.heap.size + 1 ≤ wr.heap.size) (fun i _ => t.length - (intOf i).toNat)
  case atStart => exact ⟨0, Nat.zero_le _, rfl, hr0.congr (fun i hi => by rw [copyTo_zero]), hx0, hz0⟩
  case round =>
    clear hx0 hr0 hz0
    obtain ⟨k, hk, rfl, hrow, hx, hz⟩ := hrel
    by_cases hkl : k < t.length
    case neg =>
      have hkk : k = t.length := by omega
      subst hkk
      have hi : IntsAt wr w.heap.size 0 (coL t m) := (ownI_of_row hrow (by rw [HLC.out]; omega) (fun i hi => by rw [HLC.out] at hi; rw [copyTo_all _ _ _ hi]) (Nat.le_refl _) hrow.lt).2.2.1
      have hii : Ints wr (.slice (some ⟨w.heap.size, 0, none⟩) t.length t.length) (coL t m) := ⟨by rw [HLC.out]; omega, w.heap.size, 0, t.length, by rw [HLC.out], hi⟩
      have HI := Lib.hid hii
      clear hi hii
      go_wp2_with fail
      refine (numbered_any (coL t m) _ _ HI.out).mono ?_
      rintro e w2 ⟨b2, c2, rfl, ho2, hx2⟩
      rw [HLC.out]
      go_wp2
      go_ret
      exact ⟨b2, c2, rfl, by rw [← cosL_def]; exact ho2.2.2.1, hx.trans hx2⟩
    case pos =>
      have e2 := hrow.cell hkl
      have e3 := hrow.frozen k
      have hrow1 := (hrow.set k (.int .i64 (k : Int)))
      have hx1 : Ext w (wr.setCell ⟨w.heap.size, k, none⟩ (.int .i64 (k : Int))) := hx.setNew (Nat.le_refl _) _
      have hz1 : w.heap.size + 1 ≤ (wr.setCell ⟨w.heap.size, k, none⟩ (.int .i64 (k : Int))).heap.size := by simpa using hz
      go_wp2_with fail
      generalize wr.setCell ⟨w.heap.size, k, none⟩ (.int .i64 (k : Int)) = w2 at *
      refine (elementsOf_new m _ H62.out).mono ?_
      rintro e w3 ⟨v3, rfl, hr3, hx3⟩
      obtain ⟨hl3, a3, c3, rfl, hr⟩ := hr3
      have HR := Lib.hid hr
      have hrow3 := hrow1.of_block (hx3.block _ hrow1.lt)
      have hxw3 := hx1.trans hx3
      have hz3 := hx3.size
      obtain ⟨d1, s1, m1, r1, l1⟩ := (hc.ext hxw3).read HT.out rfl hkl
      have L1 := Lib.hid l1
      clear hr hrow hrow1 l1 e2 e3
      have HRO : OwnIV w2.heap.size w3.heap.size w3 (.slice a3 (elemsL m).length c3) (elemsL m) := ⟨hl3, a3, c3, rfl, HR.out⟩
      have hw2 := hx1.size
      have hb2 : w.heap.size < w2.heap.size := by omega
      go_wp2
      go_loopw [24] (fun i wr => ∃ j : Nat, j ≤ (elemsL m).length ∧ i = .int .i64 j ∧ wr.rowIs w.heap.size 2 t.length (fun i => if i = k then .int .i64 (cosG t k ((elemsL m).take j)) else .int .i64 (copyTo (coL t m) k i)) ∧ Ext w wr ∧ OwnIV w2.heap.size w3.heap.size wr (.slice a3 (elemsL m).length c3) (elemsL m) ∧ w3.heap.size ≤ wr.heap.size) (fun i _ => (elemsL m).length - (intOf i).toNat)
      case atStart => exact ⟨0, Nat.zero_le _, rfl, hrow3.congr (fun i hi => by rw [List.take_zero, cosG_nil]), hxw3, HRO, Nat.le_refl _⟩
      case round =>
        clear hrow3 hxw3 HRO
        obtain ⟨j, hj, rfl, hrow, hxw, hro, hzw⟩ := hrel
        by_cases hjl : j < (elemsL m).length
        case neg =>
          have hjj : j = (elemsL m).length := by omega
          subst hjj
          go_wp2
          go_roundw
          case rel => exact ⟨k + 1, by omega, by go_num, hrow.congr (fun i hi => by
            rw [copyTo_succ, ix_coL _ _ _ hkl, List.take_length, cosF_def]; split <;> rfl), hxw, by omega⟩
          case measure => simp [intOf]; omega
        case pos =>
          obtain ⟨-, ga, gc, he3, hgi⟩ := id hro
          simp only [Value.slice.injEq] at he3
          obtain ⟨rfl, -, rfl⟩ := he3
          obtain ⟨gb, go', rfl, hoi⟩ := hgi (ne_nil_of_lt hjl)
          obtain ⟨y, hy, bY, ey⟩ := HE.out j hjl
          have e1 := hoi.2.2.1 j hjl
          rw [ey] at e1
          have HTJ := Lib.hid (show (elemsL m).take (j + 1) = (elemsL m).take j ++ [(y : Int)] by rw [take_ix _ _ hjl, ey])
          have HCS := Lib.hid (cosG_add t k ((elemsL m).take j) (y : Int))
          rw [Int.toNat_natCast] at HCS
          have e2 : wr.cell? ⟨w.heap.size, k, none⟩ = some (.int .i64 (cosG t k ((elemsL m).take j))) := by have := hrow.cell hkl; simpa using this
          have e3 := hrow.frozen k
          obtain ⟨e4, i1, i2⟩ := L1.out y hy
          obtain ⟨d2, s2, m2, r2, l2⟩ := (hc.ext hxw).read HT.out rfl hkl
          obtain ⟨e5, -, -⟩ := l2 y hy
          clear ey hoi hgi bY l2 e4 r1
          by_cases hm : ent t k y < cosG t k ((elemsL m).take j)
          all_goals
            go_wp2_with fail
            go_still_tail 15, (by kernel_rfl)
            change wpList _ _ _ _ _ wr.drew
            have z1 := kc_drew e2
            have z2' : wr.drew.frozen? ⟨w.heap.size, k, none⟩ = false := e3
            have hxd := hxw.drew
            have hrd : wr.drew.rowIs w.heap.size 2 t.length (fun i => if i = k then .int .i64 (cosG t k ((elemsL m).take j)) else .int .i64 (copyTo (coL t m) k i)) := hrow
            have hrod := hro.keep (w' := wr.drew) (fun _ _ _ => rfl)
            have hzd : w3.heap.size ≤ wr.drew.heap.size := hzw
            generalize wr.drew = w6 at *
            go_wp2
            go_roundw
            case rel => exact ⟨j + 1, by omega, by go_num, (hrd.set k _).congr (fun i hi => by
              by_cases h : i = k
              · rw [if_pos h, if_pos h, HTJ.out, HCS.out]; congr 1; omega
              · rw [if_neg h, if_neg h, if_neg h]), hxd.setNew (Nat.le_refl _) _, hrod.keep (fun q hq _ => by rw [Below.heap_setCell _ _ _ _ (by simp only []; omega)]), by simpa using hzd⟩
            case measure => simp [intOf]; omega

end Go.Proofs.Ytbfhecckapgpnaa
