/-
  Contracts: sets of elements, subgroups.
-/
import Derived.Test.YtjcpeenalbgacaaProg
import Derived.Test.YtjcpeenalbgacaaBase
import Derived.Test.YtjcpeenalbgacaaBase2
import Derived.Test.YtjcpeenalbgacaaRet
import Derived.Test.YtjcpeenalbgacaaGrow
import Derived.Test.YtjcpeenalbgacaaPure1
import Derived.Test.YtjcpeenalbgacaaPureOrd
import Derived.Test.YtjcpeenalbgacaaPureInv
import Derived.Test.YtjcpeenalbgacaaPureTurn
import Derived.Test.YtjcpeenalbgacaaPureSet
import Derived.Test.YtjcpeenalbgacaaW1
import Derived.Test.YtjcpeenalbgacaaW3
import Derived.Test.YtjcpeenalbgacaaW6
import Derived.Test.YtjcpeenalbgacaaW8
import Derived.Test.YtjcpeenalbgacaaW11
import Derived.Test.YtjcpeenalbgacaaW12
import Derived.Test.YtjcpeenalbgacaaW13
import Derived.Test.YtjcpeenalbgacaaW20
import Derived.Test.YtjcpeenalbgacaaK3
namespace Go.Proofs.Ytjcpeenalbgacaa
set_option linter.unusedVariables false
set_option linter.unusedSimpArgs false
open Go.RowKit

theorem hasBit_any (m x : Nat) (w : World) (hx : x ≤ 62) : Calls Try.prog 106 #[.int .i64 m, .int .i64 x] w fun e w' => e = .returned (.bool (bitB m x)) ∧ w = w' := by
  go_enter Try.func106, Try.ntmps106
  go_wp2
  go_ret
  exact ⟨ret_bool (bitB_def m x), rfl⟩

theorem hasBit_ent (m : Nat) (a : Int) (w : World) (h0 : 0 ≤ a) (hx : a ≤ 62) : Calls Try.prog 106 #[.int .i64 m, .int .i64 a] w fun e w' => e = .returned (.bool (bitB m a.toNat)) ∧ w = w' := by
  obtain ⟨x, rfl⟩ := Int.eq_ofNat_of_zero_le h0
  rw [Int.toNat_natCast]
  exact hasBit_any m x w (by omega)

theorem pos_of_bit {m k : Nat} (h : bitB m k = true) (hm : m < 2 ^ 62) : 0 < (m : Int) / 2 ^ k := by
  rw [bitB_test hm] at h
  have := Nat.ge_two_pow_of_testBit h
  have h2 : 0 < m / 2 ^ k := Nat.div_pos this (Nat.two_pow_pos _)
  rw [cast_div_pow]
  omega
theorem lt_of_not_pos {m k : Nat} (h : ¬ 0 < (m : Int) / 2 ^ k) : m < 2 ^ k := by
  rw [cast_div_pow] at h
  have h2 : m / 2 ^ k = 0 := Nat.eq_zero_of_not_pos (fun h3 => h (Int.natCast_pos.2 h3))
  rcases (Nat.div_eq_zero_iff).1 h2 with h3 | h3
  · have := Nat.two_pow_pos k; omega
  · exact h3
theorem k_lt_of_pos {m k : Nat} (h : 0 < (m : Int) / 2 ^ k) (hm : m < 2 ^ 62) : k < 62 := by
  apply Classical.byContradiction
  intro hk
  have h1 : m < 2 ^ k := Nat.lt_of_lt_of_le hm (Nat.pow_le_pow_right (by decide) (by omega))
  rw [cast_div_pow, Nat.div_eq_of_lt h1] at h
  simp at h

set_option maxRecDepth 100000 in
theorem elementsOf_any (m : Nat) (w : World) (hm : m < 2 ^ 62) :
    Calls Try.prog 107 #[.int .i64 m] w fun e w' => ∃ v, e = .returned v ∧ IntsR w' v (elemsL m) ∧ Ext w w' := by
  have HM := Lib.hid hm
  clear hm
  go_enter Try.func107, Try.ntmps107
  go_wp2
  go_loopw [3, 4] (fun v x wr => ∃ k : Nat, k ≤ 62 ∧ x = .int .i64 k ∧ GrowI 2 w.heap.size wr v (elemsTo m k) ∧ Ext w wr) (fun _ x _ => 62 - (intOf x).toNat)
  case atStart => exact ⟨0, by omega, rfl, by rw [elemsTo_zero]; exact GrowI.nil _ _ _, Ext.refl _⟩
  case round =>
    obtain ⟨k, hk, rfl, hg, hx⟩ := hrel
    have hlen := elemsTo_len m k
    by_cases hp : 0 < (m : Int) / 2 ^ k
    case neg =>
      have HL := Lib.hid (elemsL_eq (lt_of_not_pos hp) hk)
      have hs := (hg.ownIV (hi := wr.heap.size) (by omega) (Nat.le_refl _)).toR
      go_wp2
      go_ret
      exact ⟨u3, rfl, by rw [HL.out]; exact hs, hx⟩
    case pos =>
      have hk2 := k_lt_of_pos hp HM.out
      cases hb : bitB m k with
      | false =>
        go_wp2_with (go_at_call 106; refine (hasBit_any m k _ (by omega)).mono ?_; rintro e w' ⟨rfl, rfl⟩; rw [hb])
        go_roundw
        case rel => exact ⟨k + 1, by omega, by go_num, by rw [elemsTo_no hb]; exact hg, hx⟩
        case measure => simp [intOf]; omega
      | true =>
        go_wp2_with (first | (go_at_call 106; refine (hasBit_any m k _ (by omega)).mono ?_; rintro e w' ⟨rfl, rfl⟩; rw [hb]) | (at_builtin; refine wpList_append_int rfl _ _ 26 2 rfl Try.underlying26 infoInt w.heap.size _ _ rfl (hg.alloc _) _ _ rfl (cell_new _ _ _) (by omega) (by have := hx.size; simp; omega) ?_))
        intro v' w3 hi3 hgr hv3
        have hx3 : Ext w w3 := (hx.trans (ext_box _ _ _)).grown hgr (hg.alloc _) (Nat.le_refl _)
        clear hgr hg
        go_wp2
        go_roundw
        case rel => exact ⟨k + 1, by omega, by go_num, by rw [elemsTo_yes hb]; exact hi3, hx3⟩
        case measure => simp [intOf]; omega

set_option maxRecDepth 100000 in
theorem isSubgroup_any (t : List (List Int)) (v : Value) (m : Nat) (w : World) (hv : Rows w v t) (hT : TableOk t) (hm : m < 2 ^ t.length) :
    Calls Try.prog 66 #[v, .int .i64 m] w fun e w' => e = .returned (.bool (subB t m)) ∧ Ext w w' := by
  obtain ⟨hlen, b, o, c, rfl, hc⟩ := id hv
  have h12 := hT.2.1
  have H62 := Lib.hid (lt62 h12 hm)
  have HT := Lib.hid hT
  have HM := Lib.hid hm
  clear hm hT
  cases hb0 : bitB m 0 with
  | false =>
    rw [subB_0 hb0]
    have h0 := hasBit_any m 0
    go_enter Try.func66, Try.ntmps66
    go_wp2_with (go_at_call 106; refine (hasBit_any m 0 _ (by omega)).mono ?_; rintro e w' ⟨rfl, rfl⟩; rw [hb0])
    go_ret
    exact ⟨rfl, Ext.refl _⟩
  | true =>
    rw [subB_1 hb0]
    have HE := Lib.hid (fun i (h : i < (elemsL m).length) => elemsL_get (k := t.length) HM.out (by omega) h)
    go_enter Try.func66, Try.ntmps66
    go_wp2_with (go_at_call 106; refine (hasBit_any m 0 _ (by omega)).mono ?_; rintro e w' ⟨rfl, rfl⟩; rw [hb0])
    go_wp2_with fail
    refine (elementsOf_any m _ H62.out).mono ?_
    rintro e w1 ⟨v1, rfl, hr1, hx1⟩
    obtain ⟨a1, c1, rfl, hr⟩ := hr1
    have HR := Lib.hid hr
    clear hr hb0
    have hcw := hc.ext hx1
    have hlL := elemsL_len m
    clear hc
    go_wp2
    go_loop [17] (fun i => ∃ k : Nat, k ≤ (elemsL m).length ∧ i = .int .i64 k ∧ MemTo t m k) (fun i => (elemsL m).length - (intOf i).toNat)
    case atStart => exact ⟨0, Nat.zero_le _, rfl, MemTo.zero _ _⟩
    case round =>
      obtain ⟨k, hk, rfl, hmt⟩ := hrel
      by_cases hkl : k < (elemsL m).length
      case neg =>
        go_wp2
        go_ret
        have hkk : k = (elemsL m).length := by omega
        subst hkk
        exact ⟨ret_bool (hmt.closed HM.out h12).symm, hx1⟩
      case pos =>
        obtain ⟨gb, go', rfl, hgi⟩ := HR.out (ne_nil_of_lt hkl)
        obtain ⟨x, hx, bx, ex⟩ := HE.out k hkl
        have e1 := hgi k hkl
        rw [ex] at e1
        have EX := Lib.hid ex
        have HG := Lib.hid hgi
        clear ex hgi
        go_wp2
        go_loop [23] (fun i => ∃ j : Nat, j ≤ (elemsL m).length ∧ i = .int .i64 j ∧ MemRow t m x j) (fun i => (elemsL m).length - (intOf i).toNat)
        case atStart => exact ⟨0, Nat.zero_le _, rfl, MemRow.zero _ _ _⟩
        case round =>
          obtain ⟨j, hj, rfl, hmr⟩ := hrel
          by_cases hjl : j < (elemsL m).length
          case neg =>
            go_wp2
            go_round
            case rel => exact ⟨k + 1, by omega, by go_num, hmt.succ (by rw [EX.out, Int.toNat_natCast]; exact hmr.mono (by omega))⟩
            case measure => simp [intOf]; omega
          case pos =>
            obtain ⟨y, hy, bY, ey⟩ := HE.out j hjl
            have e2 := HG.out j hjl
            rw [ey] at e2
            have EY := Lib.hid ey
            clear ey
            obtain ⟨d1, s1, m1, r1, l1, -⟩ := hcw.get hx
            have f1 := l1.ent (HT.out.len hx) hy
            have bd := HT.out.bd hx hy
            rw [HT.out.len hx] at r1
            clear l1
            have HBX := Lib.hid bx
            have HBY := Lib.hid bY
            clear bY
            cases hb : bitB m (ent t x y).toNat with
            | false =>
              go_wp2_with (go_at_call 106; refine (hasBit_ent m (ent t x y) _ (by omega) (by omega)).mono ?_; rintro e w' ⟨rfl, rfl⟩; rw [hb])
              go_ret
              exact ⟨ret_bool (MemTo.open hx hy HBX.out HBY.out hb).symm, hx1⟩
            | true =>
              go_wp2_with (go_at_call 106; refine (hasBit_ent m (ent t x y) _ (by omega) (by omega)).mono ?_; rintro e w' ⟨rfl, rfl⟩; rw [hb])
              go_round
              case rel => exact ⟨j + 1, by omega, by go_num, hmr.succ (by rw [EY.out, Int.toNat_natCast]; exact hb)⟩
              case measure => simp [intOf]; omega

set_option maxRecDepth 100000 in
theorem l04Closed_any (t : List (List Int)) (v : Value) (m : Nat) (w : World) (hv : Rows w v t) (hT : TableOk t) (hm : m < 2 ^ t.length) :
    Calls Try.prog 61 #[v, .int .i64 m] w fun e w' => e = .returned (.bool (closedB t m)) ∧ w = w' := by
  obtain ⟨hlen, b, o, c, rfl, hc⟩ := id hv
  have h12 := hT.2.1
  have H62 := Lib.hid (lt62 h12 hm)
  have HT := Lib.hid hT
  clear hT hm
  go_enter Try.func61, Try.ntmps61
  go_wp2
  go_loop [5] (fun i => ∃ k : Nat, k ≤ t.length ∧ i = .int .i64 k ∧ ClosedTo t m t.length k) (fun i => t.length - (intOf i).toNat)
  case atStart => exact ⟨0, Nat.zero_le _, rfl, ClosedTo.zero _ _ _⟩
  case round =>
    obtain ⟨k, hk, rfl, hct⟩ := hrel
    by_cases hkl : k < t.length
    case neg =>
      go_wp2
      go_ret
      have hkk : k = t.length := by omega
      subst hkk
      exact ⟨ret_bool (closedB_yes hct).symm, rfl⟩
    case pos =>
      go_wp2
      go_loop [6] (fun i => ∃ j : Nat, j ≤ t.length ∧ i = .int .i64 j ∧ ClosedRow t m k j) (fun i => t.length - (intOf i).toNat)
      case atStart => exact ⟨0, Nat.zero_le _, rfl, ClosedRow.zero _ _ _⟩
      case round =>
        obtain ⟨j, hj, rfl, hcr⟩ := hrel
        by_cases hjl : j < t.length
        case neg =>
          go_wp2
          go_round
          case rel => exact ⟨k + 1, by omega, by go_num, hct.succ (hcr.mono (by omega))⟩
          case measure => simp [intOf]; omega
        case pos =>
          cases hbx : bitB m k with
          | false =>
            have q1 := bit_zero hbx H62.out
            go_wp2
            go_round
            case rel => exact ⟨j + 1, by omega, by go_num, hcr.succ (fun h => by rw [hbx] at h; cases h)⟩
            case measure => simp [intOf]; omega
          | true =>
            have q1 := bit_one hbx
            cases hby : bitB m j with
            | false =>
              have q2 := bit_zero hby H62.out
              go_wp2
              go_round
              case rel => exact ⟨j + 1, by omega, by go_num, hcr.succ (fun _ h => by rw [hby] at h; cases h)⟩
              case measure => simp [intOf]; omega
            | true =>
              have q2 := bit_one hby
              obtain ⟨d1, s1, m1, r1, l1, -⟩ := hc.get hkl
              have f1 := l1.ent (HT.out.len hkl) hjl
              have bd := HT.out.bd hkl hjl
              rw [HT.out.len hkl] at r1
              clear l1
              cases hb : bitB m (ent t k j).toNat with
              | false =>
                have q3 := bit_zero hb H62.out
                go_wp2
                go_ret
                exact ⟨ret_bool (MemTo.open hkl hjl hbx hby hb).symm, rfl⟩
              | true =>
                have q3 := bit_one hb
                go_wp2
                go_round
                case rel => exact ⟨j + 1, by omega, by go_num, hcr.succ (fun _ _ => hb)⟩
                case measure => simp [intOf]; omega
end Go.Proofs.Ytjcpeenalbgacaa
