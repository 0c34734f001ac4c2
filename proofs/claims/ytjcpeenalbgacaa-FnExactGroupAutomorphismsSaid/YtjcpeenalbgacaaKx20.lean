/-
  Contracts: all subgroups.
-/
import Derived.Test.YtjcpeenalbgacaaProg
import Derived.Test.YtjcpeenalbgacaaKx0
import Derived.Test.YtjcpeenalbgacaaKx1
import Derived.Test.YtjcpeenalbgacaaKx3
import Derived.Test.YtjcpeenalbgacaaKx2
import Derived.Test.YtjcpeenalbgacaaKx5
import Derived.Test.YtjcpeenalbgacaaKx9
import Derived.Test.YtjcpeenalbgacaaKx16
import Derived.Test.YtjcpeenalbgacaaKx7
import Derived.Test.YtjcpeenalbgacaaKx10
import Derived.Test.YtjcpeenalbgacaaKx18
import Derived.Test.YtjcpeenalbgacaaKx8
namespace Go.Proofs.Ytjcpeenalbgacaa
set_option linter.unusedVariables false
set_option linter.unusedSimpArgs false
open Go.RowKit

theorem wrapPow {n : Nat} (h : n ≤ 12) : wrap64 (2 ^ n) = ((2 ^ n : Nat) : Int) := by
  have := pow12 h
  have hc : ((2 : Int) ^ n) = ((2 ^ n : Nat) : Int) := by simp
  rw [hc]
  clear hc
  generalize 2 ^ n = P at this
  exact IntWalk.wrap64_in _ (by omega)
theorem even_pow {n : Nat} (h : 1 ≤ n) : 2 ^ n % 2 = 0 := by
  obtain ⟨m, rfl⟩ : ∃ m, n = m + 1 := ⟨n - 1, by omega⟩
  rw [Nat.pow_succ]; omega

set_option maxRecDepth 100000 in
theorem l10Subgroups_any (t : List (List Int)) (v : Value) (w : World) (hv : Rows w v t) (hT : TableOk t) :
    Calls Try.prog 60 #[v] w fun e w' => ∃ v, e = .returned v ∧ OwnIV w.heap.size w'.heap.size w' v (subsL t) ∧ v ≠ .slice none 0 0 ∧ Ext w w' := by
  obtain ⟨hlen, b, o, c, rfl, hc⟩ := id hv
  have h12 := hT.2.1
  have hp := pow12 h12
  have hev := even_pow hT.1
  have HW := Lib.hid (wrapPow h12)
  have HT := Lib.hid hT
  have HS := Lib.hid (subsL_def t)
  have H62 := Lib.hid (fun m (h : m < 2 ^ t.length) => lt62 h12 h)
  clear hT
  obtain ⟨P, hP⟩ : ∃ P : Nat, P = 2 ^ t.length := ⟨_, rfl⟩
  rw [← hP] at hp hev
  have HP := Lib.hid hP
  have hw : wrap64 (2 ^ t.length) = (P : Int) := by rw [HW.out, hP]
  clear hP
  go_enter Try.func60, Try.ntmps60
  go_wp2
  have hx0 : Ext w (w.alloc (.cells #[] 2)) := (Ext.refl _).alloc _
  have hg0 := GrowI.lit (e := 2) (base := w.heap.size) (w := w) (Nat.le_refl _)
  go_loopw [3, 4] (fun v x wr => ∃ k : Nat, k ≤ P + 1 ∧ k % 2 = 1 ∧ x = .int .i64 k ∧ GrowI 2 w.heap.size wr v (subsTo (subB t) k) ∧ v ≠ .slice none 0 0 ∧ Ext w wr) (fun _ x _ => (P + 2) - (intOf x).toNat)
  case atStart =>
    exact ⟨1, by omega, rfl, rfl, by rw [subsTo_no (subB_even (by decide) rfl), subsTo_zero]; exact hg0, by simp, hx0⟩
  case round =>
    clear hx0 hg0
    obtain ⟨k, hk, hod, rfl, hg, hv', hx⟩ := hrel
    have HV := Lib.hid hv'
    clear hv'
    have hln := subsTo_len (subB t) k
    by_cases hkl : k < P
    case neg =>
      have he : subsTo (subB t) k = subsL t := by
        have hk1 : k = P + 1 := by omega
        rw [HS.out, ← HP.out, hk1, subsTo_no (subB_even (by have : (4096 : Nat) < 2 ^ 62 := by decide
                                                            omega) hev)]
      rw [he] at hg hln
      have hsl := hg.ownIV (hi := wr.heap.size) (by omega) (Nat.le_refl _)
      have HV2 := HV
      go_wp2
      go_ret
      exact ⟨u3, rfl, hsl, HV.out, hx⟩
    case pos =>
      have hm : k < 2 ^ t.length := by rw [← HP.out]; exact hkl
      have hb0 : bitB k 0 = true := by rw [bitB_zero_odd (H62.out k hm), hod]; rfl
      have hs := subB_1 (t := t) hb0
      have HM := Lib.hid hm
      have HE := Lib.hid (subB_even (t := t) (m := k + 1) (by have : (4097 : Nat) < 2 ^ 62 := by decide
                                                              omega) (by omega))
      clear hm hb0
      cases hcl : closedB t k with
      | false =>
        rw [hcl] at hs
        have HS2 := Lib.hid hs
        clear hs
        go_wp2_with (go_at_call 61; refine (l04Closed_any t _ k _ (hv.ext hx) HT.out HM.out).mono ?_; rintro e w' ⟨rfl, rfl⟩; rw [hcl])
        go_roundw
        case rel => exact ⟨k + 2, by omega, by omega, by go_num, by rw [subsTo_no HE.out, subsTo_no HS2.out]; exact hg, HV.out, hx⟩
        case measure => simp [intOf]; omega
      | true =>
        rw [hcl] at hs
        have HS2 := Lib.hid hs
        clear hs
        go_wp2_with (first | (go_at_call 61; refine (l04Closed_any t _ k _ (hv.ext hx) HT.out HM.out).mono ?_; rintro e w' ⟨rfl, rfl⟩; rw [hcl]) | (at_builtin; refine wpList_append_int rfl _ _ 26 2 rfl Try.underlying26 infoInt w.heap.size _ _ rfl (hg.alloc _) _ _ rfl (cell_new _ _ _) (by omega) (by have := hx.size; simp; omega) ?_))
        intro v' w3 hi3 hgr hv3
        have hx3 : Ext w w3 := (hx.trans (ext_box _ _ _)).grown hgr (hg.alloc _) (Nat.le_refl _)
        clear hgr hg
        go_wp2
        go_roundw
        case rel => exact ⟨k + 2, by omega, by omega, by go_num, by rw [subsTo_no HE.out, subsTo_yes HS2.out]; exact hi3, hv3, hx3⟩
        case measure => simp [intOf]; omega

end Go.Proofs.Ytjcpeenalbgacaa
