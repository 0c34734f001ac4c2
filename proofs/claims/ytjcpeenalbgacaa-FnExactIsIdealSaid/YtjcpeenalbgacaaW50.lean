/-
  Contracts: sets of elements of braces; subbraces, left ideals, ideals.
-/
import Derived.Test.YtjcpeenalbgacaaProg
import Derived.Deep.DeepCutAuto
import Derived.Deep.RegionWith
import Derived.Deep.RegionHeld3
import Derived.Deep.DrawnRows
import Derived.Test.YtjcpeenalbgacaaBase
import Derived.Test.YtjcpeenalbgacaaBase2
import Derived.Test.YtjcpeenalbgacaaRet
import Derived.Test.YtjcpeenalbgacaaSteps
import Derived.Test.YtjcpeenalbgacaaGrow
import Derived.Test.YtjcpeenalbgacaaGrowR
import Derived.Test.YtjcpeenalbgacaaPure1
import Derived.Test.YtjcpeenalbgacaaPureOrd
import Derived.Test.YtjcpeenalbgacaaPureInv
import Derived.Test.YtjcpeenalbgacaaPureTurn
import Derived.Test.YtjcpeenalbgacaaPureConj
import Derived.Test.YtjcpeenalbgacaaPureSet
import Derived.Test.YtjcpeenalbgacaaPureNorm
import Derived.Test.YtjcpeenalbgacaaPureBr
import Derived.Test.YtjcpeenalbgacaaPureIdl
import Derived.Test.YtjcpeenalbgacaaW1
import Derived.Test.YtjcpeenalbgacaaW3
import Derived.Test.YtjcpeenalbgacaaW6
import Derived.Test.YtjcpeenalbgacaaW8
import Derived.Test.YtjcpeenalbgacaaW11
import Derived.Test.YtjcpeenalbgacaaW12
import Derived.Test.YtjcpeenalbgacaaW13
import Derived.Test.YtjcpeenalbgacaaW20
import Derived.Test.YtjcpeenalbgacaaW26
import Derived.Test.YtjcpeenalbgacaaW28
import Derived.Test.YtjcpeenalbgacaaW29
import Derived.Test.YtjcpeenalbgacaaW33
import Derived.Test.YtjcpeenalbgacaaW34
import Derived.Test.YtjcpeenalbgacaaW37
import Derived.Test.YtjcpeenalbgacaaW41
import Derived.Test.YtjcpeenalbgacaaW42
import Derived.Test.YtjcpeenalbgacaaK2
import Derived.Test.YtjcpeenalbgacaaK3
namespace Go.Proofs.Ytjcpeenalbgacaa
set_option linter.unusedVariables false
set_option linter.unusedSimpArgs false
open Go.RowKit
attribute [local go_sem ↓] Go.wp_at_zero Go.wp_at_succ

theorem l04Closed_ext (t : List (List Int)) (v : Value) (m : Nat) (w : World) (hv : Rows w v t) (hT : TableOk t) (hm : m < 2 ^ t.length) :
    Calls Try.prog 61 #[v, .int .i64 m] w fun e w' => e = .returned (.bool (closedB t m)) ∧ Ext w w' :=
  (l04Closed_any t v m w hv hT hm).mono (by rintro e w' ⟨h1, rfl⟩; exact ⟨h1, Ext.refl _⟩)

theorem odd2_bit {m : Nat} (h : m < 2 ^ 62) (hb : bitB m 0 = true) : ((m : Int) % 2 == 1) = true := by
  rw [bitB_zero_odd h] at hb
  have := eq_of_beq hb
  rw [beq_iff_eq]; omega
theorem odd2_nobit {m : Nat} (h : m < 2 ^ 62) (hb : bitB m 0 = false) : ((m : Int) % 2 == 1) = false := by
  rw [bitB_zero_odd h, beq_eq_false_iff_ne] at hb
  rw [beq_eq_false_iff_ne]; omega

set_option maxRecDepth 100000 in
set_option maxHeartbeats 1000000 in
theorem setsWith_any (t u : List (List Int)) (v y : Value) (p : Nat → Bool) (F : Nat) (cap : Array Value) (w : World) (hv : Rows w v t) (hy : Rows w y u) (hT : TableOk t)
    (hcall : ∀ (args : Array Value) (w : World), (callFunc F args).run Try.prog w = .ok (.enter F args) w)
    (hf : ∀ w1 m, Ext w w1 → m < 2 ^ t.length → Calls Try.prog F (#[.int .i64 (m : Nat)] ++ cap) w1 fun e w' => e = .returned (.bool (p m)) ∧ Ext w1 w') :
    Calls Try.prog 64 #[.agg #[v, y], .func (.func F) #[] cap] w fun e w' => ∃ v, e = .returned v ∧ OwnIV w.heap.size w'.heap.size w' v (subsTo (fun m => bitB m 0 && p m) (2 ^ t.length)) ∧ Ext w w' := by
  obtain ⟨hlen, b, o, c, rfl, hc⟩ := id hv
  obtain ⟨hlen2, b2, o2, c2, rfl, hc2⟩ := id hy
  have hX := ext_boxB w (.slice (some ⟨b, o, none⟩) t.length c) (.slice (some ⟨b2, o2, none⟩) u.length c2) 29
  have k0 := cell_new2a w (.slice (some ⟨b, o, none⟩) t.length c) (.slice (some ⟨b2, o2, none⟩) u.length c2) 29
  have k1 := cell_new2b w (.slice (some ⟨b, o, none⟩) t.length c) (.slice (some ⟨b2, o2, none⟩) u.length c2) 29
  have h12 := hT.2.1
  have hp := pow12 h12
  have hev := even_pow hT.1
  have HW := Lib.hid (wrapPow h12)
  have H62 := Lib.hid (fun m (h : m < 2 ^ t.length) => lt62 h12 h)
  have HF := Lib.hid hf
  have HC := Lib.hid hcall
  clear hT hf hcall hc hc2
  generalize hq : (fun m => bitB m 0 && p m) = q
  have HQ := Lib.hid (fun m => congrFun hq m)
  clear hq
  obtain ⟨P, hP⟩ : ∃ P : Nat, P = 2 ^ t.length := ⟨_, rfl⟩
  rw [← hP] at hp hev ⊢
  have HP := Lib.hid hP
  have hw : wrap64 (2 ^ t.length) = (P : Int) := by rw [HW.out, hP]
  clear hP
  have HQE := Lib.hid (show ∀ m, m < 2 ^ 62 → m % 2 = 0 → q m = false by
    intro m h1 h2
    rw [← HQ.out]
    show (bitB m 0 && p m) = false
    rw [bitB_zero_odd h1, h2]; rfl)
  have HQO := Lib.hid (show ∀ m, m < 2 ^ 62 → m % 2 = 1 → q m = p m by
    intro m h1 h2
    rw [← HQ.out]
    show (bitB m 0 && p m) = p m
    rw [bitB_zero_odd h1, h2]; rfl)
  have zA := hX.size
  go_enter Try.func64, Try.ntmps64
  go_wp2
  generalize (w.alloc (.cells #[.slice (some ⟨b, o, none⟩) t.length c, .slice (some ⟨b2, o2, none⟩) u.length c2] 29)) = A at *
  go_loopw [5, 6] (fun s x wr => ∃ k : Nat, k ≤ P + 1 ∧ k % 2 = 1 ∧ x = .int .i64 k ∧ GrowI 2 A.heap.size wr s (subsTo q k) ∧ Ext A wr) (fun _ x _ => (P + 2) - (intOf x).toNat)
  case atStart => exact ⟨1, by omega, rfl, rfl, by rw [subsTo_no (HQE.out 0 (by decide) rfl), subsTo_zero]; exact GrowI.nil _ _ _, Ext.refl _⟩
  case round =>
    obtain ⟨k, hk, hod, rfl, hg, hx⟩ := hrel
    have hln := subsTo_len q k
    have j0 := hx.cell k0
    by_cases hkl : k < P
    case neg =>
      have HE := Lib.hid (show subsTo q k = subsTo q P by
        have hk1 : k = P + 1 := by omega
        rw [hk1, subsTo_no (HQE.out P (by have : (4096 : Nat) < 2 ^ 62 := by decide
                                          omega) hev)])
      have hsl := hg.ownIV (hi := wr.heap.size) (by omega) (Nat.le_refl _)
      go_wp2
      go_ret
      exact ⟨u5, rfl, by rw [← HE.out]; exact hsl.mono zA (Nat.le_refl _), hX.trans hx⟩
    case pos =>
      have HM := Lib.hid (show k < 2 ^ t.length by rw [← HP.out]; exact hkl)
      have HE := Lib.hid (HQE.out (k + 1) (by have : (4097 : Nat) < 2 ^ 62 := by decide
                                              omega) (by omega))
      have HO := Lib.hid (HQO.out k (H62.out k HM.out) hod)
      have hcc := HC.out
      cases hpk : p k with
      | false =>
        have HN := Lib.hid (show q k = false by rw [HO.out, hpk])
        go_wp2_with fail
        refine (HF.out _ k (hX.trans hx) HM.out).mono ?_
        rintro e w2 ⟨rfl, hx2⟩
        rw [hpk]
        have hg2 := hg.ext hx2
        go_wp2
        go_roundw
        case rel => exact ⟨k + 2, by omega, by omega, by go_num, by rw [subsTo_no HE.out, subsTo_no HN.out]; exact hg2, hx.trans hx2⟩
        case measure => simp [intOf]; omega
      | true =>
        have HN := Lib.hid (show q k = true by rw [HO.out, hpk])
        go_wp2_with fail
        refine (HF.out _ k (hX.trans hx) HM.out).mono ?_
        rintro e w2 ⟨rfl, hx2⟩
        rw [hpk]
        have hg2 := hg.ext hx2
        have hxx := hx.trans hx2
        clear hcc
        go_wp2_with (at_builtin; refine wpList_append_int rfl _ _ 26 2 rfl Try.underlying26 infoInt A.heap.size _ _ rfl (hg2.alloc _) _ _ rfl (cell_new _ _ _) (by omega) (by have := hxx.size; simp; omega) ?_)
        intro v' w3 hi3 hgr hv3
        have hx3 : Ext A w3 := (hxx.trans (ext_box _ _ _)).grown hgr (hg2.alloc _) (Nat.le_refl _)
        clear hgr hg
        go_wp2
        go_roundw
        case rel => exact ⟨k + 2, by omega, by omega, by go_num, by rw [subsTo_no HE.out, subsTo_yes HN.out]; exact hi3, hx3⟩
        case measure => simp [intOf]; omega

set_option maxRecDepth 100000 in
theorem l12Left_any (t u : List (List Int)) (v y : Value) (m : Nat) (w : World) (hv : Rows w v t) (hy : Rows w y u) (hG : GroupOk t) (hU : GroupOk u) (hl : t.length = u.length) (hm : m < 2 ^ t.length) :
    Calls Try.prog 75 #[.agg #[v, y], .int .i64 m] w fun e w' => e = .returned (.bool (leftB t u m)) ∧ Ext w w' := by
  obtain ⟨hlen, b, o, c, rfl, hc⟩ := id hv
  obtain ⟨hlen2, b2, o2, c2, rfl, hc2⟩ := id hy
  have hX := ext_boxB w (.slice (some ⟨b, o, none⟩) t.length c) (.slice (some ⟨b2, o2, none⟩) u.length c2) 29
  have k0 := cell_new2a w (.slice (some ⟨b, o, none⟩) t.length c) (.slice (some ⟨b2, o2, none⟩) u.length c2) 29
  have k1 := cell_new2b w (.slice (some ⟨b, o, none⟩) t.length c) (.slice (some ⟨b2, o2, none⟩) u.length c2) 29
  have h12 := hG.1.2.1
  have H62 := Lib.hid (lt62 h12 hm)
  have HG := Lib.hid hG
  have HU := Lib.hid hU
  have HL := Lib.hid hl
  have HCB := Lib.hid (fun x y (hx : x < t.length) (hy : y < t.length) => lamF_bd hG hU hl hx hy)
  have HLT := Lib.hid (length_mkT t.length (lamF t u))
  clear hG hU hl hm hc hc2
  go_enter Try.func75, Try.ntmps75
  go_wp2_with fail
  refine (l11Lambda_any t u _ _ _ (hv.ext hX) (hy.ext hX) HG.out HU.out HL.out).mono ?_
  rintro e w1 ⟨v1, rfl, hr1, hx1⟩
  obtain ⟨-, b1, o1, c1, rfl, hc1⟩ := hr1
  rw [HLT.out]
  replace k0 := hx1.cell k0
  replace hX := hX.trans hx1
  clear k1
  go_wp2
  go_loop [6] (fun i => ∃ k : Nat, k ≤ t.length ∧ i = .int .i64 k ∧ LeftTo t u m t.length k) (fun i => t.length - (intOf i).toNat)
  case atStart => exact ⟨0, Nat.zero_le _, rfl, LeftTo.zero _ _ _ _⟩
  case round =>
    obtain ⟨k, hk, rfl, hct⟩ := hrel
    by_cases hkl : k < t.length
    case neg =>
      go_wp2
      go_ret
      have hkk : k = t.length := by omega
      subst hkk
      exact ⟨ret_bool (leftB_yes hct).symm, hX⟩
    case pos =>
      obtain ⟨d1, s1, m1, r1, l1, -⟩ := hc1.get (i := k) (by rw [HLT.out]; exact hkl)
      have HRL := Lib.hid (length_row_mkT t.length (lamF t u) k hkl)
      rw [HRL.out] at r1
      have HL1 := Lib.hid l1
      clear l1
      go_wp2
      go_loop [7] (fun i => ∃ j : Nat, j ≤ t.length ∧ i = .int .i64 j ∧ LeftRow t u m k j) (fun i => t.length - (intOf i).toNat)
      case atStart => exact ⟨0, Nat.zero_le _, rfl, LeftRow.zero _ _ _ _⟩
      case round =>
        obtain ⟨j, hj, rfl, hcr⟩ := hrel
        by_cases hjl : j < t.length
        case neg =>
          go_wp2
          go_round
          case rel => exact ⟨k + 1, by omega, by go_num, hct.succ (hcr.mono (by omega))⟩
          case measure => simp [intOf]; omega
        case pos =>
          cases hby : bitB m j with
          | false =>
            have q1 := bit_zero hby H62.out
            go_wp2
            go_round
            case rel => exact ⟨j + 1, by omega, by go_num, hcr.succ (fun h => by rw [hby] at h; cases h)⟩
            case measure => simp [intOf]; omega
          | true =>
            have q1 := bit_one hby
            have e1 := HL1.out.ent HRL.out hjl
            rw [ent_mkT _ _ _ _ hkl hjl] at e1
            have bd := HCB.out k j hkl hjl
            cases hb : bitB m (lamF t u k j).toNat with
            | false =>
              have q3 := bit_zero hb H62.out
              go_wp2
              go_ret
              exact ⟨ret_bool (leftB_no hkl hjl hby hb).symm, hX⟩
            | true =>
              have q3 := bit_one hb
              go_wp2
              go_round
              case rel => exact ⟨j + 1, by omega, by go_num, hcr.succ (fun _ => hb)⟩
              case measure => simp [intOf]; omega

set_option maxRecDepth 100000 in
set_option maxHeartbeats 1000000 in
theorem isLeftIdeal_any (t u : List (List Int)) (v y lv : Value) (m : Nat) (w : World) (hv : Rows w v t) (hy : Rows w y u) (hlv : Rows w lv (mkT t.length (lamF t u))) (hG : GroupOk t) (hU : GroupOk u) (hl : t.length = u.length) (hm : m < 2 ^ t.length) :
    Calls Try.prog 78 #[.agg #[v, y], lv, .int .i64 m] w fun e w' => e = .returned (.bool (liB t u m)) ∧ Ext w w' := by
  obtain ⟨hlen, b, o, c, rfl, hc⟩ := id hv
  obtain ⟨hlen2, b2, o2, c2, rfl, hc2⟩ := id hy
  have hX := ext_boxB w (.slice (some ⟨b, o, none⟩) t.length c) (.slice (some ⟨b2, o2, none⟩) u.length c2) 29
  have k0 := cell_new2a w (.slice (some ⟨b, o, none⟩) t.length c) (.slice (some ⟨b2, o2, none⟩) u.length c2) 29
  have k1 := cell_new2b w (.slice (some ⟨b, o, none⟩) t.length c) (.slice (some ⟨b2, o2, none⟩) u.length c2) 29
  obtain ⟨-, b3, o3, c3, rfl, hc3⟩ := id hlv
  have h12 := hG.1.2.1
  have H62 := Lib.hid (lt62 h12 hm)
  have HM := Lib.hid hm
  have HG := Lib.hid hG
  have HCB := Lib.hid (fun x y (hx : x < t.length) (hy : y < t.length) => lamF_bd hG hU hl hx hy)
  have HLT := Lib.hid (length_mkT t.length (lamF t u))
  have HE := Lib.hid (fun i (h : i < (elemsL m).length) => elemsL_get (k := t.length) HM.out (by omega) h)
  have hlL := elemsL_len m
  have HLI := Lib.hid (liB_def t u m)
  rw [HLT.out]
  clear hG hU hl hm hc hc2
  cases hs : subB t m with
  | false =>
    have HR := Lib.hid (show liB t u m = false by rw [HLI.out, hs]; rfl)
    rw [HR.out]
    go_enter Try.func78, Try.ntmps78
    go_wp2_with fail
    refine (isSubgroup_any t _ m _ (hv.ext hX) HG.out.1 HM.out).mono ?_
    rintro e w1 ⟨rfl, hx1⟩
    rw [hs]
    go_wp2
    go_ret
    exact ⟨rfl, hX.trans hx1⟩
  | true =>
    have HR := Lib.hid (show liB t u m = leftB t u m by rw [HLI.out, hs]; rfl)
    rw [HR.out]
    go_enter Try.func78, Try.ntmps78
    go_wp2_with fail
    refine (isSubgroup_any t _ m _ (hv.ext hX) HG.out.1 HM.out).mono ?_
    rintro e w1 ⟨rfl, hx1⟩
    rw [hs]
    replace hX := hX.trans hx1
    clear hs k0 k1 hx1
    go_wp2_with fail
    refine (elementsOf_any m _ H62.out).mono ?_
    rintro e w2 ⟨v2, rfl, hr2, hx2⟩
    obtain ⟨a2, c2', rfl, hr⟩ := hr2
    have HRr := Lib.hid hr
    replace hX := hX.trans hx2
    have hcw := hc3.ext hX
    clear hr hx2 hc3
    go_wp2
    go_loop [19] (fun i => ∃ k : Nat, k ≤ (elemsL m).length ∧ i = .int .i64 k ∧ LeftL t u m k) (fun i => (elemsL m).length - (intOf i).toNat)
    case atStart => exact ⟨0, Nat.zero_le _, rfl, LeftL.zero _ _ _⟩
    case round =>
      obtain ⟨k, hk, rfl, hll⟩ := hrel
      by_cases hkl : k < (elemsL m).length
      case neg =>
        go_wp2
        go_ret
        have hkk : k = (elemsL m).length := by omega
        subst hkk
        exact ⟨ret_bool (hll.all HM.out h12).symm, hX⟩
      case pos =>
        obtain ⟨gb, go', rfl, hgi⟩ := HRr.out (ne_nil_of_lt hkl)
        obtain ⟨x, hx, bx, ex⟩ := HE.out k hkl
        have e1 := hgi k hkl
        rw [ex] at e1
        have EX := Lib.hid ex
        have HBX := Lib.hid bx
        clear ex hgi bx
        go_wp2
        go_loop [25] (fun i => ∃ j : Nat, j ≤ t.length ∧ i = .int .i64 j ∧ LeftCol t u m x j) (fun i => t.length - (intOf i).toNat)
        case atStart => exact ⟨0, Nat.zero_le _, rfl, LeftCol.zero _ _ _ _⟩
        case round =>
          obtain ⟨j, hj, rfl, hlc⟩ := hrel
          by_cases hjl : j < t.length
          case neg =>
            have hjj : j = t.length := by omega
            subst hjj
            go_wp2
            go_round
            case rel => exact ⟨k + 1, by omega, by go_num, hll.succ (by rw [EX.out, Int.toNat_natCast]; exact hlc)⟩
            case measure => simp [intOf]; omega
          case pos =>
            obtain ⟨d1, s1, m1, r1, l1, -⟩ := hcw.get (i := j) (by rw [HLT.out]; exact hjl)
            have HRL := Lib.hid (length_row_mkT t.length (lamF t u) j hjl)
            rw [HRL.out] at r1
            have f1 := l1.ent HRL.out hx
            rw [ent_mkT _ _ _ _ hjl hx] at f1
            have bd := HCB.out j x hjl hx
            clear l1
            cases hb : bitB m (lamF t u j x).toNat with
            | false =>
              go_wp2_with (go_at_call 106; refine (hasBit_ent m (lamF t u j x) _ (by omega) (by omega)).mono ?_; rintro e w' ⟨rfl, rfl⟩; rw [hb])
              go_ret
              exact ⟨ret_bool (leftB_no hjl hx HBX.out hb).symm, hX⟩
            | true =>
              go_wp2_with (go_at_call 106; refine (hasBit_ent m (lamF t u j x) _ (by omega) (by omega)).mono ?_; rintro e w' ⟨rfl, rfl⟩; rw [hb])
              go_round
              case rel => exact ⟨j + 1, by omega, by go_num, hlc.succ hb⟩
              case measure => simp [intOf]; omega

set_option maxRecDepth 100000 in
set_option maxHeartbeats 1000000 in
theorem l12Ideal_any (t u : List (List Int)) (v y : Value) (m : Nat) (w : World) (hv : Rows w v t) (hy : Rows w y u) (hG : GroupOk t) (hU : GroupOk u) (hl : t.length = u.length) (hm : m < 2 ^ t.length) :
    Calls Try.prog 80 #[.agg #[v, y], .int .i64 m] w fun e w' => e = .returned (.bool (idB t u m)) ∧ Ext w w' := by
  obtain ⟨hlen, b, o, c, rfl, hc⟩ := id hv
  obtain ⟨hlen2, b2, o2, c2, rfl, hc2⟩ := id hy
  have hX := ext_boxB w (.slice (some ⟨b, o, none⟩) t.length c) (.slice (some ⟨b2, o2, none⟩) u.length c2) 29
  have k0 := cell_new2a w (.slice (some ⟨b, o, none⟩) t.length c) (.slice (some ⟨b2, o2, none⟩) u.length c2) 29
  have k1 := cell_new2b w (.slice (some ⟨b, o, none⟩) t.length c) (.slice (some ⟨b2, o2, none⟩) u.length c2) 29
  have h12 := hG.1.2.1
  have H62 := Lib.hid (lt62 h12 hm)
  have HM := Lib.hid hm
  have HMU := Lib.hid (show m < 2 ^ u.length by rw [← hl]; exact hm)
  have HG := Lib.hid hG
  have HU := Lib.hid hU
  have HL := Lib.hid hl
  clear hG hU hl hm hc hc2
  have HR := Lib.hid (show idB t u m = ((((bitB m 0 && closedB t m) && leftB t u m) && normB t m) && normB u m) by rw [idB_def, liB_def, subB_def])
  cases h0 : bitB m 0 with
  | false =>
    rw [show idB t u m = false by rw [HR.out]; simp [h0]]
    have he := odd2_nobit H62.out h0
    go_enter Try.func80, Try.ntmps80
    go_wp2
    go_ret
    exact ⟨rfl, hX⟩
  | true =>
    have he := odd2_bit H62.out h0
    cases h1 : closedB t m with
    | false =>
      rw [show idB t u m = false by rw [HR.out]; simp [h0, h1]]
      go_enter Try.func80, Try.ntmps80
      go_wp2_with fail
      refine (l04Closed_ext t _ m _ (hv.ext hX) HG.out.1 HM.out).mono ?_
      rintro e wn ⟨rfl, hx⟩
      rw [h1]
      replace hX := hX.trans hx
      replace k0 := hx.cell k0
      replace k1 := hx.cell k1
      clear hx
      go_wp2
      go_ret
      exact ⟨rfl, hX⟩
    | true =>
      cases h2 : leftB t u m with
      | false =>
        rw [show idB t u m = false by rw [HR.out]; simp [h0, h1, h2]]
        go_enter Try.func80, Try.ntmps80
        go_wp2_with fail
        refine (l04Closed_ext t _ m _ (hv.ext hX) HG.out.1 HM.out).mono ?_
        rintro e wn ⟨rfl, hx⟩
        rw [h1]
        replace hX := hX.trans hx
        replace k0 := hx.cell k0
        replace k1 := hx.cell k1
        clear hx
        go_wp2_with fail
        refine (l12Left_any t u _ _ m _ (hv.ext hX) (hy.ext hX) HG.out HU.out HL.out HM.out).mono ?_
        rintro e wn ⟨rfl, hx⟩
        rw [h2]
        replace hX := hX.trans hx
        replace k0 := hx.cell k0
        replace k1 := hx.cell k1
        clear hx
        go_wp2
        go_ret
        exact ⟨rfl, hX⟩
      | true =>
        cases h3 : normB t m with
        | false =>
          rw [show idB t u m = false by rw [HR.out]; simp [h0, h1, h2, h3]]
          go_enter Try.func80, Try.ntmps80
          go_wp2_with fail
          refine (l04Closed_ext t _ m _ (hv.ext hX) HG.out.1 HM.out).mono ?_
          rintro e wn ⟨rfl, hx⟩
          rw [h1]
          replace hX := hX.trans hx
          replace k0 := hx.cell k0
          replace k1 := hx.cell k1
          clear hx
          go_wp2_with fail
          refine (l12Left_any t u _ _ m _ (hv.ext hX) (hy.ext hX) HG.out HU.out HL.out HM.out).mono ?_
          rintro e wn ⟨rfl, hx⟩
          rw [h2]
          replace hX := hX.trans hx
          replace k0 := hx.cell k0
          replace k1 := hx.cell k1
          clear hx
          go_wp2_with fail
          refine (l10Normal_any t _ m _ (hv.ext hX) HG.out HM.out).mono ?_
          rintro e wn ⟨rfl, hx⟩
          rw [h3]
          replace hX := hX.trans hx
          replace k0 := hx.cell k0
          replace k1 := hx.cell k1
          clear hx
          go_wp2
          go_ret
          exact ⟨rfl, hX⟩
        | true =>
          cases h4 : normB u m with
          | false =>
            rw [show idB t u m = false by rw [HR.out]; simp [h0, h1, h2, h3, h4]]
            go_enter Try.func80, Try.ntmps80
            go_wp2_with fail
            refine (l04Closed_ext t _ m _ (hv.ext hX) HG.out.1 HM.out).mono ?_
            rintro e wn ⟨rfl, hx⟩
            rw [h1]
            replace hX := hX.trans hx
            replace k0 := hx.cell k0
            replace k1 := hx.cell k1
            clear hx
            go_wp2_with fail
            refine (l12Left_any t u _ _ m _ (hv.ext hX) (hy.ext hX) HG.out HU.out HL.out HM.out).mono ?_
            rintro e wn ⟨rfl, hx⟩
            rw [h2]
            replace hX := hX.trans hx
            replace k0 := hx.cell k0
            replace k1 := hx.cell k1
            clear hx
            go_wp2_with fail
            refine (l10Normal_any t _ m _ (hv.ext hX) HG.out HM.out).mono ?_
            rintro e wn ⟨rfl, hx⟩
            rw [h3]
            replace hX := hX.trans hx
            replace k0 := hx.cell k0
            replace k1 := hx.cell k1
            clear hx
            go_wp2_with fail
            refine (l10Normal_any u _ m _ (hy.ext hX) HU.out HMU.out).mono ?_
            rintro e wn ⟨rfl, hx⟩
            rw [h4]
            replace hX := hX.trans hx
            replace k0 := hx.cell k0
            replace k1 := hx.cell k1
            clear hx
            go_wp2
            go_ret
            exact ⟨rfl, hX⟩
          | true =>
            rw [show idB t u m = true by rw [HR.out]; simp [h0, h1, h2, h3, h4]]
            go_enter Try.func80, Try.ntmps80
            go_wp2_with fail
            refine (l04Closed_ext t _ m _ (hv.ext hX) HG.out.1 HM.out).mono ?_
            rintro e wn ⟨rfl, hx⟩
            rw [h1]
            replace hX := hX.trans hx
            replace k0 := hx.cell k0
            replace k1 := hx.cell k1
            clear hx
            go_wp2_with fail
            refine (l12Left_any t u _ _ m _ (hv.ext hX) (hy.ext hX) HG.out HU.out HL.out HM.out).mono ?_
            rintro e wn ⟨rfl, hx⟩
            rw [h2]
            replace hX := hX.trans hx
            replace k0 := hx.cell k0
            replace k1 := hx.cell k1
            clear hx
            go_wp2_with fail
            refine (l10Normal_any t _ m _ (hv.ext hX) HG.out HM.out).mono ?_
            rintro e wn ⟨rfl, hx⟩
            rw [h3]
            replace hX := hX.trans hx
            replace k0 := hx.cell k0
            replace k1 := hx.cell k1
            clear hx
            go_wp2_with fail
            refine (l10Normal_any u _ m _ (hy.ext hX) HU.out HMU.out).mono ?_
            rintro e wn ⟨rfl, hx⟩
            rw [h4]
            replace hX := hX.trans hx
            replace k0 := hx.cell k0
            replace k1 := hx.cell k1
            clear hx
            go_wp2
            go_ret
            exact ⟨rfl, hX⟩

set_option maxRecDepth 100000 in
set_option maxHeartbeats 1000000 in
theorem isIdeal_any (t u : List (List Int)) (v y : Value) (lv : Value) (m : Nat) (w : World) (hv : Rows w v t) (hy : Rows w y u) (hG : GroupOk t) (hU : GroupOk u) (hl : t.length = u.length) (hm : m < 2 ^ t.length) (hlv : Rows w lv (mkT t.length (lamF t u))) :
    Calls Try.prog 82 #[.agg #[v, y], lv, .int .i64 m] w fun e w' => e = .returned (.bool (idB t u m)) ∧ Ext w w' := by
  obtain ⟨hlen, b, o, c, rfl, hc⟩ := id hv
  obtain ⟨hlen2, b2, o2, c2, rfl, hc2⟩ := id hy
  have hX := ext_boxB w (.slice (some ⟨b, o, none⟩) t.length c) (.slice (some ⟨b2, o2, none⟩) u.length c2) 29
  have k0 := cell_new2a w (.slice (some ⟨b, o, none⟩) t.length c) (.slice (some ⟨b2, o2, none⟩) u.length c2) 29
  have k1 := cell_new2b w (.slice (some ⟨b, o, none⟩) t.length c) (.slice (some ⟨b2, o2, none⟩) u.length c2) 29
  have h12 := hG.1.2.1
  have H62 := Lib.hid (lt62 h12 hm)
  have HM := Lib.hid hm
  have HMU := Lib.hid (show m < 2 ^ u.length by rw [← hl]; exact hm)
  have HG := Lib.hid hG
  have HU := Lib.hid hU
  have HL := Lib.hid hl
  clear hG hU hl hm hc hc2
  have HR := Lib.hid (idB_def t u m)
  cases h0 : liB t u m with
  | false =>
    rw [show idB t u m = false by rw [HR.out]; simp [h0]]
    go_enter Try.func82, Try.ntmps82
    go_wp2_with fail
    refine (isLeftIdeal_any t u _ _ _ m _ (hv.ext hX) (hy.ext hX) (hlv.ext hX) HG.out HU.out HL.out HM.out).mono ?_
    rintro e wn ⟨rfl, hx⟩
    rw [h0]
    replace hX := hX.trans hx
    replace k0 := hx.cell k0
    replace k1 := hx.cell k1
    clear hx
    go_wp2
    go_ret
    exact ⟨rfl, hX⟩
  | true =>
    cases h1 : normB t m with
    | false =>
      rw [show idB t u m = false by rw [HR.out]; simp [h0, h1]]
      go_enter Try.func82, Try.ntmps82
      go_wp2_with fail
      refine (isLeftIdeal_any t u _ _ _ m _ (hv.ext hX) (hy.ext hX) (hlv.ext hX) HG.out HU.out HL.out HM.out).mono ?_
      rintro e wn ⟨rfl, hx⟩
      rw [h0]
      replace hX := hX.trans hx
      replace k0 := hx.cell k0
      replace k1 := hx.cell k1
      clear hx
      go_wp2_with fail
      refine (isNormal_any t _ m _ (hv.ext hX) HG.out HM.out).mono ?_
      rintro e wn ⟨rfl, hx⟩
      rw [h1]
      replace hX := hX.trans hx
      replace k0 := hx.cell k0
      replace k1 := hx.cell k1
      clear hx
      go_wp2
      go_ret
      exact ⟨rfl, hX⟩
    | true =>
      cases h2 : normB u m with
      | false =>
        rw [show idB t u m = false by rw [HR.out]; simp [h0, h1, h2]]
        go_enter Try.func82, Try.ntmps82
        go_wp2_with fail
        refine (isLeftIdeal_any t u _ _ _ m _ (hv.ext hX) (hy.ext hX) (hlv.ext hX) HG.out HU.out HL.out HM.out).mono ?_
        rintro e wn ⟨rfl, hx⟩
        rw [h0]
        replace hX := hX.trans hx
        replace k0 := hx.cell k0
        replace k1 := hx.cell k1
        clear hx
        go_wp2_with fail
        refine (isNormal_any t _ m _ (hv.ext hX) HG.out HM.out).mono ?_
        rintro e wn ⟨rfl, hx⟩
        rw [h1]
        replace hX := hX.trans hx
        replace k0 := hx.cell k0
        replace k1 := hx.cell k1
        clear hx
        go_wp2_with fail
        refine (isNormal_any u _ m _ (hy.ext hX) HU.out HMU.out).mono ?_
        rintro e wn ⟨rfl, hx⟩
        rw [h2]
        replace hX := hX.trans hx
        replace k0 := hx.cell k0
        replace k1 := hx.cell k1
        clear hx
        go_wp2
        go_ret
        exact ⟨rfl, hX⟩
      | true =>
        rw [show idB t u m = true by rw [HR.out]; simp [h0, h1, h2]]
        go_enter Try.func82, Try.ntmps82
        go_wp2_with fail
        refine (isLeftIdeal_any t u _ _ _ m _ (hv.ext hX) (hy.ext hX) (hlv.ext hX) HG.out HU.out HL.out HM.out).mono ?_
        rintro e wn ⟨rfl, hx⟩
        rw [h0]
        replace hX := hX.trans hx
        replace k0 := hx.cell k0
        replace k1 := hx.cell k1
        clear hx
        go_wp2_with fail
        refine (isNormal_any t _ m _ (hv.ext hX) HG.out HM.out).mono ?_
        rintro e wn ⟨rfl, hx⟩
        rw [h1]
        replace hX := hX.trans hx
        replace k0 := hx.cell k0
        replace k1 := hx.cell k1
        clear hx
        go_wp2_with fail
        refine (isNormal_any u _ m _ (hy.ext hX) HU.out HMU.out).mono ?_
        rintro e wn ⟨rfl, hx⟩
        rw [h2]
        replace hX := hX.trans hx
        replace k0 := hx.cell k0
        replace k1 := hx.cell k1
        clear hx
        go_wp2
        go_ret
        exact ⟨rfl, hX⟩

end Go.Proofs.Ytjcpeenalbgacaa
