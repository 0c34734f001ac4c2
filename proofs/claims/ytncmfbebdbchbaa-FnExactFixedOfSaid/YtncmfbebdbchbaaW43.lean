/-
  Contracts of FixedOf: reference and program.
-/
import Derived.Test.YtncmfbebdbchbaaProg
import Derived.Deep.DeepCutAuto
import Derived.Deep.RegionWith
import Derived.Deep.RegionHeld3
import Derived.Deep.DrawnRows
import Derived.Test.YtncmfbebdbchbaaBase
import Derived.Test.YtncmfbebdbchbaaBase2
import Derived.Test.YtncmfbebdbchbaaRet
import Derived.Test.YtncmfbebdbchbaaSteps
import Derived.Test.YtncmfbebdbchbaaGrow
import Derived.Test.YtncmfbebdbchbaaGrowR
import Derived.Test.YtncmfbebdbchbaaPure1
import Derived.Test.YtncmfbebdbchbaaPureOrd
import Derived.Test.YtncmfbebdbchbaaPureInv
import Derived.Test.YtncmfbebdbchbaaPureTurn
import Derived.Test.YtncmfbebdbchbaaPureConj
import Derived.Test.YtncmfbebdbchbaaPureSet
import Derived.Test.YtncmfbebdbchbaaPureBr
import Derived.Test.YtncmfbebdbchbaaPureSoc
import Derived.Test.YtncmfbebdbchbaaW1
import Derived.Test.YtncmfbebdbchbaaW3
import Derived.Test.YtncmfbebdbchbaaW4
import Derived.Test.YtncmfbebdbchbaaW5
import Derived.Test.YtncmfbebdbchbaaW6
import Derived.Test.YtncmfbebdbchbaaW8
import Derived.Test.YtncmfbebdbchbaaW11
import Derived.Test.YtncmfbebdbchbaaW12
import Derived.Test.YtncmfbebdbchbaaW20
import Derived.Test.YtncmfbebdbchbaaW26
import Derived.Test.YtncmfbebdbchbaaW28
import Derived.Test.YtncmfbebdbchbaaW29
import Derived.Test.YtncmfbebdbchbaaW37
import Derived.Test.YtncmfbebdbchbaaK2
namespace Go.Proofs.Ytncmfbebdbchbaa
set_option linter.unusedVariables false
set_option linter.unusedSimpArgs false
open Go.RowKit
attribute [local go_sem ↓] Go.wp_at_zero Go.wp_at_succ

/-! ### fixed elements -/
def FixTo (t u : List (List Int)) (x k : Nat) : Prop := ∀ y, y < k → lamF t u y x = (x : Int)
instance (t u x k) : Decidable (FixTo t u x k) := by unfold FixTo; infer_instance
@[irreducible] def fixB (t u : List (List Int)) (x k : Nat) : Bool := decide (FixTo t u x k)
theorem fixB_iff {t u x k} : fixB t u x k = true ↔ FixTo t u x k := by unfold fixB; simp
theorem fixB_zero (t u x) : fixB t u x 0 = true := fixB_iff.2 (fun y hy => by omega)
theorem fixB_succ (t u : List (List Int)) (x k : Nat) : fixB t u x (k + 1) = (fixB t u x k && (lamF t u k x == (x : Int))) := by
  rw [Bool.eq_iff_iff, Bool.and_eq_true, fixB_iff, fixB_iff, beq_iff_eq]
  exact ⟨fun h => ⟨fun y hy => h y (by omega), h k (by omega)⟩, fun h => all_succ h.1 h.2⟩
@[irreducible] def offB (x : Nat) (l : List Int) : Bool := ix l x != (x : Int)
theorem offB_def (x : Nat) (l : List Int) : (ix l x != (x : Int)) = offB x l := by unfold offB; rfl
theorem fixB_any (t u : List (List Int)) {x : Nat} (hx : x < t.length) : anyB (offB x) (mkT t.length (lamF t u)) = !fixB t u x t.length := by
  rw [← Bool.not_inj_iff, Bool.not_not, Bool.eq_iff_iff, Bool.not_eq_true', anyB_row, fixB_iff, length_mkT]
  constructor
  · intro h y hy
    have := h y hy
    rw [← offB_def, ent_def, ent_mkT _ _ _ _ hy hx] at this
    simpa using this
  · intro h y hy
    rw [← offB_def, ent_def, ent_mkT _ _ _ _ hy hx, h y hy]; simp
@[irreducible] def fixI (t u : List (List Int)) : Int := setOf (fun x => fixB t u x t.length) t.length
theorem fixI_def (t u : List (List Int)) : fixI t u = setOf (fun x => fixB t u x t.length) t.length := by unfold fixI; rfl

theorem FixedOf1_any (l : List Int) (r : Value) (x B : Nat) (w : World) (hr : Ints w r l) (hx : x < l.length) (hB : w.cell? ⟨B, 0, none⟩ = some (.int .i64 x)) :
    Calls Try.prog 74 #[r, .pointer (some ⟨B, 0, none⟩)] w fun e w' => e = .returned (.bool (offB x l)) ∧ Ext w w' := by
  obtain ⟨hlen, b, o, c, rfl, hc⟩ := hr
  have e1 := hc x hx
  have hd := offB_def x l
  go_enter Try.func74, Try.ntmps74
  go_wp2
  go_quiet (fail)
  go_wp2
  go_ret
  exact ⟨rfl, (Ext.refl _).drewN _⟩

theorem callFixedOf1 (args : Array Value) (w : World) : (callFunc 74 args).run Try.prog w = .ok (.enter 74 args) w :=
  callFunc_enter Try.func74 (by kernel_rfl) rfl args w

set_option maxRecDepth 100000 in
set_option maxHeartbeats 1000000 in
theorem FixedOf_spec (t u : List (List Int)) (v y : Value) (w : World) (hv : Rows w v t) (hy : Rows w y u) :
    Calls Try.prog 29 #[.agg #[v, y]] w (RetII (ifB t u (fixI t u) 0) (codeB t u) w) := by
  obtain ⟨hlen, b, o, c, rfl, hc⟩ := id hv
  obtain ⟨hlen2, b2, o2, c2, rfl, hc2⟩ := id hy
  have hX := ext_boxB w (.slice (some ⟨b, o, none⟩) t.length c) (.slice (some ⟨b2, o2, none⟩) u.length c2) 41
  have k0 := cell_new2a w (.slice (some ⟨b, o, none⟩) t.length c) (.slice (some ⟨b2, o2, none⟩) u.length c2) 41
  have k1 := cell_new2b w (.slice (some ⟨b, o, none⟩) t.length c) (.slice (some ⟨b2, o2, none⟩) u.length c2) 41
  cases hb : braceB t u with
  | false =>
    rw [ifB_no hb, codeB_no hb]
    clear hc hc2
    go_enter Try.func29, Try.ntmps29
    go_wp2_with fail
    refine (l11Is_any t u _ _ _ (hv.ext hX) (hy.ext hX)).mono ?_
    rintro e wn ⟨rfl, hx⟩
    replace hX := hX.trans hx
    replace k0 := hx.cell k0
    replace k1 := hx.cell k1
    clear hx
    rw [hb]
    go_wp2
    go_ret2
    exact ⟨rfl, hX⟩
  | true =>
    rw [ifB_yes hb, codeB_yes hb]
    obtain ⟨hG, hU, hL⟩ := braceB_ok hb
    have HL := Lib.hid hL
    have HG := Lib.hid hG
    have HU := Lib.hid hU
    have h12 := hG.1.2.1
    have HBR := Lib.hid hb
    clear hL hG hU
    go_enter Try.func29, Try.ntmps29
    go_wp2_with fail
    refine (l11Is_any t u _ _ _ (hv.ext hX) (hy.ext hX)).mono ?_
    rintro e wn ⟨rfl, hx⟩
    replace hX := hX.trans hx
    replace k0 := hx.cell k0
    replace k1 := hx.cell k1
    clear hx
    rw [hb]
    clear hb
    have HLT := Lib.hid (length_mkT t.length (lamF t u))
    obtain ⟨p, hp⟩ : ∃ p, p = (fun x => fixB t u x t.length) := ⟨_, rfl⟩
    have HFI := Lib.hid (show fixI t u = setOf p t.length by rw [fixI_def, hp])
    have HP := Lib.hid (show ∀ x, fixB t u x t.length = p x by intro x; rw [hp])
    clear hp
    go_wp2_with fail
    refine (l11Lambda_any t u _ _ _ (hv.ext hX) (hy.ext hX) HG.out HU.out HL.out).mono ?_
    rintro e w3 ⟨v3, rfl, hr3, hx⟩
    replace hX := hX.trans hx
    replace k0 := hx.cell k0
    obtain ⟨-, b3, o3, c3, rfl, hc3⟩ := hr3
    rw [HLT.out]
    clear hx k1
    go_wp2
    go_loopw [5, 6] (fun s i wr => ∃ k : Nat, k ≤ t.length ∧ i = .int .i64 k ∧ s = .int .i64 (setOf p k) ∧ Ext w3 wr) (fun _ i _ => t.length - (intOf i).toNat)
    case atStart => exact ⟨0, Nat.zero_le _, rfl, by rw [setOf_zero], Ext.refl _⟩
    case round =>
      obtain ⟨k, hk, rfl, rfl, hx⟩ := hrel
      have j0 := hx.cell k0
      by_cases hlt : k < t.length
      · obtain ⟨w2, rfl⟩ : ∃ w2 : World, w2 = wr := ⟨_, rfl⟩
        go_wp2
        go_loopw [7, 8] (fun s i wr => ∃ j : Nat, j ≤ t.length ∧ i = .int .i64 j ∧ s = .bool (fixB t u k j) ∧ Ext w2 wr) (fun _ i _ => t.length - (intOf i).toNat)
        case atStart => exact ⟨0, Nat.zero_le _, rfl, by rw [fixB_zero], Ext.refl _⟩
        case round =>
          obtain ⟨j, hj, rfl, rfl, hx2⟩ := hrel
          have m0 := hx2.cell j0
          by_cases hjk : j < t.length
          · obtain ⟨d1, s1, n1, r1, i1, -⟩ := (hc3.ext (hx.trans hx2)).get (i := j) (by rw [HLT.out]; exact hjk)
            have HRL := Lib.hid (length_row_mkT t.length (lamF t u) j hjk)
            rw [HRL.out] at r1
            have e1 := i1.ent HRL.out hlt
            rw [ent_mkT _ _ _ _ hjk hlt] at e1
            clear i1
            have HS := Lib.hid (fixB_succ t u k j)
            cases hcb : fixB t u k j with
            | true =>
              go_wp2
              go_roundw
              case rel => exact ⟨j + 1, by omega, by go_num, by rw [HS.out, hcb]; simp, hx2⟩
              case measure => simp [intOf]; omega
            | false =>
              go_wp2
              go_roundw
              case rel => exact ⟨j + 1, by omega, by go_num, by rw [HS.out, hcb]; simp, hx2⟩
              case measure => simp [intOf]; omega
          · have hjj : j = t.length := by omega
            subst hjj
            have hpk := HP.out k
            cases hcb : fixB t u k t.length with
            | true =>
              have HY := Lib.hid (setOf_yes (p := p) (k := k) (by rw [← hpk]; exact hcb))
              clear hpk
              go_wp2
              go_roundw
              case rel => exact ⟨k + 1, by omega, by go_num, by rw [HY.out], hx.trans hx2⟩
              case measure => simp [intOf]; omega
            | false =>
              have HY := Lib.hid (setOf_no (p := p) (k := k) (by rw [← hpk]; exact hcb))
              clear hpk
              go_wp2
              go_roundw
              case rel => exact ⟨k + 1, by omega, by go_num, by rw [HY.out], hx.trans hx2⟩
              case measure => simp [intOf]; omega
      · go_wp2
        go_ret2
        have hkk : k = t.length := by omega
        exact ⟨ret_two (by rw [hkk, HFI.out]) rfl, hX.trans hx⟩

set_option maxRecDepth 100000 in
set_option maxHeartbeats 1000000 in
theorem FixedOf_impl (t u : List (List Int)) (v y : Value) (w : World) (hv : Rows w v t) (hy : Rows w y u) :
    Calls Try.prog 30 #[.agg #[v, y]] w (RetII (ifB t u (fixI t u) 0) (codeB t u) w) := by
  obtain ⟨hlen, b, o, c, rfl, hc⟩ := id hv
  obtain ⟨hlen2, b2, o2, c2, rfl, hc2⟩ := id hy
  have hX := ext_boxB w (.slice (some ⟨b, o, none⟩) t.length c) (.slice (some ⟨b2, o2, none⟩) u.length c2) 41
  have k0 := cell_new2a w (.slice (some ⟨b, o, none⟩) t.length c) (.slice (some ⟨b2, o2, none⟩) u.length c2) 41
  have k1 := cell_new2b w (.slice (some ⟨b, o, none⟩) t.length c) (.slice (some ⟨b2, o2, none⟩) u.length c2) 41
  cases hb : braceB t u with
  | false =>
    rw [ifB_no hb, codeB_no hb]
    clear hc hc2
    go_enter Try.func30, Try.ntmps30
    go_wp2_with fail
    refine (IsBrace_impl t u _ _ _ (hv.ext hX) (hy.ext hX)).mono ?_
    rintro e wn ⟨rfl, hx⟩
    replace hX := hX.trans hx
    replace k0 := hx.cell k0
    replace k1 := hx.cell k1
    clear hx
    rw [hb]
    go_wp2
    go_ret2
    exact ⟨rfl, hX⟩
  | true =>
    rw [ifB_yes hb, codeB_yes hb]
    obtain ⟨hG, hU, hL⟩ := braceB_ok hb
    have HL := Lib.hid hL
    have HG := Lib.hid hG
    have HU := Lib.hid hU
    have h12 := hG.1.2.1
    have HBR := Lib.hid hb
    clear hL hG hU
    go_enter Try.func30, Try.ntmps30
    go_wp2_with fail
    refine (IsBrace_impl t u _ _ _ (hv.ext hX) (hy.ext hX)).mono ?_
    rintro e wn ⟨rfl, hx⟩
    replace hX := hX.trans hx
    replace k0 := hx.cell k0
    replace k1 := hx.cell k1
    clear hx
    rw [hb]
    clear hb
    have HLT := Lib.hid (length_mkT t.length (lamF t u))
    have HFA := Lib.hid (fun x (hx : x < t.length) => fixB_any t u hx)
    obtain ⟨p, hp⟩ : ∃ p, p = (fun x => fixB t u x t.length) := ⟨_, rfl⟩
    have HFI := Lib.hid (show fixI t u = setOf p t.length by rw [fixI_def, hp])
    have HP := Lib.hid (show ∀ x, fixB t u x t.length = p x by intro x; rw [hp])
    clear hp
    obtain ⟨w1, rfl⟩ : ∃ z : World, z = wn := ⟨_, rfl⟩
    have hsz := hX.size
    go_wp2
    go_loopw [4, 12] (fun s i wr => ∃ k : Nat, k ≤ t.length ∧ i = .int .i64 k ∧ s = .int .i64 (setOf p k) ∧ Ext w1 wr) (fun _ i _ => t.length - (intOf i).toNat)
    case atStart => exact ⟨0, Nat.zero_le _, rfl, by rw [setOf_zero], Ext.refl _⟩
    case round =>
      obtain ⟨k, hk, rfl, rfl, hx⟩ := hrel
      have j0 := hx.cell k0
      have j1 := hx.cell k1
      by_cases hlt : k < t.length
      case neg =>
        go_wp2
        go_ret2
        have hkk : k = t.length := by omega
        exact ⟨ret_two (by rw [hkk, HFI.out]) rfl, hX.trans hx⟩
      case pos =>
        obtain ⟨w2, rfl⟩ : ∃ w2 : World, w2 = wr := ⟨_, rfl⟩
        have hxb := ext_box w2 (.int .i64 k) 3
        have bb := cell_new w2 (.int .i64 k) 3
        have q0 := hxb.cell j0
        have q1 := hxb.cell j1
        go_wp2_with fail
        generalize w2.alloc (.cells #[.int .i64 k] 3) = w3 at *
        have hXX := hX.trans (hx.trans hxb)
        refine (lambdaTable_any t u _ _ _ (hv.ext hXX) (hy.ext hXX) HG.out HU.out HL.out).mono ?_
        rintro e w4 ⟨b4, c4, rfl, ho4, hx4⟩
        have bb4 := hx4.cell bb
        have HR := Lib.hid (ho4.rowsAt (small_mkT (by omega) _))
        rw [HLT.out]
        clear ho4
        go_wp2_with fail
        refine (ContainsFunc_any (mkT t.length (lamF t u)) (offB k) 74 #[.pointer (some ⟨w2.heap.size, 0, none⟩)] _ _ (by have := HR.out.rows (by rw [HLT.out]; omega) c4; rw [HLT.out] at this; exact this) callFixedOf1 (fun w5 r i h5 hi hr => by
          rw [app1]
          exact FixedOf1_any _ r k w2.heap.size w5 hr (by rw [length_row_mkT _ _ _ (by rw [HLT.out] at hi; exact hi)]; exact hlt) (h5.cell bb4))).mono ?_
        rintro e w5 ⟨rfl, hx5⟩
        have bb5 := hx5.cell bb4
        have hpk := HP.out k
        rw [HFA.out k hlt]
        cases hcb : fixB t u k t.length with
        | true =>
          have HY := Lib.hid (setOf_yes (p := p) (k := k) (by rw [← hpk]; exact hcb))
          clear hpk
          go_wp2
          go_roundw
          case rel => exact ⟨k + 1, by omega, by go_num, by rw [HY.out], hx.trans (hxb.trans (hx4.trans hx5))⟩
          case measure => simp [intOf]; omega
        | false =>
          have HY := Lib.hid (setOf_no (p := p) (k := k) (by rw [← hpk]; exact hcb))
          clear hpk
          go_wp2
          go_roundw
          case rel => exact ⟨k + 1, by omega, by go_num, by rw [HY.out], hx.trans (hxb.trans (hx4.trans hx5))⟩
          case measure => simp [intOf]; omega

end Go.Proofs.Ytncmfbebdbchbaa
