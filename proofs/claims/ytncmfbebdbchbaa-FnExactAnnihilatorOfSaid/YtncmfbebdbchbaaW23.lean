/-
  Contracts: abelian, center, the opposite group.
-/
import Derived.Test.YtncmfbebdbchbaaProg
import Derived.Deep.DeepCutAuto
import Derived.Deep.RegionWith
import Derived.Test.YtncmfbebdbchbaaBase
import Derived.Test.YtncmfbebdbchbaaBase2
import Derived.Test.YtncmfbebdbchbaaRet
import Derived.Test.YtncmfbebdbchbaaPure1
import Derived.Test.YtncmfbebdbchbaaPureOrd
import Derived.Test.YtncmfbebdbchbaaPureInv
import Derived.Test.YtncmfbebdbchbaaPureTurn
import Derived.Test.YtncmfbebdbchbaaW1
import Derived.Test.YtncmfbebdbchbaaW3
import Derived.Test.YtncmfbebdbchbaaW6
import Derived.Test.YtncmfbebdbchbaaW7
import Derived.Test.YtncmfbebdbchbaaW8
import Derived.Test.YtncmfbebdbchbaaW11
import Derived.Test.YtncmfbebdbchbaaW12
import Derived.Test.YtncmfbebdbchbaaW21
import Derived.Test.YtncmfbebdbchbaaW22
namespace Go.Proofs.Ytncmfbebdbchbaa
set_option linter.unusedVariables false
set_option linter.unusedSimpArgs false
open Go.RowKit

set_option maxRecDepth 100000 in
theorem l10Abelian_any (t : List (List Int)) (v : Value) (w : World) (hv : Rows w v t) (hT : TableOk t) :
    Calls Try.prog 96 #[v] w fun e w' => e = .returned (.bool (abelB t)) ∧ Ext w w' := by
  obtain ⟨hlen, b, o, c, rfl, hc⟩ := id hv
  have HI := Lib.hid (abelB_iff hT)
  have HT := Lib.hid hT
  clear hT
  go_enter Try.func96, Try.ntmps96
  go_wp2
  go_loopw [3] (fun i wr => ∃ k : Nat, k ≤ t.length ∧ i = .int .i64 k ∧ ComAll t k ∧ Ext w wr) (fun i _ => t.length - (intOf i).toNat)
  case atStart => exact ⟨0, Nat.zero_le _, rfl, ComAll.zero t, Ext.refl _⟩
  case round =>
    obtain ⟨k, hk, rfl, hall, hx⟩ := hrel
    have HA := Lib.hid hall
    clear hall
    by_cases hlt : k < t.length
    · obtain ⟨w2, rfl⟩ : ∃ w2 : World, w2 = wr := ⟨_, rfl⟩
      go_wp2
      go_loopw [4] (fun i wr => ∃ j : Nat, j ≤ k ∧ i = .int .i64 j ∧ ComTo t k j ∧ Ext w2 wr) (fun i _ => k - (intOf i).toNat)
      case atStart => exact ⟨0, Nat.zero_le _, rfl, ComTo.zero t k, Ext.refl _⟩
      case round =>
        obtain ⟨j, hj, rfl, hto, hx2⟩ := hrel
        have HJ := Lib.hid hto
        clear hto
        by_cases hjk : j < k
        · obtain ⟨b1, o1, c1, r1, i1, -⟩ := ((hc.ext hx).ext hx2).get hlt
          obtain ⟨b2, o2, c2, r2, i2, -⟩ := ((hc.ext hx).ext hx2).get (i := j) (by omega)
          have f1 := i1.ent (HT.out.len hlt) (y := j) (by omega)
          have f2 := i2.ent (HT.out.len (x := j) (by omega)) (y := k) (by omega)
          rw [HT.out.len hlt] at r1
          rw [HT.out.len (x := j) (by omega)] at r2
          clear i1 i2
          cases he : (ent t k j != ent t j k) with
          | true =>
            go_wp2
            go_quiet (fail)
            go_wp2
            go_ret
            refine ⟨ret_bool (Eq.symm ?_), (hx.trans hx2).drewN _⟩
            rw [← Bool.not_eq_true, HI.out]
            intro hA
            have := hA k hlt j hjk
            rw [this] at he; simp at he
          | false =>
            go_wp2
            go_quiet (fail)
            go_wp2
            go_roundw
            case rel => exact ⟨j + 1, by omega, by go_num, HJ.out.succ (by simpa using he), hx2.drewN _⟩
            case measure => simp [intOf]; omega
        · go_wp2
          go_roundw
          case rel =>
            have : j = k := by omega
            subst this
            exact ⟨j + 1, by omega, by go_num, HA.out.succ HJ.out, hx.trans hx2⟩
          case measure => simp [intOf]; omega
    · go_wp2
      go_ret
      have hkk : k = t.length := by omega
      subst hkk
      exact ⟨ret_bool (HI.out.2 HA.out).symm, hx⟩

set_option maxRecDepth 100000 in
theorem l10Center_any (t : List (List Int)) (v : Value) (w : World) (hv : Rows w v t) (hT : TableOk t) :
    Calls Try.prog 89 #[v] w fun e w' => e = .returned (.int .i64 (centerI t)) ∧ Ext w w' := by
  obtain ⟨hlen, b, o, c, rfl, hc⟩ := id hv
  have h12 := hT.2.1
  have HT := Lib.hid hT
  clear hT
  rw [centerI_def]
  generalize hp : (fun x => comB t x t.length) = p
  have HP := Lib.hid (fun x => congrFun hp x)
  clear hp
  go_enter Try.func89, Try.ntmps89
  go_wp2
  go_loopw [3, 4] (fun s i wr => ∃ k : Nat, k ≤ t.length ∧ i = .int .i64 k ∧ s = .int .i64 (setOf p k) ∧ Ext w wr) (fun _ i _ => t.length - (intOf i).toNat)
  case atStart => exact ⟨0, Nat.zero_le _, rfl, by rw [setOf_zero], Ext.refl _⟩
  case round =>
    obtain ⟨k, hk, rfl, rfl, hx⟩ := hrel
    by_cases hlt : k < t.length
    · obtain ⟨w2, rfl⟩ : ∃ w2 : World, w2 = wr := ⟨_, rfl⟩
      go_wp2
      go_loopw [5, 6] (fun s i wr => ∃ j : Nat, j ≤ t.length ∧ i = .int .i64 j ∧ s = .bool (comB t k j) ∧ Ext w2 wr) (fun _ i _ => t.length - (intOf i).toNat)
      case atStart => exact ⟨0, Nat.zero_le _, rfl, by rw [comB_zero], Ext.refl _⟩
      case round =>
        obtain ⟨j, hj, rfl, rfl, hx2⟩ := hrel
        by_cases hjk : j < t.length
        · obtain ⟨b1, o1, c1, r1, i1, -⟩ := ((hc.ext hx).ext hx2).get hlt
          obtain ⟨b2, o2, c2, r2, i2, -⟩ := ((hc.ext hx).ext hx2).get hjk
          have f1 := i1.ent (HT.out.len hlt) hjk
          have f2 := i2.ent (HT.out.len hjk) hlt
          rw [HT.out.len hlt] at r1
          rw [HT.out.len hjk] at r2
          clear i1 i2
          have hs := comB_succ t k j
          have HS := Lib.hid hs
          clear hs
          cases hcb : comB t k j with
          | true =>
            go_wp2
            go_quiet (fail)
            go_wp2
            go_roundw
            case rel => exact ⟨j + 1, by omega, by go_num, by rw [HS.out, hcb]; simp, hx2.drewN _⟩
            case measure => simp [intOf]; omega
          | false =>
            go_wp2
            go_quiet (fail)
            go_wp2
            go_roundw
            case rel => exact ⟨j + 1, by omega, by go_num, by rw [HS.out, hcb]; simp, hx2.drewN _⟩
            case measure => simp [intOf]; omega
        · have hjj : j = t.length := by omega
          subst hjj
          have hpk := HP.out k
          cases hcb : comB t k t.length with
          | true =>
            have hy := setOf_yes (p := p) (k := k) (by rw [← hpk]; exact hcb)
            have HY := Lib.hid hy
            clear hy hpk
            go_wp2
            go_roundw
            case rel => exact ⟨k + 1, by omega, by go_num, by rw [HY.out], hx.trans hx2⟩
            case measure => simp [intOf]; omega
          | false =>
            have hy := setOf_no (p := p) (k := k) (by rw [← hpk]; exact hcb)
            have HY := Lib.hid hy
            clear hy hpk
            go_wp2
            go_roundw
            case rel => exact ⟨k + 1, by omega, by go_num, by rw [HY.out], hx.trans hx2⟩
            case measure => simp [intOf]; omega
    · go_wp2
      go_ret
      have hkk : k = t.length := by omega
      exact ⟨ret_int (by rw [hkk]), hx⟩
end Go.Proofs.Ytncmfbebdbchbaa
