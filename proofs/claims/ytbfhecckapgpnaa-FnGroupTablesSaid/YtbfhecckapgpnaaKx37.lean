/-
  Contract of the reference's l03Image: the image of a table by a permutation.
-/
import Derived.Test.YtbfhecckapgpnaaProg
import Derived.Deep.DeepCutAuto
import Derived.Deep.RegionWith
import Derived.Deep.RegionHeld3
import Derived.Deep.DrawnRows
import Derived.BigRegion
import Derived.Test.YtbfhecckapgpnaaKx0
import Derived.Test.YtbfhecckapgpnaaKx1
import Derived.Test.YtbfhecckapgpnaaKx2
import Derived.Test.YtbfhecckapgpnaaKx8
import Derived.Test.YtbfhecckapgpnaaKx9
import Derived.Test.YtbfhecckapgpnaaKx7
import Derived.Test.YtbfhecckapgpnaaKx22
import Derived.Test.YtbfhecckapgpnaaKx5
import Derived.Test.YtbfhecckapgpnaaKx10
import Derived.Test.YtbfhecckapgpnaaKx6
import Derived.Test.YtbfhecckapgpnaaKx12
import Derived.Test.YtbfhecckapgpnaaKx13
import Derived.Test.YtbfhecckapgpnaaKx29
namespace Go.Proofs.Ytbfhecckapgpnaa
set_option linter.unusedVariables false
set_option linter.unusedSimpArgs false
open Go.RowKit
attribute [local go_sem ↓] Go.wp_at_zero Go.wp_at_succ
open Go.Deep

set_option maxRecDepth 100000 in
set_option maxHeartbeats 2000000 in
theorem l03Image_any (t : List (List Int)) (p : List Int) (v u : Value) (w : World) (hv : Rows w v t) (hu : Ints w u p) (hT : TableOk t) (hp : IsoOk t.length [] [] p) :
    Calls Try.prog 114 #[v, u] w (NewT (imgT t p) w) := by
  have HO := Lib.hid (l01Own2_own t v w hv)
  obtain ⟨hlen, b, o, c, rfl, hc⟩ := id hv
  obtain ⟨hlp, bp, op, cp, rfl, hcp⟩ := id hu
  have h12 := hT.2.1
  have h1 := hT.1
  have HT := Lib.hid hT
  have HP := Lib.hid hp
  have HPL := Lib.hid hp.1
  rw [hp.1]
  clear hT hp hu hv
  go_enter Try.func114, Try.ntmps114
  go_wp2_with fail
  refine HO.out.mono ?_
  rintro e w1 ⟨b1, c1, rfl, ho1, hx1⟩
  have z1 := hx1.size
  go_wp2_with fail
  go_loopw [6] (fun x wr => ∃ k T, k ≤ t.length ∧ x = .int .i64 (k : Nat) ∧ ImgTo t p k 0 T ∧ OwnT w.heap.size w1.heap.size wr b1 0 T ∧ Ext w wr ∧ wr.heap.size = w1.heap.size) (fun x _ => t.length - (intOf x).toNat)
  case atStart => exact ⟨0, t, by omega, rfl, ImgTo.start HT.out p, ho1, hx1, rfl⟩
  case round =>
    clear ho1 hx1
    obtain ⟨k, T, hk, rfl, hi, ho, hx, hsz⟩ := hrel
    by_cases hkl : k < t.length
    case neg =>
      have hkk : k = t.length := by omega
      subst hkk
      have hd := hi.done HP.out
      subst hd
      have HI := Lib.hid (length_imgT t p)
      go_wp2
      go_ret
      exact ⟨b1, c1, by rw [HI.out]; rfl, ho.mono (Nat.le_refl _) (by omega), hx⟩
    case pos =>
      obtain ⟨w2, rfl⟩ : ∃ w2 : World, w2 = wr := ⟨_, rfl⟩
      go_wp2_with fail
      go_loopw [7] (fun x wr => ∃ j T, j ≤ t.length ∧ x = .int .i64 (j : Nat) ∧ ImgTo t p k j T ∧ OwnT w.heap.size w1.heap.size wr b1 0 T ∧ Ext w wr ∧ wr.heap.size = w1.heap.size) (fun x _ => t.length - (intOf x).toNat)
      case atStart => exact ⟨0, T, by omega, rfl, hi, ho, hx, hsz⟩
      case round =>
        clear hi ho hx hsz
        obtain ⟨j, T, hj, rfl, hi, ho, hx, hsz⟩ := hrel
        by_cases hjl : j < t.length
        case neg =>
          have hjj : j = t.length := by omega
          subst hjj
          go_wp2
          go_roundw
          case rel => exact ⟨k + 1, T, by omega, by go_num, hi.next, ho, hx, hsz⟩
          case measure => simp [intOf]; omega
        case pos =>
          have p1 := HP.out.bd hkl
          have p2 := HP.out.bd hjl
          obtain ⟨x1, hx1⟩ : ∃ x1 : Nat, ix p k = (x1 : Int) := ⟨_, (Int.toNat_of_nonneg p1.1).symm⟩
          obtain ⟨y1, hy1⟩ : ∃ y1 : Nat, ix p j = (y1 : Int) := ⟨_, (Int.toNat_of_nonneg p2.1).symm⟩
          have hx1n : x1 < t.length := by omega
          have hy1n : y1 < t.length := by omega
          have q1 := HT.out.bd hkl hjl
          obtain ⟨z, hz⟩ : ∃ z : Nat, ent t k j = (z : Int) := ⟨_, (Int.toNat_of_nonneg q1.1).symm⟩
          have hzn : z < t.length := by omega
          obtain ⟨d1, s1, m1, r1, l1⟩ := (hc.ext hx).read HT.out rfl hkl
          have e1 := (hcp.ext hx) k (by rw [HPL.out]; exact hkl)
          have e2 := (hcp.ext hx) j (by rw [HPL.out]; exact hjl)
          have e3 := (hcp.ext hx) z (by rw [HPL.out]; exact hzn)
          have e4 := l1 j hjl
          obtain ⟨b3, o3, c3, e5, ho3⟩ := ho.get (k := x1) (by rw [hi.len]; exact hx1n)
          have hTl := hi.rows x1 hx1n
          rw [hTl] at e5
          have f3 := ho3.2.2.2 y1 (by rw [hTl]; exact hy1n)
          have e6 := ho3.2.2.1 y1 (by rw [hTl]; exact hy1n)
          rw [hx1] at e1
          rw [hy1] at e2
          rw [hz] at e4
          rw [Nat.zero_add] at e5
          have HI := Lib.hid hi
          have HOO := Lib.hid ho
          have HX := Lib.hid hx
          clear hi ho hx l1
          have hbb := ho3.1
          have hbb2 := ho3.2.1
          clear ho3
          go_wp2_with fail
          go_region
          all_goals
            go_wp2_with fail
            go_roundw
            case rel => exact ⟨j + 1, setE T x1 y1 (ix p z), by omega, by go_num, by
              have h := HI.out.step HP.out hkl hjl
              rw [hx1, hy1, hz, Int.toNat_natCast, Int.toNat_natCast, Int.toNat_natCast] at h
              exact h, (HOO.out.put (by rw [HI.out.len]; exact hx1n) (by rw [hTl]; exact hy1n) (by rw [Nat.zero_add]; exact e5) (ix p z)).keep (fun _ _ _ => rfl), (HX.out.setNew hbb _).drew, by rw [← hsz]; simp [size_drew]⟩
            case measure => simp [intOf]; omega
end Go.Proofs.Ytbfhecckapgpnaa
