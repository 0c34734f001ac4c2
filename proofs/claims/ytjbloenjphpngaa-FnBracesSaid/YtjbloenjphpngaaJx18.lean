/-
  l13Spread of the reference: known numbers of automorphisms are spread.
-/
import Derived.Test.YtjbloenjphpngaaProg
import Derived.Deep.DeepCutAuto
import Derived.Deep.RegionWith
import Derived.Deep.RegionHeld3
import Derived.Deep.DrawnRows
import Derived.BigQuiet
import Derived.Test.YtjbloenjphpngaaJx0
import Derived.Test.YtjbloenjphpngaaJx1
import Derived.Test.YtjbloenjphpngaaJx5
import Derived.Test.YtjbloenjphpngaaJx14
import Derived.Test.YtjbloenjphpngaaJx8
import Derived.Test.YtjbloenjphpngaaJx9
import Derived.Test.YtjbloenjphpngaaJx2
import Derived.Test.YtjbloenjphpngaaJx10
import Derived.Test.YtjbloenjphpngaaJx6
import Derived.Test.YtjbloenjphpngaaJx3
import Derived.Test.YtjbloenjphpngaaJx4
import Derived.Test.YtjbloenjphpngaaJx15
import Derived.Test.YtjbloenjphpngaaJx16
namespace Go.Proofs.Ytjbloenjphpngaa
set_option linter.unusedVariables false
set_option linter.unusedSimpArgs false
open Go.RowKit
attribute [local go_sem ↓] Go.wp_at_zero Go.wp_at_succ
open Go.Deep

/-- the numbers that lie in a block -/
def memK (w : World) (b n : Nat) : List Int := (List.range n).map fun i => match w.cell? ⟨b, i, none⟩ with | some (.int _ z) => z | _ => 0
theorem memK_eq {w : World} {b n : Nat} {K : List Int} (h : IntsAt w b 0 K) (hl : K.length = n) : memK w b n = K := by
  refine ix_ext (by simp [memK, hl]) fun i hi => ?_
  have hi' : i < n := by simpa [memK] using hi
  have hc := h i (by omega)
  rw [Nat.zero_add] at hc
  rw [ix_eq]
  simp [memK, List.getD, hi', hc]
def muS (b n : Nat) (a : Value) (w : World) : Nat := unset (memK w b n) + (match a with | .bool true => 1 | _ => 0)
theorem muS_eq {w : World} {b n : Nat} {K : List Int} (h : IntsAt w b 0 K) (hl : K.length = n) (g : Bool) : muS b n (.bool g) w = unset K + (if g = true then 1 else 0) := by
  unfold muS
  rw [memK_eq h hl]
  cases g <;> rfl
/-- what is returned -/
def SprPost (n m : Nat) (K : List Int) (w : World) (e : Ending) (w' : World) : Prop :=
  ∃ v' r, e = .returned (.tuple #[v', .bool r]) ∧ (r = true → ∃ K', Ints w' v' K' ∧ KOk n m K' ∧ unset K' ≤ unset K ∧ (Zer K → Zer K')) ∧ (Zer K → r = true) ∧ Ext w w'

set_option maxRecDepth 100000 in
set_option maxHeartbeats 4000000 in
theorem l13Spread_any (n : Nat) (T A : List (List Int)) (L : List Int) (tv av kv : Value) (w : World) (ht : Rows w tv T) (ha : Rows w av A) (hk : Ints w kv L) (hT : TableOk T) (hl : T.length = n) (hA : AutOk n A) (hK : KOk n A.length L) :
    Calls Try.prog 105 #[tv, av, kv] w (SprPost n A.length L w) := by
  obtain ⟨-, tb, tq, tc, rfl, htc⟩ := id ht
  obtain ⟨hal, ab, ao, ac, rfl, hac⟩ := id ha
  have h12 := hT.2.1
  have HT := Lib.hid hT
  have HA := Lib.hid hA
  have HK := Lib.hid hK
  have HTC := Lib.hid htc
  have HAC := Lib.hid hac
  have HAR := Lib.hid ha
  have hkl := hK.len
  subst hl
  clear hT hA hK htc hac ht ha
  go_enter Try.func105, Try.ntmps105
  go_wp2_with fail
  refine (l01Own_any L _ _ hk).mono ?_
  rintro e w1 ⟨br, cr, rfl, ho, hx1⟩
  rw [hkl]
  clear hk
  go_wp2
  go_loopw [9] (fun a wr => ∃ (g : Bool) (K1 : List Int), a = .bool g ∧ KOk T.length A.length K1 ∧ unset K1 ≤ unset L ∧ (Zer L → Zer K1) ∧ OwnI w.heap.size w1.heap.size wr br 0 K1 ∧ Ext w wr) (fun a wr => muS br T.length a wr)
  case atStart => exact ⟨true, L, rfl, HK.out, Nat.le_refl _, id, ho, hx1⟩
  case round =>
    clear ho hx1
    obtain ⟨g, K1, rfl, hk1, hu1, hz1, ho1, hx⟩ := hrel
    have HK1 := Lib.hid hk1
    have HZ1 := Lib.hid hz1
    have HO1 := Lib.hid ho1
    have HX := Lib.hid hx
    have hl1 := hk1.len
    clear hk1 hz1 ho1 hx
    cases g with
    | false =>
      go_wp2
      go_ret2
      refine ⟨_, true, rfl, fun _ => ⟨K1, ?_, HK1.out, hu1, HZ1.out⟩, fun _ => rfl, HX.out⟩
      have := HO1.out.2.2.1.ints (by omega) cr
      rwa [hl1] at this
    | true =>
      have hmu := muS_eq (n := T.length) HO1.out.2.2.1 hl1 true
      rw [if_pos rfl] at hmu
      have HMU := Lib.hid hmu
      clear hmu
      go_wp2
      obtain ⟨w2, rfl⟩ : ∃ z : World, z = wr := ⟨_, rfl⟩
      go_loopw [9, 10] (fun a x wr => ∃ (g : Bool) (i : Nat) (K2 : List Int), a = .bool g ∧ i ≤ T.length ∧ x = .int .i64 i ∧ KOk T.length A.length K2 ∧ (g = true → unset K2 < unset K1) ∧ (g = false → K2 = K1) ∧ (Zer L → Zer K2) ∧ OwnI w.heap.size w1.heap.size wr br 0 K2 ∧ Ext w wr) (fun _ x _ => T.length - (intOf x).toNat)
      case atStart => exact ⟨false, 0, K1, rfl, Nat.zero_le _, rfl, HK1.out, (fun h => by cases h), (fun _ => rfl), HZ1.out, HO1.out, HX.out⟩
      case round =>
        clear HO1 HX HZ1
        obtain ⟨g, i, K2, rfl, hi, rfl, hk2, hg1, hg2, hz2, ho2, hx⟩ := hrel
        have HK2 := Lib.hid hk2
        have HG1 := Lib.hid hg1
        have HG2 := Lib.hid hg2
        have HZ2 := Lib.hid hz2
        have HO2 := Lib.hid ho2
        have HX := Lib.hid hx
        have hl2 := hk2.len
        clear hk2 hg1 hg2 hz2 ho2 hx
        by_cases hil : i < T.length
        case neg =>
          go_wp2
          go_roundw
          case rel =>
            refine ⟨g, K2, rfl, HK2.out, ?_, HZ2.out, HO2.out, HX.out⟩
            cases g with
            | true => have := HG1.out rfl; omega
            | false => rw [HG2.out rfl]; exact hu1
          case measure =>
            rw [HMU.out, muS_eq (n := T.length) HO2.out.2.2.1 hl2]
            cases g with
            | true => have := HG1.out rfl; simp; omega
            | false => rw [HG2.out rfl]; simp
        case pos =>
          go_wp2
          obtain ⟨w3, rfl⟩ : ∃ z : World, z = wr := ⟨_, rfl⟩
          go_loopw [9, 11] (fun a y wr => ∃ (g : Bool) (j : Nat) (K3 : List Int), a = .bool g ∧ j ≤ T.length ∧ y = .int .i64 j ∧ KOk T.length A.length K3 ∧ (g = true → unset K3 < unset K1) ∧ (g = false → K3 = K1) ∧ (Zer L → Zer K3) ∧ OwnI w.heap.size w1.heap.size wr br 0 K3 ∧ Ext w wr) (fun _ y _ => T.length - (intOf y).toNat)
          case atStart => exact ⟨g, 0, K2, rfl, Nat.zero_le _, rfl, HK2.out, HG1.out, HG2.out, HZ2.out, HO2.out, HX.out⟩
          case round =>
            clear HO2 HX HZ2 HG1 HG2 HK2 hl2
            obtain ⟨g, j, K3, rfl, hj, rfl, hk3, hg1, hg2, hz3, ho3, hx⟩ := hrel
            have HK3 := Lib.hid hk3
            have HG1 := Lib.hid hg1
            have HG2 := Lib.hid hg2
            have HZ3 := Lib.hid hz3
            have HO3 := Lib.hid ho3
            have HX := Lib.hid hx
            have hl3 := hk3.len
            have hb3 := ho3.1
            have hb4 := ho3.2.1
            clear hk3 hg1 hg2 hz3 ho3 hx
            by_cases hjl : j < T.length
            case neg =>
              go_wp2
              go_roundw
              case rel => exact ⟨g, i + 1, K3, rfl, by omega, by go_num, HK3.out, HG1.out, HG2.out, HZ3.out, HO3.out, HX.out⟩
              case measure => simp [intOf]; omega
            case pos =>
              have cx := HO3.out.2.2.1 i (by omega)
              have cy := HO3.out.2.2.1 j (by omega)
              rw [Nat.zero_add] at cx cy
              obtain ⟨A1, hA1⟩ : ∃ z, z = ix K3 i := ⟨_, rfl⟩
              obtain ⟨A2, hA2⟩ : ∃ z, z = ix K3 j := ⟨_, rfl⟩
              rw [← hA1] at cx
              rw [← hA2] at cy
              have HA1 := Lib.hid hA1
              have HA2 := Lib.hid hA2
              have bx := HK3.out.bd i hil
              have bY := HK3.out.bd j hjl
              rw [← hA1] at bx
              rw [← hA2] at bY
              clear hA1 hA2
              by_cases hx0 : A1 < 0
              case pos =>
                go_wp2
                go_roundw
                case rel => exact ⟨g, j + 1, K3, rfl, by omega, by go_num, HK3.out, HG1.out, HG2.out, HZ3.out, HO3.out, HX.out⟩
                case measure => simp [intOf]; omega
              case neg =>
                by_cases hy0 : A2 < 0
                case pos =>
                  go_wp2
                  go_roundw
                  case rel => exact ⟨g, j + 1, K3, rfl, by omega, by go_num, HK3.out, HG1.out, HG2.out, HZ3.out, HO3.out, HX.out⟩
                  case measure => simp [intOf]; omega
                case neg =>
                  obtain ⟨a, rfl⟩ := Int.eq_ofNat_of_zero_le (a := A1) (by omega)
                  obtain ⟨b, rfl⟩ := Int.eq_ofNat_of_zero_le (a := A2) (by omega)
                  have haA : a < A.length := by omega
                  have hbA : b < A.length := by omega
                  have hpa := HA.out.perm a haA
                  have hpb := HA.out.perm b hbA
                  obtain ⟨d1, s1, m1, r1, l1, n1⟩ := HTC.out.get hil
                  rw [HT.out.len hil] at r1
                  obtain ⟨d2, s2, m2, r2, l2, n2⟩ := HAC.out.get haA
                  obtain ⟨d3, s3, m3, r3, l3, n3⟩ := HAC.out.get hbA
                  have i2 := l2.ints n2 m2
                  have i3 := l3.ints n3 m3
                  rw [hpa.1] at r2 i2
                  rw [hpb.1] at r3 i3
                  have hey := hpa.bd hjl
                  have e2 := l2 j (by rw [hpa.1]; exact hjl)
                  obtain ⟨q, hq⟩ := Int.eq_ofNat_of_zero_le hey.1
                  rw [hq] at e2
                  have hqT : q < T.length := by omega
                  have e1 := l1.ent (HT.out.len hil) (y := q) hqT
                  have hbz := HT.out.bd (x := i) (y := q) hil hqT
                  obtain ⟨z, hz⟩ := Int.eq_ofNat_of_zero_le (a := ent T i q) (by omega)
                  rw [hz] at e1 hbz
                  have hzT : z < T.length := by omega
                  have hcl := HA.out.clos a haA b hbA
                  obtain ⟨f, hf⟩ := Int.eq_ofNat_of_zero_le hcl.1
                  rw [hf] at hcl
                  have hfA : f < A.length := by omega
                  have cz := HO3.out.2.2.1 z (by omega)
                  have fz := HO3.out.2.2.2 z (by omega)
                  rw [Nat.zero_add] at cz fz
                  have hbzk := HK3.out.bd z hzT
                  have HF := Lib.hid hf
                  have I2 := Lib.hid i2
                  have I3 := Lib.hid i3
                  have HPA := Lib.hid hpa
                  have HPB := Lib.hid hpb
                  have r1 := HX.out.cell r1
                  have r2 := HX.out.cell r2
                  have r3 := HX.out.cell r3
                  have e2 := HX.out.cell e2
                  have e1 := HX.out.cell e1
                  clear hf i2 i3 hpa hpb l1 l2 l3 hey hq hz
                  go_wp2
                  go_quiet (fail)
                  go_wp2
                  go_cut [13] (fun p wx => p = .int .i64 (f : Int) ∧ Ext wr wx)
                  case first =>
                    go_region_with (first
                      | (go_at_call 97; refine (l04Find_any A _ _ _ _ (HAR.out.ext (HX.out.trans (((Ext.refl _).drewN _).trans hxB))) hpB).mono ?_; rintro e wC ⟨rfl, hdC⟩; rw [HF.out])
                      | (go_at_call 94; refine (l01Then_any T.length _ _ _ _ _ (I3.out.ext (HX.out.trans ((Ext.refl _).drewN _))) (I2.out.ext (HX.out.trans ((Ext.refl _).drewN _))) HPB.out HPA.out.1 h12).mono ?_; rintro e wB ⟨pb, pc, rfl, hoB, hxB⟩; have hpB := hoB.2.2.1.ints (by rw [length_thenL, HPB.out.1]; omega) pc))
                    all_goals
                      go_wp2
                      go_meet
                      case rel => exact ⟨rfl, ((Ext.refl _).drewN _).trans (hxB.trans hdC.ext)⟩
                  obtain ⟨rfl, hxc⟩ := hcut
                  have HXC := Lib.hid hxc
                  have hbw := World.block_lt_of_cell? _ _ cz
                  simp only [] at hbw
                  have fz := hxc.free fz hbw
                  have cz := hxc.cell cz
                  have HO4 := Lib.hid (show OwnI w.heap.size w1.heap.size wc br 0 K3 from HO3.out.block (hxc.block br hbw))
                  have HX4 := Lib.hid (HX.out.trans hxc)
                  have HZF := Lib.hid (show Zer L → (f : Int) = 0 by
                    intro hZ
                    have h3 := HZ3.out hZ
                    have ea := h3 i (by omega)
                    have eb := h3 j (by omega)
                    rw [← HA1.out] at ea
                    rw [← HA2.out] at eb
                    have ea : a = 0 := by omega
                    have eb : b = 0 := by omega
                    rw [← HF.out, ea, eb]
                    exact HA.out.zero)
                  clear hxc
                  by_cases hz0 : ix K3 z < 0
                  case pos =>
                    have hle : w.heap.size ≤ br := hb3
                    have HKS := Lib.hid (HK3.out.set (z := z) (v := (f : Int)) hzT (by omega) (by omega))
                    have HUS := Lib.hid (unset_set HK3.out (z := z) (v := (f : Int)) hzT (by omega) hz0)
                    have HU1 := Lib.hid (show unset K3 ≤ unset K1 by
                      cases g with
                      | true => have := HG1.out rfl; omega
                      | false => rw [HG2.out rfl]; exact Nat.le_refl _)
                    have HZS := Lib.hid (show Zer L → Zer (K3.set z (f : Int)) by
                      intro hZ
                      rw [HZF.out hZ]
                      exact (HZ3.out hZ).set HK3.out hzT)
                    have ho5 := HO4.out.put (j := z) (by omega) (f : Int)
                    rw [Nat.zero_add] at ho5
                    have HO5 := Lib.hid ho5
                    have HX5 := Lib.hid (HX4.out.setNew (p := ⟨br, z, none⟩) hle (.int .i64 (f : Int)))
                    clear ho5
                    go_wp2
                    go_roundw
                    case rel => exact ⟨true, j + 1, K3.set z (f : Int), rfl, by omega, by go_num, HKS.out, fun _ => by have := HUS.out; have := HU1.out; omega, (fun h => by cases h), HZS.out, HO5.out, HX5.out⟩
                    case measure => simp [intOf]; omega
                  case neg =>
                    by_cases hne : ix K3 z = (f : Int)
                    case pos =>
                      have hnb : (ix K3 z != (f : Int)) = false := by simpa using hne
                      go_wp2
                      go_roundw
                      case rel => exact ⟨g, j + 1, K3, rfl, by omega, by go_num, HK3.out, HG1.out, HG2.out, HZ3.out, HO4.out, HX4.out⟩
                      case measure => simp [intOf]; omega
                    case neg =>
                      have hnb : (ix K3 z != (f : Int)) = true := by simpa using hne
                      have HNZ := Lib.hid (show Zer L → False by
                        intro hZ
                        have h1 := HZF.out hZ
                        have h2 := HZ3.out hZ z (by omega)
                        omega)
                      go_wp2
                      go_ret2
                      exact ⟨_, false, rfl, (fun h => by cases h), (fun h => (HNZ.out h).elim), HX4.out⟩
end Go.Proofs.Ytjbloenjphpngaa
