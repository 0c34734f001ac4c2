/-
  Contracts: groupOfPermutations of the program; GroupOfPermutations.
-/
import Derived.Test.YtbfhecckapgpnaaGreatProg
import Derived.Deep.DeepCutAuto
import Derived.Deep.RegionWith
import Derived.Deep.RegionHeld3
import Derived.Deep.DrawnRows
import Derived.Test.YtbfhecckapgpnaaGreatJx0
import Derived.Test.YtbfhecckapgpnaaGreatJx1
import Derived.Test.YtbfhecckapgpnaaGreatJx2
import Derived.Test.YtbfhecckapgpnaaGreatJx8
import Derived.Test.YtbfhecckapgpnaaGreatJx9
import Derived.Test.YtbfhecckapgpnaaGreatJx7
import Derived.Test.YtbfhecckapgpnaaGreatJx22
import Derived.Test.YtbfhecckapgpnaaGreatJx5
import Derived.Test.YtbfhecckapgpnaaGreatJx11
import Derived.Test.YtbfhecckapgpnaaGreatJx10
import Derived.Test.YtbfhecckapgpnaaGreatJx6
import Derived.Test.YtbfhecckapgpnaaGreatJx12
import Derived.Test.YtbfhecckapgpnaaGreatJx32
import Derived.Test.YtbfhecckapgpnaaGreatJx14
import Derived.Test.YtbfhecckapgpnaaGreatJx21
import Derived.Test.YtbfhecckapgpnaaGreatJx27
import Derived.Test.YtbfhecckapgpnaaGreatJx33
import Derived.Test.YtbfhecckapgpnaaGreatJx34
import Derived.Test.YtbfhecckapgpnaaGreatJx48
import Derived.Test.YtbfhecckapgpnaaGreatJx3
namespace Go.Proofs.YtbfhecckapgpnaaGreat
set_option linter.unusedVariables false
set_option linter.unusedSimpArgs false
open Go.RowKit
attribute [local go_sem ↓] Go.wp_at_zero Go.wp_at_succ
open Go.Deep

set_option maxRecDepth 100000 in
set_option maxHeartbeats 1000000 in
theorem gop1_any (n x y B : Nat) (S : List (List Int)) (v : Value) (w : World) (hv : Rows w v S) (hB : w.cell? ⟨B, 0, none⟩ = some v) (hS : ∀ i, i < S.length → IsoOk n [] [] (row S i)) (hx : x < S.length) (hy : y < S.length) (h12 : n ≤ 12) :
    Calls Tryz.prog 78 #[.int .i64 x, .int .i64 y, .pointer (some ⟨B, 0, none⟩)] w fun e w' => e = .returned (.int .i64 (gopE S x y)) ∧ Ext w w' := by
  obtain ⟨hlen, b, o, c, rfl, hc⟩ := id hv
  obtain ⟨b1, o1, c1, r1, i1, l1⟩ := hc.get hx
  obtain ⟨b2, o2, c2, r2, i2, l2⟩ := hc.get hy
  have I1 := Lib.hid (i1.ints l1 c1)
  have I2 := Lib.hid (i2.ints l2 c2)
  have P1 := Lib.hid (hS x hx)
  have P2 := Lib.hid (hS y hy).1
  have HV := Lib.hid hv
  have HE := Lib.hid (show gopE S x y = findL S (thenL (row S x) (row S y)) from rfl)
  have HL := Lib.hid (length_thenL (row S x) (row S y))
  have hxi : (x : Int) < (S.length : Int) := by omega
  have hyi : (y : Int) < (S.length : Int) := by omega
  clear hS i1 i2 hc hv
  go_enter Tryz.func78, Tryz.ntmps78
  go_wp2_with fail
  go_region_held3 (fun w' => w'.cell? ⟨B, 0, none⟩ = some (.slice (some ⟨b, o, none⟩) S.length c) ∧ w'.cell? ⟨b, o + x, none⟩ = some (.slice (some ⟨b1, o1, none⟩) (row S x).length c1) ∧ w'.cell? ⟨b, o + y, none⟩ = some (.slice (some ⟨b2, o2, none⟩) (row S y).length c2))
    ((refine ⟨?_, ?_, ?_⟩ <;> (repeat first | (with_reducible assumption) | (with_reducible refine Ext.cell hx5 ?_) | (with_reducible refine Ext.cell hx4 ?_) |  (with_reducible exact kc_new) | ((with_reducible refine kc_newE ?_); (simp; done)) | ((with_reducible refine kc_newEa ?_); (simp; done)) | ((with_reducible refine kc_newEb ?_); (simp; done)) | (with_reducible apply kc_alloc) | (with_reducible apply kc_drewN) | (with_reducible apply kc_drew) | ((with_reducible refine kc_set ?_ ?_); (first | (simp only []; omega) | (simp; omega) | (focus (simp; done)))) | ((with_reducible refine kc_set2 ?_ ?_); (focus (simp; done))) | (with_reducible refine kc_same (v := .slice none 0 0) ?_))))
    (first
      | (go_at_call 80; refine (then_any n (row S x) (row S y) _ _ _ (I1.out.ext (by (repeat first | (with_reducible exact Ext.refl _) | (with_reducible assumption) | (with_reducible apply Ext.drew) | (with_reducible apply kx_drewN) | (with_reducible apply kx_alloc) | ((with_reducible refine kx_set ?_ ?_); (first | (simp only []; omega) | (simp; omega) | (focus (simp; done)))) ))) (I2.out.ext (by (repeat first | (with_reducible exact Ext.refl _) | (with_reducible assumption) | (with_reducible apply Ext.drew) | (with_reducible apply kx_drewN) | (with_reducible apply kx_alloc) | ((with_reducible refine kx_set ?_ ?_); (first | (simp only []; omega) | (simp; omega) | (focus (simp; done)))) ))) P1.out P2.out h12).mono ?_; rintro e w4 ⟨b4, c4, rfl, ho4, hx4⟩)
      | (go_at_call 79; refine (listIndex_any S (thenL (row S x) (row S y)) _ _ _ (HV.out.ext (by (repeat first | (with_reducible exact Ext.refl _) | (with_reducible assumption) | (with_reducible apply Ext.drew) | (with_reducible apply kx_drewN) | (with_reducible apply kx_alloc) | ((with_reducible refine kx_set ?_ ?_); (first | (simp only []; omega) | (simp; omega) | (focus (simp; done)))) | (with_reducible refine Ext.trans ?_ hx4) ))) (ho4.2.2.1.ints (by rw [HL.out]; exact l1) c4)).mono ?_; rintro e w5 ⟨rfl, hx5⟩))
  all_goals
    go_wp2
    go_ret
    exact ⟨by rw [HE.out]; rfl, Ext.trans (Ext.trans (Ext.drew (Ext.refl _)) hx4) hx5⟩
theorem callGop1 (args : Array Value) (w : World) : (callFunc 78 args).run Tryz.prog w = .ok (.enter 78 args) w :=
  callFunc_enter Tryz.func78 (by kernel_rfl) rfl args w

/-- what groupOfPermutations gives -/
def GopPost (S : List (List Int)) (w : World) (e : Ending) (w' : World) : Prop :=
  ∃ b c, e = .returned (.tuple #[.agg #[.slice (some ⟨b, 0, none⟩) S.length c], .bool true]) ∧ OwnT w.heap.size w'.heap.size w' b 0 (mkT S.length (gopE S)) ∧ Ext w w'

set_option maxRecDepth 100000 in
set_option maxHeartbeats 1000000 in
theorem groupOfPermutations_big (n : Nat) (gens : List (List Int)) (v : Value) (w : World) (hv : Rows w v gens) (hg : ∀ k, k < gens.length → IsoOk n [] [] (row gens k)) (h1 : 1 ≤ n) (h12 : n ≤ 12) (h16 : gens.length ≤ 16) (hbig : ¬ (genA gens n).length ≤ 12) :
    Calls Tryz.prog 42 #[.int .i64 n, v] w fun e w' => e = .returned (.tuple #[.agg #[.slice none 0 0], .bool false]) ∧ Ext w w' := by
  obtain ⟨hlen, b, o, c, rfl, -⟩ := id hv
  have hx0 := ext_box w (.slice none 0 0) 26
  have b0 := cell_new w (.slice none 0 0) 26
  have q0 : (w.alloc (.cells #[.slice none 0 0] 26)).frozen? ⟨w.heap.size, 0, none⟩ = false := by simp
  have hbi : (12 : Int) < ((genA gens n).length : Int) := by omega
  have HV := Lib.hid (hv.ext hx0)
  have HG := Lib.hid hg
  clear hv hg
  go_enter Tryz.func42, Tryz.ntmps42
  go_wp2_with fail
  refine (groupOrder_any n gens _ _ HV.out HG.out h1 h12 h16).mono ?_
  rintro e w1 ⟨rfl, hx1⟩
  have f1 := hx1.cell b0
  have f2 := hx1.free q0 (by simp)
  go_wp2_with fail
  refine bodyPost_ret (v := .tuple #[.agg #[.slice none 0 0], .bool false]) (by simp [results, Tryz.results42, go_sem, f1]) rfl ⟨rfl, (hx0.trans hx1).setNew (Nat.le_refl _) _⟩

set_option maxRecDepth 100000 in
set_option maxHeartbeats 1000000 in
theorem groupOfPermutations_any (n : Nat) (gens : List (List Int)) (v : Value) (w : World) (hv : Rows w v gens) (hg : ∀ k, k < gens.length → IsoOk n [] [] (row gens k)) (h1 : 1 ≤ n) (h12 : n ≤ 12) (h16 : gens.length ≤ 16) (hbig : (genA gens n).length ≤ 12) :
    Calls Tryz.prog 42 #[.int .i64 n, v] w (GopPost (sortS (genA gens n)) w) := by
  obtain ⟨hlen, b, o, c, rfl, -⟩ := id hv
  have hx0 := ext_box w (.slice none 0 0) 26
  have b0 := cell_new w (.slice none 0 0) 26
  have q0 : (w.alloc (.cells #[.slice none 0 0] 26)).frozen? ⟨w.heap.size, 0, none⟩ = false := by simp
  have z0 : w.heap.size + 1 ≤ (w.alloc (.cells #[.slice none 0 0] 26)).heap.size := by simp
  obtain ⟨A, hA⟩ : ∃ A, A = (w.alloc (.cells #[.slice none 0 0] 26)) := ⟨_, rfl⟩
  rw [← hA] at hx0 b0 q0 z0
  have hbi : ¬ (12 : Int) < ((genA gens n).length : Int) := by omega
  have HV := Lib.hid (hv.ext hx0)
  have HX0 := Lib.hid hx0
  have HG := Lib.hid hg
  have HB := Lib.hid hbig
  have HSR := Lib.hid (sorted_rows (genA_good hg (idL_perm n)))
  have hsl := length_sortS (genA gens n)
  obtain ⟨S, hS⟩ : ∃ S, S = sortS (genA gens n) := ⟨_, rfl⟩
  rw [← hS] at HSR hsl ⊢
  have HS := Lib.hid hS
  have HSL := Lib.hid hsl
  clear hv hg hbig hS hsl hx0
  go_enter Tryz.func42, Tryz.ntmps42
  go_wp2_with fail
  rw [← hA]
  refine (groupOrder_any n gens _ _ HV.out HG.out h1 h12 h16).mono ?_
  rintro e w1 ⟨rfl, hx1⟩
  clear hA
  have f1 := hx1.cell b0
  have f2 := hx1.free q0 (by simp only []; omega)
  have z1 := hx1.size
  have HX1 := Lib.hid hx1
  clear b0 q0 hx1
  go_wp2_with fail
  refine (groupElements_any n gens _ _ (HV.out.ext HX1.out) HG.out h1 h12 h16 HB.out).mono ?_
  rintro e w2 ⟨g, c2, rfl, hr2, hx2⟩
  rw [← HSL.out, ← HS.out] at *
  have f3 := hx2.cell f1
  have f4 := hx2.free f2 (by simp only []; omega)
  have z2 := hx2.size
  have HX2 := Lib.hid (HX0.out.trans (HX1.out.trans hx2))
  have HR2 := Lib.hid hr2
  clear hx2 hr2 f1 f2 HX1
  have f5 := (ext_box w2 (.slice (some ⟨g, 0, none⟩) S.length c2) 24).cell f3
  have f6 := (ext_box w2 (.slice (some ⟨g, 0, none⟩) S.length c2) 24).free f4 (by simp only []; omega)
  have hcb := cell_new w2 (.slice (some ⟨g, 0, none⟩) S.length c2) 24
  have HXB := Lib.hid (ext_box w2 (.slice (some ⟨g, 0, none⟩) S.length c2) 24)
  have HCB := Lib.hid hcb
  have hs12 : S.length ≤ 12 := by have := HSL.out; have := HB.out; omega
  go_wp2_with fail
  refine (tableBy_any S.length (gopE S) 78 #[.pointer (some ⟨w2.heap.size, 0, none⟩)] _ (by omega) callGop1 (fun w1 x y hx hxn hyn => by rw [app21]; exact gop1_any n x y w2.heap.size S _ w1 ((HR2.out.ext HXB.out).ext hx) (hx.cell HCB.out) HSR.out hxn hyn h12)).mono ?_
  rintro e w5 ⟨b5, c5, rfl, ho5, hx5⟩
  rw [length_mkT] at *
  have f7 := hx5.cell f5
  have f8 := hx5.free f6 (by simp; omega)
  have z5 := hx5.size
  simp at z5
  have HX5 := Lib.hid (HXB.out.trans hx5)
  have HO5 := Lib.hid ho5
  clear f5 f6 hx5 ho5 f3 f4 hcb
  go_wp2_with fail
  refine bodyPost_ret (v := .tuple #[.agg #[.slice (some ⟨b5, 0, none⟩) S.length c5], .bool true]) (by simp [results, Tryz.results42, go_sem, f7]) rfl ⟨b5, c5, rfl, ?_, (HX2.out.trans HX5.out).setNew (by simp only []; omega) _⟩
  exact ((HO5.out.setOther (.inl (by simp; omega)) _).mono (by simp <;> omega) (by simp))
end Go.Proofs.YtbfhecckapgpnaaGreat

/-
  Contracts of IsNormalIn: reference and program (codes).
-/
namespace Go.Proofs.YtbfhecckapgpnaaGreat
set_option linter.unusedVariables false
set_option linter.unusedSimpArgs false
open Go.RowKit
attribute [local go_sem ↓] Go.wp_at_zero Go.wp_at_succ

set_option maxRecDepth 100000 in
set_option maxHeartbeats 1000000 in
theorem l10Sub_any (t : List (List Int)) (v : Value) (a : Int) (w : World) (hv : Rows w v t) :
    Calls Tryz.prog 31 #[.agg #[v], .int .i64 a] w fun e w' => e = .returned (.int .i64 (subC t a)) ∧ Ext w w' := by
  obtain ⟨hlen, b, o, c, rfl, hc⟩ := id hv
  have hX := ext_box w (.slice (some ⟨b, o, none⟩) t.length c) 26
  have k0 := cell_new w (.slice (some ⟨b, o, none⟩) t.length c) 26
  cases hg : groupB t with
  | false =>
    rw [subC_1 hg]
    go_enter Tryz.func31, Tryz.ntmps31
    go_wp2_with fail
    refine (l10Is_any t _ _ (hv.ext hX)).mono ?_
    rintro e w1 ⟨rfl, hx⟩
    rw [hg]
    replace hX := hX.trans hx
    replace k0 := hx.cell k0
    clear hx
    go_wp2
    go_ret
    exact ⟨rfl, hX⟩
  | true =>
    have HG := Lib.hid (groupB_iff.1 hg)
    have h12 := HG.out.1.2.1
    have hp := pow12 h12
    have h1p := Nat.two_pow_pos t.length
    have HW := Lib.hid (wrapPow h12)
    obtain ⟨P, hP⟩ : ∃ P : Nat, P = 2 ^ t.length := ⟨_, rfl⟩
    have hw : wrap64 (2 ^ t.length) = (P : Int) := by rw [HW.out, hP]
    rw [← hP] at hp h1p
    have HP := Lib.hid hP
    clear hP
    cases hin : inR a 0 ((P : Int) - 1) with
    | false =>
      rw [subC_2 hg (by rw [← HP.out]; exact hin)]
      go_enter Tryz.func31, Tryz.ntmps31
      go_wp2_with fail
      refine (l10Is_any t _ _ (hv.ext hX)).mono ?_
      rintro e w1 ⟨rfl, hx⟩
      rw [hg]
      replace hX := hX.trans hx
      replace k0 := hx.cell k0
      clear hx
      clear hg
      go_wp2_with (go_at_call 43; refine (l01In_any _ _ _ _).mono ?_; rintro e w' ⟨rfl, rfl⟩; rw [hin])
      go_ret
      exact ⟨rfl, hX⟩
    | true =>
      have hb := inR_iff.1 hin
      obtain ⟨m, rfl⟩ := Int.eq_ofNat_of_zero_le hb.1
      have HM := Lib.hid (show m < 2 ^ t.length by rw [← HP.out]; omega)
      have H62 := Lib.hid (lt62 h12 HM.out)
      clear hb
      cases hb0 : bitB m 0 with
      | false =>
        rw [subC_5 hg (by rw [← HP.out]; exact hin) (subB_0 hb0)]
        have he := ediv2_nobit H62.out hb0
        clear hb0
        go_enter Tryz.func31, Tryz.ntmps31
        go_wp2_with fail
        refine (l10Is_any t _ _ (hv.ext hX)).mono ?_
        rintro e w1 ⟨rfl, hx⟩
        rw [hg]
        replace hX := hX.trans hx
        replace k0 := hx.cell k0
        clear hx
        clear hg
        go_wp2_with (go_at_call 43; refine (l01In_any _ _ _ _).mono ?_; rintro e w' ⟨rfl, rfl⟩; rw [hin])
        go_ret
        exact ⟨rfl, hX⟩
      | true =>
        have he := ediv2_bit H62.out hb0
        have HS := Lib.hid (subB_1 (t := t) hb0)
        cases hcl : closedB t m with
        | false =>
          rw [subC_5 hg (by rw [← HP.out]; exact hin) (by rw [HS.out]; exact hcl)]
          go_enter Tryz.func31, Tryz.ntmps31
          go_wp2_with fail
          refine (l10Is_any t _ _ (hv.ext hX)).mono ?_
          rintro e w1 ⟨rfl, hx⟩
          rw [hg]
          replace hX := hX.trans hx
          replace k0 := hx.cell k0
          clear hx
          clear hg
          go_wp2_with (first | (go_at_call 43; refine (l01In_any _ _ _ _).mono ?_; rintro e w' ⟨rfl, rfl⟩; rw [hin]) | (go_at_call 69; refine (l04Closed_any t _ m _ (hv.ext hX) HG.out.1 HM.out).mono ?_; rintro e w' ⟨rfl, rfl⟩; rw [hcl]))
          go_ret
          exact ⟨rfl, hX⟩
        | true =>
          rw [subC_0 hg (by rw [← HP.out]; exact hin) (by rw [HS.out]; exact hcl)]
          go_enter Tryz.func31, Tryz.ntmps31
          go_wp2_with fail
          refine (l10Is_any t _ _ (hv.ext hX)).mono ?_
          rintro e w1 ⟨rfl, hx⟩
          rw [hg]
          replace hX := hX.trans hx
          replace k0 := hx.cell k0
          clear hx
          clear hg
          go_wp2_with (first | (go_at_call 43; refine (l01In_any _ _ _ _).mono ?_; rintro e w' ⟨rfl, rfl⟩; rw [hin]) | (go_at_call 69; refine (l04Closed_any t _ m _ (hv.ext hX) HG.out.1 HM.out).mono ?_; rintro e w' ⟨rfl, rfl⟩; rw [hcl]))
          go_ret
          exact ⟨rfl, hX⟩

set_option maxRecDepth 100000 in
set_option maxHeartbeats 1000000 in
theorem checkSubgroup_any (t : List (List Int)) (v : Value) (a : Int) (w : World) (hv : Rows w v t) :
    Calls Tryz.prog 27 #[.agg #[v], .int .i64 a] w fun e w' => e = .returned (.int .i64 (subC t a)) ∧ Ext w w' := by
  obtain ⟨hlen, b, o, c, rfl, hc⟩ := id hv
  have hX := ext_box w (.slice (some ⟨b, o, none⟩) t.length c) 26
  have k0 := cell_new w (.slice (some ⟨b, o, none⟩) t.length c) 26
  cases hg : groupB t with
  | false =>
    rw [subC_1 hg]
    go_enter Tryz.func27, Tryz.ntmps27
    go_wp2_with fail
    refine (IsGroup_impl t _ _ (hv.ext hX)).mono ?_
    rintro e w1 ⟨rfl, hx⟩
    rw [hg]
    replace hX := hX.trans hx
    replace k0 := hx.cell k0
    clear hx
    go_wp2
    go_ret
    exact ⟨rfl, hX⟩
  | true =>
    have HG := Lib.hid (groupB_iff.1 hg)
    have h12 := HG.out.1.2.1
    have hp := pow12 h12
    have h1p := Nat.two_pow_pos t.length
    have HW := Lib.hid (wrapPow h12)
    obtain ⟨P, hP⟩ : ∃ P : Nat, P = 2 ^ t.length := ⟨_, rfl⟩
    have hw : wrap64 (2 ^ t.length) = (P : Int) := by rw [HW.out, hP]
    rw [← hP] at hp h1p
    have HP := Lib.hid hP
    clear hP
    cases hin : inR a 0 ((P : Int) - 1) with
    | false =>
      rw [subC_2 hg (by rw [← HP.out]; exact hin)]
      go_enter Tryz.func27, Tryz.ntmps27
      go_wp2_with fail
      refine (IsGroup_impl t _ _ (hv.ext hX)).mono ?_
      rintro e w1 ⟨rfl, hx⟩
      rw [hg]
      replace hX := hX.trans hx
      replace k0 := hx.cell k0
      clear hx
      clear hg
      go_wp2_with (go_at_call 55; refine (within_any _ _ _ _).mono ?_; rintro e w' ⟨rfl, rfl⟩; rw [hin])
      go_ret
      exact ⟨rfl, hX⟩
    | true =>
      have hb := inR_iff.1 hin
      obtain ⟨m, rfl⟩ := Int.eq_ofNat_of_zero_le hb.1
      have HM := Lib.hid (show m < 2 ^ t.length by rw [← HP.out]; omega)
      have H62 := Lib.hid (lt62 h12 HM.out)
      clear hb
      cases hcl : subB t m with
      | false =>
        rw [subC_5 hg (by rw [← HP.out]; exact hin) hcl]
        go_enter Tryz.func27, Tryz.ntmps27
        go_wp2_with fail
        refine (IsGroup_impl t _ _ (hv.ext hX)).mono ?_
        rintro e w1 ⟨rfl, hx⟩
        rw [hg]
        replace hX := hX.trans hx
        replace k0 := hx.cell k0
        clear hx
        clear hg
        go_wp2_with (go_at_call 55; refine (within_any _ _ _ _).mono ?_; rintro e w' ⟨rfl, rfl⟩; rw [hin])
        refine (isSubgroup_any t _ m _ (hv.ext hX) HG.out.1 HM.out).mono ?_
        rintro e w3 ⟨rfl, hx3⟩
        rw [hcl]
        go_wp2
        go_ret
        exact ⟨rfl, hX.trans hx3⟩
      | true =>
        rw [subC_0 hg (by rw [← HP.out]; exact hin) hcl]
        go_enter Tryz.func27, Tryz.ntmps27
        go_wp2_with fail
        refine (IsGroup_impl t _ _ (hv.ext hX)).mono ?_
        rintro e w1 ⟨rfl, hx⟩
        rw [hg]
        replace hX := hX.trans hx
        replace k0 := hx.cell k0
        clear hx
        clear hg
        go_wp2_with (go_at_call 55; refine (within_any _ _ _ _).mono ?_; rintro e w' ⟨rfl, rfl⟩; rw [hin])
        refine (isSubgroup_any t _ m _ (hv.ext hX) HG.out.1 HM.out).mono ?_
        rintro e w3 ⟨rfl, hx3⟩
        rw [hcl]
        go_wp2
        go_ret
        exact ⟨rfl, hX.trans hx3⟩

set_option maxRecDepth 100000 in
theorem IsNormalIn_spec (t : List (List Int)) (v : Value) (a : Int) (w : World) (hv : Rows w v t) :
    Calls Tryz.prog 11 #[.agg #[v], .int .i64 a] w (RetBI (normV t a) (subC t a) w) := by
  obtain ⟨hlen, b, o, c, rfl, hc⟩ := id hv
  have hX := ext_box w (.slice (some ⟨b, o, none⟩) t.length c) 26
  have k0 := cell_new w (.slice (some ⟨b, o, none⟩) t.length c) 26
  clear hc
  cases hz : (subC t a != 0) with
  | true =>
    rw [normV_bad (by simpa using hz)]
    go_enter Tryz.func11, Tryz.ntmps11
    go_wp2_with fail
    refine (l10Sub_any t _ _ _ (hv.ext hX)).mono ?_
    rintro e w1 ⟨rfl, hx⟩
    replace hX := hX.trans hx
    replace k0 := hx.cell k0
    clear hx
    go_wp2
    go_ret2
    exact ⟨rfl, hX⟩
  | false =>
    have hz' : subC t a = 0 := by simpa using hz
    obtain ⟨hg, m, rfl, hm, -⟩ := subC_zero hz'
    rw [normV_good hz', hz']
    have HZ := Lib.hid hz'
    have HM := Lib.hid hm
    have HG := Lib.hid (groupB_iff.1 hg)
    clear hz hz' hm hg
    go_enter Tryz.func11, Tryz.ntmps11
    go_wp2_with fail
    refine (l10Sub_any t _ _ _ (hv.ext hX)).mono ?_
    rintro e w1 ⟨rfl, hx⟩
    replace hX := hX.trans hx
    replace k0 := hx.cell k0
    clear hx
    rw [HZ.out]
    go_wp2_with fail
    refine (l10Normal_any t _ m _ (hv.ext hX) HG.out HM.out).mono ?_
    rintro e w2 ⟨rfl, hx⟩
    go_wp2
    go_ret2
    exact ⟨rfl, hX.trans hx⟩

set_option maxRecDepth 100000 in
theorem IsNormalIn_impl (t : List (List Int)) (v : Value) (a : Int) (w : World) (hv : Rows w v t) :
    Calls Tryz.prog 10 #[.agg #[v], .int .i64 a] w (RetBI (normV t a) (subC t a) w) := by
  obtain ⟨hlen, b, o, c, rfl, hc⟩ := id hv
  have hX := ext_box w (.slice (some ⟨b, o, none⟩) t.length c) 26
  have k0 := cell_new w (.slice (some ⟨b, o, none⟩) t.length c) 26
  clear hc
  cases hz : (subC t a != 0) with
  | true =>
    rw [normV_bad (by simpa using hz)]
    go_enter Tryz.func10, Tryz.ntmps10
    go_wp2_with fail
    refine (checkSubgroup_any t _ _ _ (hv.ext hX)).mono ?_
    rintro e w1 ⟨rfl, hx⟩
    replace hX := hX.trans hx
    replace k0 := hx.cell k0
    clear hx
    go_wp2
    go_ret2
    exact ⟨rfl, hX⟩
  | false =>
    have hz' : subC t a = 0 := by simpa using hz
    obtain ⟨hg, m, rfl, hm, -⟩ := subC_zero hz'
    rw [normV_good hz', hz']
    have HZ := Lib.hid hz'
    have HM := Lib.hid hm
    have HG := Lib.hid (groupB_iff.1 hg)
    clear hz hz' hm hg
    go_enter Tryz.func10, Tryz.ntmps10
    go_wp2_with fail
    refine (checkSubgroup_any t _ _ _ (hv.ext hX)).mono ?_
    rintro e w1 ⟨rfl, hx⟩
    replace hX := hX.trans hx
    replace k0 := hx.cell k0
    clear hx
    rw [HZ.out]
    go_wp2_with fail
    refine (isNormal_any t _ m _ (hv.ext hX) HG.out HM.out).mono ?_
    rintro e w2 ⟨rfl, hx⟩
    go_wp2
    go_ret2
    exact ⟨rfl, hX.trans hx⟩

end Go.Proofs.YtbfhecckapgpnaaGreat
