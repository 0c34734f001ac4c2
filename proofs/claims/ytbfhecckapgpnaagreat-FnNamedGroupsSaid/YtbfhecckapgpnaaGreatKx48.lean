/-
  Contracts: groupOfPermutations of the program; GroupOfPermutations.
-/
import Derived.Test.YtbfhecckapgpnaaGreatProg
import Derived.Deep.DeepCutAuto
import Derived.Deep.RegionWith
import Derived.Deep.RegionHeld3
import Derived.Deep.DrawnRows
import Derived.Test.YtbfhecckapgpnaaGreatKx0
import Derived.Test.YtbfhecckapgpnaaGreatKx1
import Derived.Test.YtbfhecckapgpnaaGreatKx2
import Derived.Test.YtbfhecckapgpnaaGreatKx8
import Derived.Test.YtbfhecckapgpnaaGreatKx9
import Derived.Test.YtbfhecckapgpnaaGreatKx7
import Derived.Test.YtbfhecckapgpnaaGreatKx22
import Derived.Test.YtbfhecckapgpnaaGreatKx5
import Derived.Test.YtbfhecckapgpnaaGreatKx11
import Derived.Test.YtbfhecckapgpnaaGreatKx10
import Derived.Test.YtbfhecckapgpnaaGreatKx6
import Derived.Test.YtbfhecckapgpnaaGreatKx12
import Derived.Test.YtbfhecckapgpnaaGreatKx32
import Derived.Test.YtbfhecckapgpnaaGreatKx14
import Derived.Test.YtbfhecckapgpnaaGreatKx21
import Derived.Test.YtbfhecckapgpnaaGreatKx27
import Derived.Test.YtbfhecckapgpnaaGreatKx33
import Derived.Test.YtbfhecckapgpnaaGreatKx34
import Derived.Test.YtbfhecckapgpnaaGreatKx47
import Derived.Test.YtbfhecckapgpnaaGreatKx31
import Derived.Test.YtbfhecckapgpnaaGreatKx16
import Derived.Test.YtbfhecckapgpnaaGreatKx17
import Derived.Test.YtbfhecckapgpnaaGreatKx18
import Derived.Test.YtbfhecckapgpnaaGreatKx19
namespace Go.Proofs.YtbfhecckapgpnaaGreat
set_option linter.unusedVariables false
set_option linter.unusedSimpArgs false
open Go.RowKit
attribute [local go_sem ↓] Go.wp_at_zero Go.wp_at_succ
open Go.Deep

set_option maxRecDepth 100000 in
set_option maxHeartbeats 1000000 in
theorem gop1_any (n x y B : Nat) (S : List (List Int)) (v : Value) (w : World) (hv : Rows w v S) (hB : w.cell? ⟨B, 0, none⟩ = some v) (hS : ∀ i, i < S.length → IsoOk n [] [] (row S i)) (hx : x < S.length) (hy : y < S.length) (h12 : n ≤ 12) :
    Calls Tryz.prog 78 #[.int .i64 x, .int .i64 y, .pointer (some ⟨B, 0, none⟩)] w fun e w' => e = .returned (.int .i64 (gopE S x y)) ∧ Ext w w' := by
  obtain ⟨hlen, b, o, c, rfl, hc⟩ := id hv
  obtain ⟨b1, o1, c1, r1, i1, l1⟩ := hc.get hx
  obtain ⟨b2, o2, c2, r2, i2, l2⟩ := hc.get hy
  have I1 := Lib.hid (i1.ints l1 c1)
  have I2 := Lib.hid (i2.ints l2 c2)
  have P1 := Lib.hid (hS x hx)
  have P2 := Lib.hid (hS y hy).1
  have HV := Lib.hid hv
  have HE := Lib.hid (show gopE S x y = findL S (thenL (row S x) (row S y)) from rfl)
  have HL := Lib.hid (length_thenL (row S x) (row S y))
  have hxi : (x : Int) < (S.length : Int) := by omega
  have hyi : (y : Int) < (S.length : Int) := by omega
  clear hS i1 i2 hc hv
  go_enter Tryz.func78, Tryz.ntmps78
  go_wp2_with fail
  go_region_held3 (fun w' => w'.cell? ⟨B, 0, none⟩ = some (.slice (some ⟨b, o, none⟩) S.length c) ∧ w'.cell? ⟨b, o + x, none⟩ = some (.slice (some ⟨b1, o1, none⟩) (row S x).length c1) ∧ w'.cell? ⟨b, o + y, none⟩ = some (.slice (some ⟨b2, o2, none⟩) (row S y).length c2))
    ((refine ⟨?_, ?_, ?_⟩ <;> (repeat first | (with_reducible assumption) | (with_reducible refine Ext.cell hx5 ?_) | (with_reducible refine Ext.cell hx4 ?_) |  (with_reducible exact kc_new) | ((with_reducible refine kc_newE ?_); (simp; done)) | ((with_reducible refine kc_newEa ?_); (simp; done)) | ((with_reducible refine kc_newEb ?_); (simp; done)) | (with_reducible apply kc_alloc) | (with_reducible apply kc_drewN) | (with_reducible apply kc_drew) | ((with_reducible refine kc_set ?_ ?_); (first | (simp only []; omega) | (simp; omega) | (focus (simp; done)))) | ((with_reducible refine kc_set2 ?_ ?_); (focus (simp; done))) | (with_reducible refine kc_same (v := .slice none 0 0) ?_))))
    (first
      | (go_at_call 80; refine (then_any n (row S x) (row S y) _ _ _ (I1.out.ext (by (repeat first | (with_reducible exact Ext.refl _) | (with_reducible assumption) | (with_reducible apply Ext.drew) | (with_reducible apply kx_drewN) | (with_reducible apply kx_alloc) | ((with_reducible refine kx_set ?_ ?_); (first | (simp only []; omega) | (simp; omega) | (focus (simp; done)))) ))) (I2.out.ext (by (repeat first | (with_reducible exact Ext.refl _) | (with_reducible assumption) | (with_reducible apply Ext.drew) | (with_reducible apply kx_drewN) | (with_reducible apply kx_alloc) | ((with_reducible refine kx_set ?_ ?_); (first | (simp only []; omega) | (simp; omega) | (focus (simp; done)))) ))) P1.out P2.out h12).mono ?_; rintro e w4 ⟨b4, c4, rfl, ho4, hx4⟩)
      | (go_at_call 79; refine (listIndex_any S (thenL (row S x) (row S y)) _ _ _ (HV.out.ext (by (repeat first | (with_reducible exact Ext.refl _) | (with_reducible assumption) | (with_reducible apply Ext.drew) | (with_reducible apply kx_drewN) | (with_reducible apply kx_alloc) | ((with_reducible refine kx_set ?_ ?_); (first | (simp only []; omega) | (simp; omega) | (focus (simp; done)))) | (with_reducible refine Ext.trans ?_ hx4) ))) (ho4.2.2.1.ints (by rw [HL.out]; exact l1) c4)).mono ?_; rintro e w5 ⟨rfl, hx5⟩))
  all_goals
    go_wp2
    go_ret
    exact ⟨by rw [HE.out]; rfl, Ext.trans (Ext.trans (Ext.drew (Ext.refl _)) hx4) hx5⟩
theorem callGop1 (args : Array Value) (w : World) : (callFunc 78 args).run Tryz.prog w = .ok (.enter 78 args) w :=
  callFunc_enter Tryz.func78 (by kernel_rfl) rfl args w

/-- what groupOfPermutations gives -/
def GopPost (S : List (List Int)) (w : World) (e : Ending) (w' : World) : Prop :=
  ∃ b c, e = .returned (.tuple #[.agg #[.slice (some ⟨b, 0, none⟩) S.length c], .bool true]) ∧ OwnT w.heap.size w'.heap.size w' b 0 (mkT S.length (gopE S)) ∧ Ext w w'

set_option maxRecDepth 100000 in
set_option maxHeartbeats 1000000 in
theorem groupOfPermutations_big (n : Nat) (gens : List (List Int)) (v : Value) (w : World) (hv : Rows w v gens) (hg : ∀ k, k < gens.length → IsoOk n [] [] (row gens k)) (h1 : 1 ≤ n) (h12 : n ≤ 12) (h16 : gens.length ≤ 16) (hbig : ¬ (genA gens n).length ≤ 12) :
    Calls Tryz.prog 42 #[.int .i64 n, v] w fun e w' => e = .returned (.tuple #[.agg #[.slice none 0 0], .bool false]) ∧ Ext w w' := by
  obtain ⟨hlen, b, o, c, rfl, -⟩ := id hv
  have hx0 := ext_box w (.slice none 0 0) 26
  have b0 := cell_new w (.slice none 0 0) 26
  have q0 : (w.alloc (.cells #[.slice none 0 0] 26)).frozen? ⟨w.heap.size, 0, none⟩ = false := by simp
  have hbi : (12 : Int) < ((genA gens n).length : Int) := by omega
  have HV := Lib.hid (hv.ext hx0)
  have HG := Lib.hid hg
  clear hv hg
  go_enter Tryz.func42, Tryz.ntmps42
  go_wp2_with fail
  refine (groupOrder_any n gens _ _ HV.out HG.out h1 h12 h16).mono ?_
  rintro e w1 ⟨rfl, hx1⟩
  have f1 := hx1.cell b0
  have f2 := hx1.free q0 (by simp)
  go_wp2_with fail
  refine bodyPost_ret (v := .tuple #[.agg #[.slice none 0 0], .bool false]) (by simp [results, Tryz.results42, go_sem, f1]) rfl ⟨rfl, (hx0.trans hx1).setNew (Nat.le_refl _) _⟩

set_option maxRecDepth 100000 in
set_option maxHeartbeats 1000000 in
theorem groupOfPermutations_any (n : Nat) (gens : List (List Int)) (v : Value) (w : World) (hv : Rows w v gens) (hg : ∀ k, k < gens.length → IsoOk n [] [] (row gens k)) (h1 : 1 ≤ n) (h12 : n ≤ 12) (h16 : gens.length ≤ 16) (hbig : (genA gens n).length ≤ 12) :
    Calls Tryz.prog 42 #[.int .i64 n, v] w (GopPost (sortS (genA gens n)) w) := by
  obtain ⟨hlen, b, o, c, rfl, -⟩ := id hv
  have hx0 := ext_box w (.slice none 0 0) 26
  have b0 := cell_new w (.slice none 0 0) 26
  have q0 : (w.alloc (.cells #[.slice none 0 0] 26)).frozen? ⟨w.heap.size, 0, none⟩ = false := by simp
  have z0 : w.heap.size + 1 ≤ (w.alloc (.cells #[.slice none 0 0] 26)).heap.size := by simp
  obtain ⟨A, hA⟩ : ∃ A, A = (w.alloc (.cells #[.slice none 0 0] 26)) := ⟨_, rfl⟩
  rw [← hA] at hx0 b0 q0 z0
  have hbi : ¬ (12 : Int) < ((genA gens n).length : Int) := by omega
  have HV := Lib.hid (hv.ext hx0)
  have HX0 := Lib.hid hx0
  have HG := Lib.hid hg
  have HB := Lib.hid hbig
  have HSR := Lib.hid (sorted_rows (genA_good hg (idL_perm n)))
  have hsl := length_sortS (genA gens n)
  obtain ⟨S, hS⟩ : ∃ S, S = sortS (genA gens n) := ⟨_, rfl⟩
  rw [← hS] at HSR hsl ⊢
  have HS := Lib.hid hS
  have HSL := Lib.hid hsl
  clear hv hg hbig hS hsl hx0
  go_enter Tryz.func42, Tryz.ntmps42
  go_wp2_with fail
  rw [← hA]
  refine (groupOrder_any n gens _ _ HV.out HG.out h1 h12 h16).mono ?_
  rintro e w1 ⟨rfl, hx1⟩
  clear hA
  have f1 := hx1.cell b0
  have f2 := hx1.free q0 (by simp only []; omega)
  have z1 := hx1.size
  have HX1 := Lib.hid hx1
  clear b0 q0 hx1
  go_wp2_with fail
  refine (groupElements_any n gens _ _ (HV.out.ext HX1.out) HG.out h1 h12 h16 HB.out).mono ?_
  rintro e w2 ⟨g, c2, rfl, hr2, hx2⟩
  rw [← HSL.out, ← HS.out] at *
  have f3 := hx2.cell f1
  have f4 := hx2.free f2 (by simp only []; omega)
  have z2 := hx2.size
  have HX2 := Lib.hid (HX0.out.trans (HX1.out.trans hx2))
  have HR2 := Lib.hid hr2
  clear hx2 hr2 f1 f2 HX1
  have f5 := (ext_box w2 (.slice (some ⟨g, 0, none⟩) S.length c2) 24).cell f3
  have f6 := (ext_box w2 (.slice (some ⟨g, 0, none⟩) S.length c2) 24).free f4 (by simp only []; omega)
  have hcb := cell_new w2 (.slice (some ⟨g, 0, none⟩) S.length c2) 24
  have HXB := Lib.hid (ext_box w2 (.slice (some ⟨g, 0, none⟩) S.length c2) 24)
  have HCB := Lib.hid hcb
  have hs12 : S.length ≤ 12 := by have := HSL.out; have := HB.out; omega
  go_wp2_with fail
  refine (tableBy_any S.length (gopE S) 78 #[.pointer (some ⟨w2.heap.size, 0, none⟩)] _ (by omega) callGop1 (fun w1 x y hx hxn hyn => by rw [app21]; exact gop1_any n x y w2.heap.size S _ w1 ((HR2.out.ext HXB.out).ext hx) (hx.cell HCB.out) HSR.out hxn hyn h12)).mono ?_
  rintro e w5 ⟨b5, c5, rfl, ho5, hx5⟩
  rw [length_mkT] at *
  have f7 := hx5.cell f5
  have f8 := hx5.free f6 (by simp; omega)
  have z5 := hx5.size
  simp at z5
  have HX5 := Lib.hid (HXB.out.trans hx5)
  have HO5 := Lib.hid ho5
  clear f5 f6 hx5 ho5 f3 f4 hcb
  go_wp2_with fail
  refine bodyPost_ret (v := .tuple #[.agg #[.slice (some ⟨b5, 0, none⟩) S.length c5], .bool true]) (by simp [results, Tryz.results42, go_sem, f7]) rfl ⟨b5, c5, rfl, ?_, (HX2.out.trans HX5.out).setNew (by simp only []; omega) _⟩
  exact ((HO5.out.setOther (.inl (by simp; omega)) _).mono (by simp <;> omega) (by simp))
end Go.Proofs.YtbfhecckapgpnaaGreat

/-
  Contracts: the table of a product; ProductGroup and ProductBrace.
-/
namespace Go.Proofs.YtbfhecckapgpnaaGreat
set_option linter.unusedVariables false
set_option linter.unusedSimpArgs false
open Go.RowKit
attribute [local go_sem ↓] Go.wp_at_zero Go.wp_at_succ

set_option maxRecDepth 100000 in
theorem productTable_any (t u : List (List Int)) (v y : Value) (N : Nat) (w : World) (hN : N = t.length * u.length) (hN12 : N ≤ 12) (hv : Rows w v t) (hy : Rows w y u) (hT : TableOk t) (hU : TableOk u) :
    Calls Tryz.prog 92 #[v, y] w (NewT (mkT N (prodF t u)) w) := by
  obtain ⟨hlen, b, o, c, rfl, hc⟩ := id hv
  obtain ⟨hlen2, b2, o2, c2, rfl, hc2⟩ := id hy
  have hnm := cast_mul' t.length u.length N hN
  have ha12 := hT.2.1
  have hb12 := hU.2.1
  have hX : Ext w (((w.alloc (.cells #[.slice (some ⟨b, o, none⟩) t.length c] 24)).alloc (.cells #[.slice (some ⟨b2, o2, none⟩) u.length c2] 24)).alloc (.cells #[.int .i64 u.length] 3)) := (((Ext.refl _).alloc _).alloc _).alloc _
  have k0 : (((w.alloc (.cells #[.slice (some ⟨b, o, none⟩) t.length c] 24)).alloc (.cells #[.slice (some ⟨b2, o2, none⟩) u.length c2] 24)).alloc (.cells #[.int .i64 u.length] 3)).cell? ⟨w.heap.size, 0, none⟩ = some (.slice (some ⟨b, o, none⟩) t.length c) := by (repeat first | (with_reducible assumption) |  (with_reducible exact kc_new) | ((with_reducible refine kc_newE ?_); (simp; done)) | ((with_reducible refine kc_newEa ?_); (simp; done)) | ((with_reducible refine kc_newEb ?_); (simp; done)) | (with_reducible apply kc_alloc) | (with_reducible apply kc_drewN) | (with_reducible apply kc_drew) | ((with_reducible refine kc_set ?_ ?_); (first | (simp only []; omega) | (simp; omega) | (focus (simp; done)))) | ((with_reducible refine kc_set2 ?_ ?_); (focus (simp; done))) | (with_reducible refine kc_same (v := .slice none 0 0) ?_))
  have k1 : (((w.alloc (.cells #[.slice (some ⟨b, o, none⟩) t.length c] 24)).alloc (.cells #[.slice (some ⟨b2, o2, none⟩) u.length c2] 24)).alloc (.cells #[.int .i64 u.length] 3)).cell? ⟨w.heap.size + 1, 0, none⟩ = some (.slice (some ⟨b2, o2, none⟩) u.length c2) := by (repeat first | (with_reducible assumption) |  (with_reducible exact kc_new) | ((with_reducible refine kc_newE ?_); (simp; done)) | ((with_reducible refine kc_newEa ?_); (simp; done)) | ((with_reducible refine kc_newEb ?_); (simp; done)) | (with_reducible apply kc_alloc) | (with_reducible apply kc_drewN) | (with_reducible apply kc_drew) | ((with_reducible refine kc_set ?_ ?_); (first | (simp only []; omega) | (simp; omega) | (focus (simp; done)))) | ((with_reducible refine kc_set2 ?_ ?_); (focus (simp; done))) | (with_reducible refine kc_same (v := .slice none 0 0) ?_))
  have k2 : (((w.alloc (.cells #[.slice (some ⟨b, o, none⟩) t.length c] 24)).alloc (.cells #[.slice (some ⟨b2, o2, none⟩) u.length c2] 24)).alloc (.cells #[.int .i64 u.length] 3)).cell? ⟨w.heap.size + 2, 0, none⟩ = some (.int .i64 u.length) := by (repeat first | (with_reducible assumption) |  (with_reducible exact kc_new) | ((with_reducible refine kc_newE ?_); (simp; done)) | ((with_reducible refine kc_newEa ?_); (simp; done)) | ((with_reducible refine kc_newEb ?_); (simp; done)) | (with_reducible apply kc_alloc) | (with_reducible apply kc_drewN) | (with_reducible apply kc_drew) | ((with_reducible refine kc_set ?_ ?_); (first | (simp only []; omega) | (simp; omega) | (focus (simp; done)))) | ((with_reducible refine kc_set2 ?_ ?_); (focus (simp; done))) | (with_reducible refine kc_same (v := .slice none 0 0) ?_))
  have zA := hX.size
  have HT := Lib.hid hT
  have HU := Lib.hid hU
  have HN := Lib.hid hN
  clear hc hc2 hT hU hN
  go_enter Tryz.func92, Tryz.ntmps92
  go_wp2_with fail
  generalize (((w.alloc (.cells #[.slice (some ⟨b, o, none⟩) t.length c] 24)).alloc (.cells #[.slice (some ⟨b2, o2, none⟩) u.length c2] 24)).alloc (.cells #[.int .i64 u.length] 3)) = A at *
  refine (tableBy_any N (prodF t u) 117 #[.pointer (some ⟨w.heap.size, 0, none⟩), .pointer (some ⟨w.heap.size + 2, 0, none⟩), .pointer (some ⟨w.heap.size + 1, 0, none⟩)] _ (by omega) callProductTable1 (fun w1 x z h1 hx hz => by
    rw [app23]
    exact productTable1_any t u _ _ N x z w.heap.size (w.heap.size + 2) (w.heap.size + 1) w1 HN.out (h1.cell k0) (h1.cell k2) (h1.cell k1) (hv.ext (hX.trans h1)) (hy.ext (hX.trans h1)) HT.out HU.out hx hz)).mono ?_
  rintro e w1 ⟨b1, c1, rfl, ho, hx1⟩
  go_wp2
  go_ret
  exact ⟨b1, c1, rfl, ho.mono zA (Nat.le_refl _), hX.trans hx1⟩

/-- the code of a product of groups; its table -/
@[irreducible] def pgC (t u : List (List Int)) : Int := if groupB t = true ∧ groupB u = true then (if t.length * u.length ≤ 12 then 0 else 3) else 1
@[irreducible] def pgT (t u : List (List Int)) : List (List Int) := if pgC t u = 0 then prodT t u else []
theorem pg_1 {t u} (h : ¬ (groupB t = true ∧ groupB u = true)) : pgC t u = 1 ∧ pgT t u = [] := by
  have h1 : pgC t u = 1 := by unfold pgC; rw [if_neg h]
  exact ⟨h1, by unfold pgT; rw [if_neg (by rw [h1]; decide)]⟩
theorem pg_3 {t u} (h : groupB t = true) (h2 : groupB u = true) (h3 : ¬ t.length * u.length ≤ 12) : pgC t u = 3 ∧ pgT t u = [] := by
  have h1 : pgC t u = 3 := by unfold pgC; rw [if_pos ⟨h, h2⟩, if_neg h3]
  exact ⟨h1, by unfold pgT; rw [if_neg (by rw [h1]; decide)]⟩
theorem pg_0 {t u} (h : groupB t = true) (h2 : groupB u = true) (h3 : t.length * u.length ≤ 12) : pgC t u = 0 ∧ pgT t u = mkT (t.length * u.length) (prodF t u) := by
  have h1 : pgC t u = 0 := by unfold pgC; rw [if_pos ⟨h, h2⟩, if_pos h3]
  exact ⟨h1, by unfold pgT; rw [if_pos h1, prodT_def]⟩

theorem pgT_ne (t u : List (List Int)) : NoEmpty (pgT t u) := by
  unfold pgT
  split
  · rename_i h
    have : groupB t = true ∧ groupB u = true := by
      apply Classical.byContradiction
      intro hn; rw [(pg_1 hn).1] at h; omega
    rw [prodT_def]
    have h1 := (groupB_iff.1 this.1).1.1
    have h2 := (groupB_iff.1 this.2).1.1
    exact NoEmpty.made (Nat.mul_pos (by omega) (by omega)) _
  · exact NoEmpty.nil
end Go.Proofs.YtbfhecckapgpnaaGreat

/-
  Contracts of l03Maps and what calls it.
-/
namespace Go.Proofs.YtbfhecckapgpnaaGreat
set_option linter.unusedVariables false
set_option linter.unusedSimpArgs false
open Go.RowKit
attribute [local go_sem ↓] Go.wp_at_zero Go.wp_at_succ

def zeroL (n : Nat) : List Int := mkL n (fun _ => 0)
theorem length_zeroL (n : Nat) : (zeroL n).length = n := length_mkL _ _
theorem ix_zeroL (n i : Nat) (h : i < n) : ix (zeroL n) i = 0 := ix_mkL _ _ _ h
theorem zero_col (n : Nat) : ColOk n (zeroL n) := ⟨length_zeroL n, fun i hi => by rw [ix_zeroL _ _ hi]; omega⟩
theorem zero_resp {n : Nat} {az bz : List (List (List Int))} {p : List Int} (hp : IsoOk n az bz p) : Resp n (zeroL n) (zeroL n) p := fun x hx => by
  rw [ix_zeroL _ _ hx, ix_zeroL _ _ (hp.bd hx).2]
theorem zero_resp2 {n : Nat} {az bz : List (List (List Int))} (h1 : 1 ≤ n) {p : List Int} (hp : IsoOk n az bz p) (he : ExtP [0] p) : Resp n ((zeroL n).set 0 60) ((zeroL n).set 0 60) p :=
  resp_own (f := []) (y := 0) (az := az) (bz := bz) (fun p hp _ => zero_resp hp) (length_zeroL n) (length_zeroL n) h1 h1 hp he
theorem begun_zero {n : Nat} {az bz : List (List (List Int))} (hA : TabsOk n az) (h1 : 1 ≤ n) (h : fitsB az bz [0] 0 = true) : Begun n az bz [0] :=
  fits_yes (f := []) (m := 0) (y := 0) hA ⟨fun i hi => by simp at hi, fun i hi => by simp at hi, fun k hk x hx => by simp at hx⟩ rfl (by omega) (by omega) (hasB_no.2 (by unfold indexOf indexFrom; omega)) h
theorem no_zero {n : Nat} {az bz : List (List (List Int))} (hA : TabsOk n az) (h1 : 1 ≤ n) (h : fitsB az bz [0] 0 = false) : extL n az bz [0] = [] :=
  fits_no hA (fun i hi => by
    have : i = 0 := by simpa using hi
    subst this; rw [ix_eq]; simp) rfl h1 h
theorem two_made (w : World) (n : Nat) : ((w.alloc (.cells (madeCells #[Value.int .i64 0] n) 2)).alloc (.cells (madeCells #[Value.int .i64 0] n) 2)).drew.rowIs w.heap.size 2 n (fun _ => .int .i64 0) ∧
    ((w.alloc (.cells (madeCells #[Value.int .i64 0] n) 2)).alloc (.cells (madeCells #[Value.int .i64 0] n) 2)).drew.rowIs (w.heap.size + 1) 2 n (fun _ => .int .i64 0) := by
  refine ⟨((World.rowIs_made w (.int .i64 0) n 2).alloc _).drew, ?_⟩
  have := (World.rowIs_made (w.alloc (.cells (madeCells #[Value.int .i64 0] n) 2)) (.int .i64 0) n 2).drew
  simpa using this
def TwoZ (n : Nat) (w : World) (p q : Value) (wx : World) : Prop := ∃ B C, p = .slice (some ⟨B, 0, none⟩) n n ∧ q = .slice (some ⟨C, 0, none⟩) n n ∧ w.heap.size ≤ B ∧ w.heap.size ≤ C ∧ B ≠ C ∧ wx.rowIs B 2 n (fun _ => .int .i64 0) ∧ wx.rowIs C 2 n (fun _ => .int .i64 0) ∧ Ext w wx

set_option maxRecDepth 100000 in
set_option maxHeartbeats 4000000 in
theorem l03Maps_any (az bz : List (List (List Int))) (v u y : Value) (n most : Nat) (w : World) (hv : Tabs w v az) (hu : Tabs w u bz) (hy : Ints w y [0]) (hA : TabsOk n az) (hB : TabsOk n bz) (hab : az.length = bz.length) (ha0 : 0 < az.length) (h1 : 1 ≤ n) (h12 : n ≤ 12) (hts : az.length ≤ 2) (hm1 : 1 ≤ most) (hmost : most ≤ 1000000) :
    Calls Tryz.prog 101 #[v, u, y, .int .i64 most] w fun e w' => ∃ v', e = .returned v' ∧ GrowT 46 w.heap.size w' v' ((extL n az bz [0]).take most) ∧ Ext w w' := by
  obtain ⟨hla, b, o, c, rfl, hc⟩ := id hv
  obtain ⟨hlb, b2, o2, c2, rfl, hc2⟩ := id hu
  obtain ⟨-, b3, o3, c3, rfl, hc3⟩ := id hy
  obtain ⟨t1, t2, t3, r0, -⟩ := hc.get ha0
  obtain ⟨t4, t5, t6, r1, -⟩ := hc2.get (k := 0) (by omega)
  rw [(hA 0 ha0).2] at r0
  rw [(hB 0 (by omega)).2] at r1
  simp only [Nat.add_zero] at r0 r1
  have HA := Lib.hid hA
  have HB := Lib.hid hB
  have HAB := Lib.hid hab
  have ha1 : (0 : Int) < (az.length : Int) := by omega
  have hb1 : (0 : Int) < (bz.length : Int) := by omega
  have hb0 : 0 < bz.length := by omega
  have f00 : ∀ i, i < 0 + 1 → 0 ≤ ix ([0] : List Int) i ∧ ix ([0] : List Int) i < n := fun i hi => by
    have : i = 0 := by omega
    subst this
    rw [ix_eq]; simp; omega
  have HF0 := Lib.hid f00
  clear hA hB hab f00 hc hc2
  have hmk := run_make_row' (P := Tryz.prog) 46 2 (.int .i64 0) 8 Tryz.underlying46 infoInt rfl .i64 .i64 n (by omega) (by omega)
  go_enter Tryz.func101, Tryz.ntmps101
  go_wp2_with fail
  go_cut [22] (fun p wx => p = .bool false ∧ Drawn w wx)
  case first =>
    go_quiet (fail)
    go_wp2_with fail
    go_meet
    case rel => exact ⟨rfl, (Drawn.refl _).drewN _⟩
  obtain ⟨rfl, hd⟩ := hcut
  obtain ⟨w1, rfl⟩ : ∃ w1 : World, w1 = wc := ⟨_, rfl⟩
  have e0 := hd.ext.cell r0
  have e1 := hd.ext.cell r1
  go_wp2_with fail
  go_cut [9, 10] (fun p q wx => TwoZ n w1 p q wx)
  case first =>
    go_region_held3 (fun w' => w'.cell? ⟨b, o, none⟩ = some (.slice (some ⟨t1, t2, none⟩) n t3)) ((repeat first | (with_reducible assumption) |  (with_reducible exact kc_new) | ((with_reducible refine kc_newE ?_); (simp; done)) | ((with_reducible refine kc_newEa ?_); (simp; done)) | ((with_reducible refine kc_newEb ?_); (simp; done)) | (with_reducible apply kc_alloc) | (with_reducible apply kc_drewN) | (with_reducible apply kc_drew) | ((with_reducible refine kc_set ?_ ?_); (first | (simp only []; omega) | (simp; omega) | (focus (simp; done)))) | ((with_reducible refine kc_set2 ?_ ?_); (focus (simp; done))) | (with_reducible refine kc_same (v := .slice none 0 0) ?_))) (fail)
    all_goals
      go_wp2_with fail
      go_meet
      case rel => first
        | exact ⟨_, _, rfl, rfl, by omega, by omega, by omega, two_made w1 n |>.1, two_made w1 n |>.2, (((Ext.refl w1).alloc _).alloc _).drew⟩
        | exact ⟨_, _, rfl, rfl, by omega, by omega, by omega, two_made w1 n |>.2, two_made w1 n |>.1, (((Ext.refl w1).alloc _).alloc _).drew⟩
  obtain ⟨B, C, rfl, rfl, hB1, hC1, hBC, hrB, hrC, hx2⟩ := hcut
  obtain ⟨w2, rfl⟩ : ∃ w2 : World, w2 = wc := ⟨_, rfl⟩
  have hx02 := hd.ext.trans hx2
  have HVV := Lib.hid (hv.ext hx02)
  have HUU := Lib.hid (hu.ext hx02)
  have HYY := Lib.hid (hy.ext hx02)
  have zB := hrB.lt
  have zC := hrC.lt
  have z0 := hd.ext.size
  clear hmk e0 e1 r0 r1 hd
  cases hft : fitsB az bz [0] 0 with
  | false =>
    have HX := Lib.hid (no_zero HA.out h1 hft)
    go_wp2_with fail
    refine (l03Fits_any az bz [0] _ _ _ n 0 _ HVV.out HUU.out HYY.out HA.out HB.out HAB.out rfl h1 h12 HF0.out).mono ?_
    rintro e w3 ⟨rfl, hd3⟩
    rw [hft]
    have HX3 := Lib.hid (hx02.trans hd3.ext)
    clear hd3
    go_wp2
    go_ret
    exact ⟨_, rfl, by rw [HX.out, List.take_nil]; exact GrowT.nil _ _ _, HX3.out⟩
  | true =>
    have HBG := Lib.hid (begun_zero HA.out h1 hft)
    go_wp2_with fail
    refine (l03Fits_any az bz [0] _ _ _ n 0 _ HVV.out HUU.out HYY.out HA.out HB.out HAB.out rfl h1 h12 HF0.out).mono ?_
    rintro e w3 ⟨rfl, hd3⟩
    rw [hft]
    have hr3 := hrB.of_block (Below.block hd3.ext B zB)
    have hs3 := hrC.of_block (Below.block hd3.ext C zC)
    have c1 := hr3.cell (i := 0) (by omega)
    have f1 := hr3.frozen 0
    have c2 := hs3.cell (i := 0) (by omega)
    have f2 := hs3.frozen 0
    have z3 := hd3.ext.size
    have hCB : ¬ C = B := fun e => hBC e.symm
    have hx3 := hx02.trans hd3.ext
    have hn0 : (0 : Int) < (n : Int) := by omega
    have oB := ownI_of_row (l := zeroL n) (lo := w.heap.size) (hi := w3.heap.size) hr3 (by rw [length_zeroL]; exact Nat.le_refl _) (fun i hi => by rw [ix_zeroL _ _ (by rw [length_zeroL] at hi; exact hi)]) (by omega) (by omega)
    have oC := ownI_of_row (l := zeroL n) (lo := w.heap.size) (hi := w3.heap.size) hs3 (by rw [length_zeroL]; exact Nat.le_refl _) (fun i hi => by rw [ix_zeroL _ _ (by rw [length_zeroL] at hi; exact hi)]) (by omega) (by omega)
    have i1 : IntsAt ((w3.setCell ⟨B, 0, none⟩ (.int .i64 60)).setCell ⟨C, 0, none⟩ (.int .i64 60)) B 0 ((zeroL n).set 0 60) := ki_set hBC (intsAt_set oB.2.2.1 (by rw [length_zeroL]; exact h1))
    have i2 : IntsAt ((w3.setCell ⟨B, 0, none⟩ (.int .i64 60)).setCell ⟨C, 0, none⟩ (.int .i64 60)) C 0 ((zeroL n).set 0 60) := intsAt_set (ki_set hCB oC.2.2.1) (by rw [length_zeroL]; exact h1)
    have hx4 : Ext w ((w3.setCell ⟨B, 0, none⟩ (.int .i64 60)).setCell ⟨C, 0, none⟩ (.int .i64 60)) := (hx3.setNew (by simp only []; omega) _).setNew (by simp only []; omega) _
    have HI1 := Lib.hid i1
    have HI2 := Lib.hid i2
    have HX4 := Lib.hid hx4
    have HZ := Lib.hid (colOk_set (zero_col n) 0)
    clear oB oC hr3 hs3 hrB hrC hd3 i1 i2 hx4 hft
    go_wp2_with fail
    have hx4 := HX4.out
    have j1 : Ints ((w3.setCell ⟨B, 0, none⟩ (.int .i64 60)).setCell ⟨C, 0, none⟩ (.int .i64 60)) (.slice (some ⟨B, 0, none⟩) n n) ((zeroL n).set 0 60) := ⟨by rw [HZ.out.1]; omega, B, 0, n, by rw [HZ.out.1], HI1.out⟩
    have j2 : Ints ((w3.setCell ⟨B, 0, none⟩ (.int .i64 60)).setCell ⟨C, 0, none⟩ (.int .i64 60)) (.slice (some ⟨C, 0, none⟩) n n) ((zeroL n).set 0 60) := ⟨by rw [HZ.out.1]; omega, C, 0, n, by rw [HZ.out.1], HI2.out⟩
    generalize ((w3.setCell ⟨B, 0, none⟩ (.int .i64 60)).setCell ⟨C, 0, none⟩ (.int .i64 60)) = w4 at *
    refine (l03Refine_any az bz _ _ _ _ _ _ n _ (hv.ext hx4) (hu.ext hx4) j1 j2 HA.out HB.out HAB.out HZ.out HZ.out h1 h12 hts).mono ?_
    rintro e w5 ⟨v1', v2', ok, rfl, hx5, hok, hno⟩
    have HOK := Lib.hid hok
    have HNO := Lib.hid hno
    clear hok hno j1 j2
    have hx6 := hx4.trans hx5
    cases ok with
    | false =>
      have HX0 := Lib.hid (show extL n az bz [0] = [] from extL_nil fun p hp he => HNO.out rfl p hp (zero_resp2 h1 hp he))
      go_wp2
      go_ret
      exact ⟨_, rfl, by rw [HX0.out, List.take_nil]; exact GrowT.nil _ _ _, hx6⟩
    | true =>
      obtain ⟨l2, r2, b7, o7, c7, b8, o8, c8, rfl, rfl, ⟨q1, q2, q3, q4⟩, i7, i8, hcl2, hcr2, hke⟩ := HOK.out rfl
      have HKE := Lib.hid hke
      clear hke HOK HNO
      have hi3 := hc3.ext hx6
      go_wp2_with fail
      refine (l03Seek_any az bz _ _ n most w hv hu HA.out HB.out HAB.out h1 h12 hts hmost (n - 1) 1 [0] l2 r2 b3 o3 c3 b7 o7 c7 b8 o8 c8 [] _ w5 rfl (Nat.le_refl _) (by omega) hx6 hi3 i7 i8 hcl2 hcr2 HBG.out (fun p hp he => HKE.out p hp (zero_resp2 h1 hp he)) (GrowT.nil _ _ _) (by simp [Value.ownBlock]) (by simp [Value.ownBlock]) (by simp [Value.ownBlock]) hm1).mono ?_
      rintro e w8 ⟨v8, rfl, hg8, hgr8, -⟩
      have HG8 := Lib.hid hg8
      have HX8 := Lib.hid (ext_grownBy hx6 hgr8 (fun k hk => by simp [Value.ownBlock] at hk))
      clear hg8 hgr8
      go_wp2
      go_ret
      exact ⟨_, rfl, by have := HG8.out; simpa using this, HX8.out⟩

end Go.Proofs.YtbfhecckapgpnaaGreat
