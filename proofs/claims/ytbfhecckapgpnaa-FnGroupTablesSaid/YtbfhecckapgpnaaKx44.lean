/-
  Contracts: the tables of quotients; reference and program.
-/
import Derived.Test.YtbfhecckapgpnaaProg
import Derived.Deep.DeepCutAuto
import Derived.Deep.RegionWith
import Derived.Deep.RegionHeld3
import Derived.Deep.DrawnRows
import Derived.Test.YtbfhecckapgpnaaKx0
import Derived.Test.YtbfhecckapgpnaaKx1
import Derived.Test.YtbfhecckapgpnaaKx2
import Derived.Test.YtbfhecckapgpnaaKx8
import Derived.Test.YtbfhecckapgpnaaKx9
import Derived.Test.YtbfhecckapgpnaaKx7
import Derived.Test.YtbfhecckapgpnaaKx3
import Derived.Test.YtbfhecckapgpnaaKx22
import Derived.Test.YtbfhecckapgpnaaKx5
import Derived.Test.YtbfhecckapgpnaaKx12
import Derived.Test.YtbfhecckapgpnaaKx6
import Derived.Test.YtbfhecckapgpnaaKx14
import Derived.Test.YtbfhecckapgpnaaKx33
import Derived.Test.YtbfhecckapgpnaaKx42
import Derived.Test.YtbfhecckapgpnaaKx43
import Derived.Test.YtbfhecckapgpnaaKx13
namespace Go.Proofs.Ytbfhecckapgpnaa
set_option linter.unusedVariables false
set_option linter.unusedSimpArgs false
open Go.RowKit
attribute [local go_sem ↓] Go.wp_at_zero Go.wp_at_succ

theorem quotientTable1_any (t : List (List Int)) (cl : List Int) (v cv fv : Value) (i j C B F : Nat) (w : World) (hC : w.cell? ⟨C, 0, none⟩ = some cv) (hB : w.cell? ⟨B, 0, none⟩ = some v) (hF : w.cell? ⟨F, 0, none⟩ = some fv) (hv : Rows w v t) (hcv : Ints w cv cl) (hfv : IntsR w fv (firTo cl t.length)) (hT : TableOk t) (hcl : cl.length = t.length) (hi : i < quoN t cl) (hj : j < quoN t cl) :
    Calls Try.prog 98 #[.int .i64 i, .int .i64 j, .pointer (some ⟨C, 0, none⟩), .pointer (some ⟨B, 0, none⟩), .pointer (some ⟨F, 0, none⟩)] w fun e w' => e = .returned (.int .i64 (quoF t cl i j)) ∧ Ext w w' := by
  obtain ⟨hlen, b, o, c, rfl, hc⟩ := id hv
  obtain ⟨hlen2, b2, o2, c2, rfl, hc2⟩ := id hcv
  obtain ⟨fa, fc, rfl, hf⟩ := id hfv
  rw [← quoN_def] at hi hj
  obtain ⟨fb, fo, rfl, hfi⟩ := hf (ne_nil_of_lt hi)
  obtain ⟨x, hx, ex⟩ := firTo_mem cl t.length i hi
  obtain ⟨y, hy, ey⟩ := firTo_mem cl t.length j hj
  have e1 := hfi i hi
  have e2 := hfi j hj
  rw [ex] at e1
  rw [ey] at e2
  rw [quoF_def t cl i j x y ex ey]
  obtain ⟨d1, s1, m1, r1, l1⟩ := hc.read hT rfl hx
  obtain ⟨e3, i1, i2⟩ := l1 y hy
  have e4 := hc2 (ent t x y).toNat (by omega)
  have hfl := firTo_len cl t.length
  rw [hcl] at hC
  clear l1 hfi hf ex ey
  go_enter Try.func98, Try.ntmps98
  go_wp2
  go_quiet (fail)
  go_wp2
  go_ret
  exact ⟨rfl, (Ext.refl _).drewN _⟩

theorem callQuotientTable1 (args : Array Value) (w : World) : (callFunc 98 args).run Try.prog w = .ok (.enter 98 args) w :=
  callFunc_enter Try.func98 (by kernel_rfl) rfl args w

set_option maxRecDepth 100000 in
set_option maxHeartbeats 1000000 in
theorem quotientTable_any (t : List (List Int)) (cl : List Int) (v cv : Value) (w : World) (hv : Rows w v t) (hcv : Ints w cv cl) (hT : TableOk t) (hcl : cl.length = t.length) :
    Calls Try.prog 74 #[v, cv] w (NewT (quoT t cl) w) := by
  obtain ⟨hlen, b, o, c, rfl, hc⟩ := id hv
  obtain ⟨hlen2, b2, o2, c2, rfl, hc2⟩ := id hcv
  have h12 := hT.2.1
  have HN := Lib.hid (quoN_def t cl)
  have HNL := Lib.hid (quoN_le t cl)
  have HT := Lib.hid hT
  have HCL := Lib.hid hcl
  have hX : Ext w ((w.alloc (.cells #[.slice (some ⟨b, o, none⟩) t.length c] 25)).alloc (.cells #[.slice (some ⟨b2, o2, none⟩) cl.length c2] 45)) := ((Ext.refl _).alloc _).alloc _
  have k0 : ((w.alloc (.cells #[.slice (some ⟨b, o, none⟩) t.length c] 25)).alloc (.cells #[.slice (some ⟨b2, o2, none⟩) cl.length c2] 45)).cell? ⟨w.heap.size, 0, none⟩ = some (.slice (some ⟨b, o, none⟩) t.length c) := by (repeat first | (with_reducible assumption) |  (with_reducible exact kc_new) | ((with_reducible refine kc_newE ?_); (simp; done)) | ((with_reducible refine kc_newEa ?_); (simp; done)) | ((with_reducible refine kc_newEb ?_); (simp; done)) | (with_reducible apply kc_alloc) | (with_reducible apply kc_drewN) | (with_reducible apply kc_drew) | ((with_reducible refine kc_set ?_ ?_); (first | (simp only []; omega) | (simp; omega) | (focus (simp; done)))) | ((with_reducible refine kc_set2 ?_ ?_); (focus (simp; done))) | (with_reducible refine kc_same (v := .slice none 0 0) ?_))
  have k1 : ((w.alloc (.cells #[.slice (some ⟨b, o, none⟩) t.length c] 25)).alloc (.cells #[.slice (some ⟨b2, o2, none⟩) cl.length c2] 45)).cell? ⟨w.heap.size + 1, 0, none⟩ = some (.slice (some ⟨b2, o2, none⟩) cl.length c2) := by (repeat first | (with_reducible assumption) |  (with_reducible exact kc_new) | ((with_reducible refine kc_newE ?_); (simp; done)) | ((with_reducible refine kc_newEa ?_); (simp; done)) | ((with_reducible refine kc_newEb ?_); (simp; done)) | (with_reducible apply kc_alloc) | (with_reducible apply kc_drewN) | (with_reducible apply kc_drew) | ((with_reducible refine kc_set ?_ ?_); (first | (simp only []; omega) | (simp; omega) | (focus (simp; done)))) | ((with_reducible refine kc_set2 ?_ ?_); (focus (simp; done))) | (with_reducible refine kc_same (v := .slice none 0 0) ?_))
  have zA := hX.size
  clear hc hc2 hT hcl
  go_enter Try.func74, Try.ntmps74
  go_wp2_with fail
  generalize ((w.alloc (.cells #[.slice (some ⟨b, o, none⟩) t.length c] 25)).alloc (.cells #[.slice (some ⟨b2, o2, none⟩) cl.length c2] 45)) = A at *
  refine (firstOf_any cl _ _ (hcv.ext hX)).mono ?_
  rintro e w1 ⟨v1, rfl, hf, hx1⟩
  rw [HCL.out] at hf
  obtain ⟨fa, fc, rfl, hf'⟩ := id hf
  clear hf'
  rw [HN.out]
  rw [HN.out] at hf
  have hxB := ext_box w1 (.slice fa (quoN t cl) fc) 45
  have bB := cell_new w1 (.slice fa (quoN t cl) fc) 45
  have hX1 := hX.trans hx1
  have k2 := hxB.cell (hx1.cell k0)
  have k3 := hxB.cell (hx1.cell k1)
  have hz := hx1.size
  go_wp2_with fail
  refine (tableBy_any (quoN t cl) (quoF t cl) 98 #[.pointer (some ⟨w.heap.size + 1, 0, none⟩), .pointer (some ⟨w.heap.size, 0, none⟩), .pointer (some ⟨w1.heap.size, 0, none⟩)] _ (by have := HNL.out; omega) callQuotientTable1 (fun w3 x y h3 hx hy' => by
    rw [app23]
    have hX3 := hX1.trans (hxB.trans h3)
    exact quotientTable1_any t cl _ _ _ x y (w.heap.size + 1) w.heap.size w1.heap.size w3 (h3.cell k3) (h3.cell k2) (h3.cell bB) (hv.ext hX3) (hcv.ext hX3) (by have := hf.ext (hxB.trans h3); exact this) HT.out HCL.out hx hy')).mono ?_
  rintro e w2 ⟨b4, c4, rfl, ho, hx2⟩
  rw [quoT_def] at ho ⊢
  go_wp2
  go_ret
  exact ⟨b4, c4, rfl, ho.mono (by simp; omega) (Nat.le_refl _), hX1.trans (hxB.trans hx2)⟩

end Go.Proofs.Ytbfhecckapgpnaa

/-
  Contracts of QuotientGroup: reference and program.
-/
namespace Go.Proofs.Ytbfhecckapgpnaa
set_option linter.unusedVariables false
set_option linter.unusedSimpArgs false
open Go.RowKit
attribute [local go_sem ↓] Go.wp_at_zero Go.wp_at_succ

end Go.Proofs.Ytbfhecckapgpnaa

/-
  Contracts of QuotientGroup: reference and program (exported).
-/
namespace Go.Proofs.Ytbfhecckapgpnaa
set_option linter.unusedVariables false
set_option linter.unusedSimpArgs false
open Go.RowKit
attribute [local go_sem ↓] Go.wp_at_zero Go.wp_at_succ

set_option maxRecDepth 100000 in
set_option maxHeartbeats 1000000 in
theorem QuotientGroup_impl (t : List (List Int)) (v : Value) (a : Int) (w : World) (hv : Rows w v t) :
    Calls Try.prog 31 #[.agg #[v], .int .i64 a] w (NewGC (quoV t a) (quoC t a) w) := by
  obtain ⟨hlen, b, o, c, rfl, hc⟩ := id hv
  have hx0 := ext_box2 w (.slice (some ⟨b, o, none⟩) t.length c) (.slice none 0 0) 32 32
  have b0 : ((w.alloc (.cells #[.slice (some ⟨b, o, none⟩) t.length c] 32)).alloc (.cells #[.slice none 0 0] 32)).cell? ⟨w.heap.size, 0, none⟩ = some (.slice (some ⟨b, o, none⟩) t.length c) := by simp [go_sem]
  have r0 : ((w.alloc (.cells #[.slice (some ⟨b, o, none⟩) t.length c] 32)).alloc (.cells #[.slice none 0 0] 32)).cell? ⟨w.heap.size + 1, 0, none⟩ = some (.slice none 0 0) := by simp [go_sem]
  have q0 : ((w.alloc (.cells #[.slice (some ⟨b, o, none⟩) t.length c] 32)).alloc (.cells #[.slice none 0 0] 32)).frozen? ⟨w.heap.size + 1, 0, none⟩ = false := by simp [go_sem]
  have z0 : w.heap.size + 2 ≤ ((w.alloc (.cells #[.slice (some ⟨b, o, none⟩) t.length c] 32)).alloc (.cells #[.slice none 0 0] 32)).heap.size := by simp
  clear hc
  cases hz : (subC t a != 0) with
  | true =>
    have hz' : subC t a ≠ 0 := by simpa using hz
    rw [(quo_bad hz').1, (quo_bad hz').2]
    have hz2 : (subC t a == 0) = false := by simpa using hz
    clear hz'
    go_enter Try.func31, Try.ntmps31
    go_wp2_with fail
    generalize ((w.alloc (.cells #[.slice (some ⟨b, o, none⟩) t.length c] 32)).alloc (.cells #[.slice none 0 0] 32)) = A at *
    refine (checkSubgroup_any t _ _ _ (hv.ext hx0)).mono ?_
    rintro e w1 ⟨rfl, hx1⟩
    have f1 := hx1.cell r0
    have f2 := hx1.free q0 (by simp only []; omega)
    have b1 := hx1.cell b0
    have zz := hx1.size
    go_wp2
    refine bodyPost_ret (v := .tuple #[.agg #[.slice none 0 0], .int .i64 (subC t a)]) (by simp [results, Try.results31, go_sem, f1]) rfl ⟨_, rfl, OwnV.nil _ _ _, (hx0.trans hx1).setNew (by simp only []; omega) _⟩
  | false =>
    have hz' : subC t a = 0 := by simpa using hz
    obtain ⟨hg, m, rfl, hm, -⟩ := subC_zero hz'
    have HZ := Lib.hid hz'
    have HM := Lib.hid hm
    have HG := Lib.hid (groupB_iff.1 hg)
    have h12 := HG.out.1.2.1
    have HQL := Lib.hid (length_cosL t m)
    clear hz hz' hm hg
    cases hn : normB t m with
    | false =>
      rw [(quo_no HZ.out hn).1, (quo_no HZ.out hn).2]
      go_enter Try.func31, Try.ntmps31
      go_wp2_with fail
      generalize ((w.alloc (.cells #[.slice (some ⟨b, o, none⟩) t.length c] 32)).alloc (.cells #[.slice none 0 0] 32)) = A at *
      refine (checkSubgroup_any t _ _ _ (hv.ext hx0)).mono ?_
      rintro e w1 ⟨rfl, hx1⟩
      have f1 := hx1.cell r0
      have f2 := hx1.free q0 (by simp only []; omega)
      have b1 := hx1.cell b0
      have zz := hx1.size
      rw [HZ.out]
      go_wp2_with fail
      refine (isNormal_any t _ m _ (hv.ext (hx0.trans hx1)) HG.out HM.out).mono ?_
      rintro e w2 ⟨rfl, hx2⟩
      rw [hn]
      have g1 := hx2.cell f1
      have g2 := hx2.free f2 (by simp only []; omega)
      have c1 := hx2.cell b1
      have zz2 := hx2.size
      have hX2 := (hx0.trans hx1).trans hx2
      go_wp2
      refine bodyPost_ret (v := .tuple #[.agg #[.slice none 0 0], .int .i64 5]) (by simp [results, Try.results31, go_sem, g1]) rfl ⟨_, rfl, OwnV.nil _ _ _, hX2.setNew (by simp only []; omega) _⟩
    | true =>
      rw [(quo_yes HZ.out hn).1, (quo_yes HZ.out hn).2]
      go_enter Try.func31, Try.ntmps31
      go_wp2_with fail
      generalize ((w.alloc (.cells #[.slice (some ⟨b, o, none⟩) t.length c] 32)).alloc (.cells #[.slice none 0 0] 32)) = A at *
      refine (checkSubgroup_any t _ _ _ (hv.ext hx0)).mono ?_
      rintro e w1 ⟨rfl, hx1⟩
      have f1 := hx1.cell r0
      have f2 := hx1.free q0 (by simp only []; omega)
      have b1 := hx1.cell b0
      have zz := hx1.size
      rw [HZ.out]
      go_wp2_with fail
      refine (isNormal_any t _ m _ (hv.ext (hx0.trans hx1)) HG.out HM.out).mono ?_
      rintro e w2 ⟨rfl, hx2⟩
      rw [hn]
      have g1 := hx2.cell f1
      have g2 := hx2.free f2 (by simp only []; omega)
      have c1 := hx2.cell b1
      have zz2 := hx2.size
      have hX2 := (hx0.trans hx1).trans hx2
      go_wp2_with fail
      refine (cosets_any t _ m _ (hv.ext hX2) HG.out.1 HM.out).mono ?_
      rintro e w3 ⟨b3, c3, rfl, hi3, hx3⟩
      have g3 := hx3.cell g1
      have g4 := hx3.free g2 (by simp only []; omega)
      have c3' := hx3.cell c1
      have zz3 := hx3.size
      have hX3 := hX2.trans hx3
      have hii : Ints w3 (.slice (some ⟨b3, 0, none⟩) t.length c3) (cosL t m) := ⟨by rw [HQL.out]; omega, b3, 0, c3, by rw [HQL.out], hi3⟩
      have HII := Lib.hid hii
      clear hii hi3
      go_wp2_with fail
      refine (quotientTable_any t (cosL t m) _ _ _ (hv.ext hX3) HII.out HG.out.1 HQL.out).mono ?_
      rintro e w4 ⟨rb, rc, rfl, ho, hx4⟩
      have f3 := hx4.cell g3
      have f4 := hx4.free g4 (by simp only []; omega)
      have zz4 := hx4.size
      have hql : (quoT t (cosL t m)).length ≤ 12 := by rw [← quoT_def, length_mkT]; have := quoN_le t (cosL t m); omega
      go_wp2
      refine bodyPost_ret (v := .tuple #[.agg #[.slice (some ⟨rb, 0, none⟩) (quoT t (cosL t m)).length rc], .int .i64 0]) (by simp [results, Try.results31, go_sem, f3]) rfl ⟨_, rfl, ?_, (hX3.trans hx4).setNew (by simp only []; omega) _⟩
      have := ((ho.setOther (a := ⟨w.heap.size + 1, 0, none⟩) (.inl (by simp only []; omega)) (.slice (some ⟨rb, 0, none⟩) (quoT t (cosL t m)).length rc)).mono (lo' := w.heap.size) (hi' := w4.heap.size) (by omega) (Nat.le_refl _)).v (by rw [← quoT_def]; exact small_mkT (by have := quoN_le t (cosL t m); omega) _) rc
      simpa using this

end Go.Proofs.Ytbfhecckapgpnaa
