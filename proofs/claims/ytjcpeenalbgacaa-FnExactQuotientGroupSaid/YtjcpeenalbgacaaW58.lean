/-
  Contracts: the tables of quotients; reference and program.
-/
import Derived.Test.YtjcpeenalbgacaaProg
import Derived.Deep.DeepCutAuto
import Derived.Deep.RegionWith
import Derived.Deep.RegionHeld3
import Derived.Deep.DrawnRows
import Derived.Test.YtjcpeenalbgacaaBase
import Derived.Test.YtjcpeenalbgacaaBase2
import Derived.Test.YtjcpeenalbgacaaRet
import Derived.Test.YtjcpeenalbgacaaSteps
import Derived.Test.YtjcpeenalbgacaaGrow
import Derived.Test.YtjcpeenalbgacaaGrowR
import Derived.Test.YtjcpeenalbgacaaPure1
import Derived.Test.YtjcpeenalbgacaaPureOrd
import Derived.Test.YtjcpeenalbgacaaPureInv
import Derived.Test.YtjcpeenalbgacaaPureTurn
import Derived.Test.YtjcpeenalbgacaaPureConj
import Derived.Test.YtjcpeenalbgacaaPureSet
import Derived.Test.YtjcpeenalbgacaaPureNorm
import Derived.Test.YtjcpeenalbgacaaPureNum
import Derived.Test.YtjcpeenalbgacaaPureQuo
import Derived.Test.YtjcpeenalbgacaaW1
import Derived.Test.YtjcpeenalbgacaaW3
import Derived.Test.YtjcpeenalbgacaaW6
import Derived.Test.YtjcpeenalbgacaaW8
import Derived.Test.YtjcpeenalbgacaaW11
import Derived.Test.YtjcpeenalbgacaaW12
import Derived.Test.YtjcpeenalbgacaaW13
import Derived.Test.YtjcpeenalbgacaaW17
import Derived.Test.YtjcpeenalbgacaaW20
import Derived.Test.YtjcpeenalbgacaaW33
import Derived.Test.YtjcpeenalbgacaaW34
import Derived.Test.YtjcpeenalbgacaaW41
import Derived.Test.YtjcpeenalbgacaaW42
import Derived.Test.YtjcpeenalbgacaaW48
import Derived.Test.YtjcpeenalbgacaaW56
import Derived.Test.YtjcpeenalbgacaaK3
namespace Go.Proofs.Ytjcpeenalbgacaa
set_option linter.unusedVariables false
set_option linter.unusedSimpArgs false
open Go.RowKit
attribute [local go_sem ↓] Go.wp_at_zero Go.wp_at_succ

theorem quotientTable1_any (t : List (List Int)) (cl : List Int) (v cv fv : Value) (i j C B F : Nat) (w : World) (hC : w.cell? ⟨C, 0, none⟩ = some cv) (hB : w.cell? ⟨B, 0, none⟩ = some v) (hF : w.cell? ⟨F, 0, none⟩ = some fv) (hv : Rows w v t) (hcv : Ints w cv cl) (hfv : IntsR w fv (firTo cl t.length)) (hT : TableOk t) (hcl : cl.length = t.length) (hi : i < quoN t cl) (hj : j < quoN t cl) :
    Calls Try.prog 128 #[.int .i64 i, .int .i64 j, .pointer (some ⟨C, 0, none⟩), .pointer (some ⟨B, 0, none⟩), .pointer (some ⟨F, 0, none⟩)] w fun e w' => e = .returned (.int .i64 (quoF t cl i j)) ∧ Ext w w' := by
  obtain ⟨hlen, b, o, c, rfl, hc⟩ := id hv
  obtain ⟨hlen2, b2, o2, c2, rfl, hc2⟩ := id hcv
  obtain ⟨fa, fc, rfl, hf⟩ := id hfv
  rw [← quoN_def] at hi hj
  obtain ⟨fb, fo, rfl, hfi⟩ := hf (ne_nil_of_lt hi)
  obtain ⟨x, hx, ex⟩ := firTo_mem cl t.length i hi
  obtain ⟨y, hy, ey⟩ := firTo_mem cl t.length j hj
  have e1 := hfi i hi
  have e2 := hfi j hj
  rw [ex] at e1
  rw [ey] at e2
  rw [quoF_def t cl i j x y ex ey]
  obtain ⟨d1, s1, m1, r1, l1⟩ := hc.read hT rfl hx
  obtain ⟨e3, i1, i2⟩ := l1 y hy
  have e4 := hc2 (ent t x y).toNat (by omega)
  have hfl := firTo_len cl t.length
  rw [hcl] at hC
  clear l1 hfi hf ex ey
  go_enter Try.func128, Try.ntmps128
  go_wp2
  go_quiet (fail)
  go_wp2
  go_ret
  exact ⟨rfl, (Ext.refl _).drewN _⟩

theorem callQuotientTable1 (args : Array Value) (w : World) : (callFunc 128 args).run Try.prog w = .ok (.enter 128 args) w :=
  callFunc_enter Try.func128 (by kernel_rfl) rfl args w

set_option maxRecDepth 100000 in
set_option maxHeartbeats 1000000 in
theorem quotientTable_any (t : List (List Int)) (cl : List Int) (v cv : Value) (w : World) (hv : Rows w v t) (hcv : Ints w cv cl) (hT : TableOk t) (hcl : cl.length = t.length) :
    Calls Try.prog 92 #[v, cv] w (NewT (quoT t cl) w) := by
  obtain ⟨hlen, b, o, c, rfl, hc⟩ := id hv
  obtain ⟨hlen2, b2, o2, c2, rfl, hc2⟩ := id hcv
  have h12 := hT.2.1
  have HN := Lib.hid (quoN_def t cl)
  have HNL := Lib.hid (quoN_le t cl)
  have HT := Lib.hid hT
  have HCL := Lib.hid hcl
  have hX : Ext w ((w.alloc (.cells #[.slice (some ⟨b, o, none⟩) t.length c] 22)).alloc (.cells #[.slice (some ⟨b2, o2, none⟩) cl.length c2] 26)) := ((Ext.refl _).alloc _).alloc _
  have k0 : ((w.alloc (.cells #[.slice (some ⟨b, o, none⟩) t.length c] 22)).alloc (.cells #[.slice (some ⟨b2, o2, none⟩) cl.length c2] 26)).cell? ⟨w.heap.size, 0, none⟩ = some (.slice (some ⟨b, o, none⟩) t.length c) := by (repeat first | (with_reducible assumption) |  (with_reducible exact kc_new) | ((with_reducible refine kc_newE ?_); (simp; done)) | ((with_reducible refine kc_newEa ?_); (simp; done)) | ((with_reducible refine kc_newEb ?_); (simp; done)) | (with_reducible apply kc_alloc) | (with_reducible apply kc_drewN) | (with_reducible apply kc_drew) | ((with_reducible refine kc_set ?_ ?_); (first | (simp only []; omega) | (simp; omega) | (focus (simp; done)))) | ((with_reducible refine kc_set2 ?_ ?_); (focus (simp; done))) | (with_reducible refine kc_same (v := .slice none 0 0) ?_))
  have k1 : ((w.alloc (.cells #[.slice (some ⟨b, o, none⟩) t.length c] 22)).alloc (.cells #[.slice (some ⟨b2, o2, none⟩) cl.length c2] 26)).cell? ⟨w.heap.size + 1, 0, none⟩ = some (.slice (some ⟨b2, o2, none⟩) cl.length c2) := by (repeat first | (with_reducible assumption) |  (with_reducible exact kc_new) | ((with_reducible refine kc_newE ?_); (simp; done)) | ((with_reducible refine kc_newEa ?_); (simp; done)) | ((with_reducible refine kc_newEb ?_); (simp; done)) | (with_reducible apply kc_alloc) | (with_reducible apply kc_drewN) | (with_reducible apply kc_drew) | ((with_reducible refine kc_set ?_ ?_); (first | (simp only []; omega) | (simp; omega) | (focus (simp; done)))) | ((with_reducible refine kc_set2 ?_ ?_); (focus (simp; done))) | (with_reducible refine kc_same (v := .slice none 0 0) ?_))
  have zA := hX.size
  clear hc hc2 hT hcl
  go_enter Try.func92, Try.ntmps92
  go_wp2_with fail
  generalize ((w.alloc (.cells #[.slice (some ⟨b, o, none⟩) t.length c] 22)).alloc (.cells #[.slice (some ⟨b2, o2, none⟩) cl.length c2] 26)) = A at *
  refine (firstOf_any cl _ _ (hcv.ext hX)).mono ?_
  rintro e w1 ⟨v1, rfl, hf, hx1⟩
  rw [HCL.out] at hf
  obtain ⟨fa, fc, rfl, hf'⟩ := id hf
  clear hf'
  rw [HN.out]
  rw [HN.out] at hf
  have hxB := ext_box w1 (.slice fa (quoN t cl) fc) 26
  have bB := cell_new w1 (.slice fa (quoN t cl) fc) 26
  have hX1 := hX.trans hx1
  have k2 := hxB.cell (hx1.cell k0)
  have k3 := hxB.cell (hx1.cell k1)
  have hz := hx1.size
  go_wp2_with fail
  refine (tableBy_any (quoN t cl) (quoF t cl) 128 #[.pointer (some ⟨w.heap.size + 1, 0, none⟩), .pointer (some ⟨w.heap.size, 0, none⟩), .pointer (some ⟨w1.heap.size, 0, none⟩)] _ (by have := HNL.out; omega) callQuotientTable1 (fun w3 x y h3 hx hy' => by
    rw [app23]
    have hX3 := hX1.trans (hxB.trans h3)
    exact quotientTable1_any t cl _ _ _ x y (w.heap.size + 1) w.heap.size w1.heap.size w3 (h3.cell k3) (h3.cell k2) (h3.cell bB) (hv.ext hX3) (hcv.ext hX3) (by have := hf.ext (hxB.trans h3); exact this) HT.out HCL.out hx hy')).mono ?_
  rintro e w2 ⟨b4, c4, rfl, ho, hx2⟩
  rw [quoT_def] at ho ⊢
  go_wp2
  go_ret
  exact ⟨b4, c4, rfl, ho.mono (by simp; omega) (Nat.le_refl _), hX1.trans (hxB.trans hx2)⟩

end Go.Proofs.Ytjcpeenalbgacaa
