/-
  Contracts: the solution of a brace (reference).
-/
import Derived.Test.YtjcpeenalbgacaaProg
import Derived.Deep.DeepCutAuto
import Derived.Deep.RegionWith
import Derived.Deep.RegionHeld3
import Derived.Deep.DrawnRows
import Derived.Test.YtjcpeenalbgacaaBase
import Derived.Test.YtjcpeenalbgacaaBase2
import Derived.Test.YtjcpeenalbgacaaRet
import Derived.Test.YtjcpeenalbgacaaSteps
import Derived.Test.YtjcpeenalbgacaaGrow
import Derived.Test.YtjcpeenalbgacaaGrowR
import Derived.Test.YtjcpeenalbgacaaPure1
import Derived.Test.YtjcpeenalbgacaaPureOrd
import Derived.Test.YtjcpeenalbgacaaPureInv
import Derived.Test.YtjcpeenalbgacaaPureTurn
import Derived.Test.YtjcpeenalbgacaaPureConj
import Derived.Test.YtjcpeenalbgacaaPureSet
import Derived.Test.YtjcpeenalbgacaaPureNorm
import Derived.Test.YtjcpeenalbgacaaPureNum
import Derived.Test.YtjcpeenalbgacaaPureCls
import Derived.Test.YtjcpeenalbgacaaPureBr
import Derived.Test.YtjcpeenalbgacaaPureProd
import Derived.Test.YtjcpeenalbgacaaK5
import Derived.Test.YtjcpeenalbgacaaW1
import Derived.Test.YtjcpeenalbgacaaW3
import Derived.Test.YtjcpeenalbgacaaW6
import Derived.Test.YtjcpeenalbgacaaW8
import Derived.Test.YtjcpeenalbgacaaW11
import Derived.Test.YtjcpeenalbgacaaW12
import Derived.Test.YtjcpeenalbgacaaW13
import Derived.Test.YtjcpeenalbgacaaW20
import Derived.Test.YtjcpeenalbgacaaW26
import Derived.Test.YtjcpeenalbgacaaW28
import Derived.Test.YtjcpeenalbgacaaW29
import Derived.Test.YtjcpeenalbgacaaW37
import Derived.Test.YtjcpeenalbgacaaW54
import Derived.Test.YtjcpeenalbgacaaK2
namespace Go.Proofs.Ytjcpeenalbgacaa
set_option linter.unusedVariables false
set_option linter.unusedSimpArgs false
open Go.RowKit
attribute [local go_sem ↓] Go.wp_at_zero Go.wp_at_succ

set_option maxRecDepth 100000 in
set_option maxHeartbeats 2000000 in
theorem l11Solution_any (t u : List (List Int)) (v y : Value) (w : World) (hv : Rows w v t) (hy : Rows w y u) (hG : GroupOk t) (hU : GroupOk u) (hl : t.length = u.length) :
    Calls Try.prog 73 #[.agg #[v, y]] w fun e w' => ∃ a c a2 c2, e = .returned (.agg #[.slice a (mkT t.length (lamF t u)).length c, .slice a2 (mkT t.length (solF t u)).length c2]) ∧ RowsB w' (.slice a (mkT t.length (lamF t u)).length c) (.slice a2 (mkT t.length (solF t u)).length c2) (mkT t.length (lamF t u)) (mkT t.length (solF t u)) ∧ Ext w w' := by
  obtain ⟨hlen, b, o, c, rfl, -⟩ := id hv
  obtain ⟨hlen2, b2, o2, c2, rfl, hc2⟩ := id hy
  have hX : Ext w ((w.alloc (.cells #[.slice (some ⟨b, o, none⟩) t.length c, .slice (some ⟨b2, o2, none⟩) u.length c2] 29)).alloc (.cells #[.slice none 0 0, .slice none 0 0] 41)) := ((Ext.refl _).alloc _).alloc _
  have k0 : ((w.alloc (.cells #[.slice (some ⟨b, o, none⟩) t.length c, .slice (some ⟨b2, o2, none⟩) u.length c2] 29)).alloc (.cells #[.slice none 0 0, .slice none 0 0] 41)).cell? ⟨w.heap.size, 0, none⟩ = some (.slice (some ⟨b, o, none⟩) t.length c) := by simp [go_sem]
  have k1 : ((w.alloc (.cells #[.slice (some ⟨b, o, none⟩) t.length c, .slice (some ⟨b2, o2, none⟩) u.length c2] 29)).alloc (.cells #[.slice none 0 0, .slice none 0 0] 41)).cell? ⟨w.heap.size, 1, none⟩ = some (.slice (some ⟨b2, o2, none⟩) u.length c2) := by simp [go_sem]
  have r0 : ((w.alloc (.cells #[.slice (some ⟨b, o, none⟩) t.length c, .slice (some ⟨b2, o2, none⟩) u.length c2] 29)).alloc (.cells #[.slice none 0 0, .slice none 0 0] 41)).cell? ⟨w.heap.size + 1, 0, none⟩ = some (.slice none 0 0) := by simp [go_sem]
  have r1 : ((w.alloc (.cells #[.slice (some ⟨b, o, none⟩) t.length c, .slice (some ⟨b2, o2, none⟩) u.length c2] 29)).alloc (.cells #[.slice none 0 0, .slice none 0 0] 41)).cell? ⟨w.heap.size + 1, 1, none⟩ = some (.slice none 0 0) := by simp [go_sem]
  have q0 : ((w.alloc (.cells #[.slice (some ⟨b, o, none⟩) t.length c, .slice (some ⟨b2, o2, none⟩) u.length c2] 29)).alloc (.cells #[.slice none 0 0, .slice none 0 0] 41)).frozen? ⟨w.heap.size + 1, 0, none⟩ = false := by simp [go_sem]
  have q1 : ((w.alloc (.cells #[.slice (some ⟨b, o, none⟩) t.length c, .slice (some ⟨b2, o2, none⟩) u.length c2] 29)).alloc (.cells #[.slice none 0 0, .slice none 0 0] 41)).frozen? ⟨w.heap.size + 1, 1, none⟩ = false := by simp [go_sem]
  have zA : w.heap.size + 2 ≤ ((w.alloc (.cells #[.slice (some ⟨b, o, none⟩) t.length c, .slice (some ⟨b2, o2, none⟩) u.length c2] 29)).alloc (.cells #[.slice none 0 0, .slice none 0 0] 41)).heap.size := by simp
  have h12 := hG.1.2.1
  have HG := Lib.hid hG
  have HU := Lib.hid hU
  have HL := Lib.hid hl
  have HLB := Lib.hid (fun x y (hx : x < t.length) (hy : y < t.length) => lamF_bd hG hU hl hx hy)
  have HSI := Lib.hid (fun x y (hx : x < t.length) (hy : y < t.length) => solF_ix hG hU hl hx hy)
  have HLF := Lib.hid (length_mkT t.length (lamF t u))
  have HLT := Lib.hid (length_mkT t.length (solF t u))
  clear hG hU hl
  rw [HLF.out, HLT.out]
  go_enter Try.func73, Try.ntmps73
  go_wp2_with fail
  generalize ((w.alloc (.cells #[.slice (some ⟨b, o, none⟩) t.length c, .slice (some ⟨b2, o2, none⟩) u.length c2] 29)).alloc (.cells #[.slice none 0 0, .slice none 0 0] 41)) = A at *
  refine (l11Lambda_any t u _ _ _ (hv.ext hX) (hy.ext hX) HG.out HU.out HL.out).mono ?_
  rintro e w1 ⟨vF, rfl, hrF, hx⟩
  obtain ⟨-, bF, oF, cF, rfl, hcF⟩ := id hrF
  rw [HLF.out]
  rw [HLF.out] at hrF
  have zz := Ext.size hx
  replace q0 := hx.free q0 (by simp only []; omega)
  replace q1 := hx.free q1 (by simp only []; omega)
  replace zA := Nat.le_trans zA zz
  replace hX := hX.trans hx
  replace k0 := hx.cell k0
  replace k1 := hx.cell k1
  replace r0 := hx.cell r0
  replace r1 := hx.cell r1
  clear hx zz
  have hxB : Ext w1 (w1.alloc (.cells #[.slice (some ⟨bF, oF, none⟩) t.length cF, .slice none 0 0] 41)) := (Ext.refl _).alloc _
  have bF0 : (w1.alloc (.cells #[.slice (some ⟨bF, oF, none⟩) t.length cF, .slice none 0 0] 41)).cell? ⟨w1.heap.size, 0, none⟩ = some (.slice (some ⟨bF, oF, none⟩) t.length cF) := by simp [go_sem]
  have bv0 : (w1.alloc (.cells #[.slice (some ⟨bF, oF, none⟩) t.length cF, .slice none 0 0] 41)).cell? ⟨w1.heap.size, 1, none⟩ = some (.slice none 0 0) := by simp [go_sem]
  have qv0 : (w1.alloc (.cells #[.slice (some ⟨bF, oF, none⟩) t.length cF, .slice none 0 0] 41)).frozen? ⟨w1.heap.size, 1, none⟩ = false := by simp [go_sem]
  have zB : w1.heap.size < (w1.alloc (.cells #[.slice (some ⟨bF, oF, none⟩) t.length cF, .slice none 0 0] 41)).heap.size := by simp
  have gB := GrowT.nil 26 (w1.alloc (.cells #[.slice (some ⟨bF, oF, none⟩) t.length cF, .slice none 0 0] 41)).heap.size (w1.alloc (.cells #[.slice (some ⟨bF, oF, none⟩) t.length cF, .slice none 0 0] 41))
  go_wp2
  generalize (w1.alloc (.cells #[.slice (some ⟨bF, oF, none⟩) t.length cF, .slice none 0 0] 41)) = B at *
  go_loopw [4] (fun x wr => ∃ k : Nat, k ≤ t.length ∧ x = .int .i64 k ∧ ∃ v, wr.cell? ⟨w1.heap.size, 1, none⟩ = some v ∧ wr.cell? ⟨w1.heap.size, 0, none⟩ = some (.slice (some ⟨bF, oF, none⟩) t.length cF) ∧ GrowT 26 B.heap.size wr v ((mkT t.length (solF t u)).take k) ∧ wr.frozen? ⟨w1.heap.size, 1, none⟩ = false ∧ Ext w1 wr ∧ B.heap.size ≤ wr.heap.size) (fun x _ => t.length - (intOf x).toNat)
  case atStart => exact ⟨0, Nat.zero_le _, rfl, _, bv0, bF0, gB, qv0, hxB, Nat.le_refl _⟩
  case round =>
    clear bv0 qv0 gB bF0 hxB
    obtain ⟨k, hk, rfl, v, bv, bF1, hg, qv, hx, zr⟩ := hrel
    obtain ⟨sa, sc, rfl⟩ := hg.slice
    have htl : ((mkT t.length (solF t u)).take k).length = k := by rw [List.length_take, HLT.out]; omega
    rw [htl] at hg bv
    have HTL := Lib.hid htl
    clear htl
    have j0 := hx.cell k0
    have j1 := hx.cell k1
    have g1 := hx.cell r0
    have g2 := hx.cell r1
    have p1 := hx.free q0 (by simp only []; omega)
    have p2 := hx.free q1 (by simp only []; omega)
    by_cases hkl : k < t.length
    case neg =>
      have hkk : k = t.length := by omega
      subst hkk
      have htk : (mkT t.length (solF t u)).take t.length = (mkT t.length (solF t u)) := List.take_of_length_le (by rw [HLT.out]; omega)
      rw [htk] at hg
      go_wp2
      refine bodyPost_ret (v := .agg #[.slice (some ⟨bF, oF, none⟩) t.length cF, .slice sa t.length sc]) (by simp [results, Try.results73, go_sem, g1, g2]) rfl ⟨_, cF, _, sc, rfl, ⟨?_, ?_⟩, ((hX.trans hx).setNew (by simp only []; omega) _).setNew (by simp only []; omega) _⟩
      · exact (rows_set2 (hrF.ext hx) g1 g2 _ _).toR
      · have h1 := (hg.setSl (a := ⟨w.heap.size + 1, 0, none⟩) g1 (by simp only []; omega) (.slice (some ⟨bF, oF, none⟩) t.length cF))
        have h2 := (h1.setSl (a := ⟨w.heap.size + 1, 1, none⟩) (kc_set2 (by simp) g2) (by simp only []; omega) (.slice sa t.length sc)).toR
        exact h2
    case pos =>
      obtain ⟨w2, rfl⟩ : ∃ w2 : World, w2 = wr := ⟨_, rfl⟩
      go_wp2
      have hxa : Ext w2 (w2.alloc (.cells #[] 2)) := (Ext.refl _).alloc _
      have hi0 := GrowI.lit (e := 2) (base := w2.heap.size) (w := w2) (Nat.le_refl _)
      have HRL := Lib.hid (show (row (mkT t.length (solF t u)) k).length = t.length by rw [row_mkT _ _ _ hkl, length_partRow])
      have HO := Lib.hid hg.lt
      go_loopw [5, 6] (fun v y wr => ∃ j : Nat, j ≤ t.length ∧ y = .int .i64 j ∧ GrowI 2 w2.heap.size wr v ((row (mkT t.length (solF t u)) k).take j) ∧ v ≠ .slice none 0 0 ∧ Ext w2 wr) (fun _ y _ => t.length - (intOf y).toNat)
      case atStart => exact ⟨0, Nat.zero_le _, rfl, hi0, by simp, hxa⟩
      case round =>
        clear hxa hi0
        obtain ⟨j, hj, rfl, hi, hvr, hx2⟩ := hrel
        have HVR := Lib.hid hvr
        clear hvr
        have m0 := hx2.cell j0
        have m1 := hx2.cell j1
        have mF := hx2.cell bF1
        by_cases hjl : j < t.length
        case neg =>
          have hta : (row (mkT t.length (solF t u)) k).take j = row (mkT t.length (solF t u)) k := List.take_of_length_le (by rw [HRL.out]; omega)
          rw [hta] at hi
          obtain ⟨br, cr, rfl, hri, hrb, hrb2⟩ := hi.row HVR.out
          have hgw := hg.ext hx2
          have hne : some br ≠ (Value.slice sa k sc).ownBlock := fun e => by have := HO.out br e.symm; omega
          have bv2 := hx2.cell bv
          have qv2 := hx2.free qv (by simp only []; omega)
          clear hg
          go_wp2_with (at_builtin; refine wpList_append_row rfl _ _ 22 26 rfl Try.underlying22 infoSl B.heap.size _ _ rfl (hgw.ext (ext_box _ _ _)) _ br cr _ rfl (cell_new _ _ _) (hri.ext (ext_box _ _ _)) (by rw [HRL.out]; omega) hne (by rw [HTL.out]; omega) (by have := hx.size; have := hx2.size; simp; omega) ?_)
          intro v' w3 hg3 hgr hv3
          have hx3 : Ext w1 w3 := Ext.grown ((hx.trans hx2).trans (ext_box _ _ _)) hgr (hgw.ext (ext_box _ _ _)).own.choose_spec (by omega)
          have hgr2 := hgr.size
          have bv3 : w3.cell? ⟨w1.heap.size, 1, none⟩ = some (Value.slice sa k sc) := by
            rw [hgr.cell_far _ (by simp; omega) (by intro e; have := HO.out _ e.symm; simp only [] at this; omega)]
            exact (ext_box _ _ _).cell bv2
          have bF3 : w3.cell? ⟨w1.heap.size, 0, none⟩ = some (.slice (some ⟨bF, oF, none⟩) t.length cF) := by
            rw [hgr.cell_far _ (by simp; omega) (by intro e; have := HO.out _ e.symm; simp only [] at this; omega)]
            exact (ext_box _ _ _).cell mF
          have qv3 : w3.frozen? ⟨w1.heap.size, 1, none⟩ = false := by
            rw [hgr.frozen_far _ (by simp; omega) (by intro e; have := HO.out _ e.symm; simp only [] at this; omega)]
            exact (ext_box _ _ _).free qv2 (by simp only []; have := hx2.size; omega)
          clear hgr hne hgw
          obtain ⟨a3, c3, rfl⟩ := hg3.slice
          have hl3 : ((mkT t.length (solF t u)).take k ++ [row (mkT t.length (solF t u)) k]).length = k + 1 := by rw [List.length_append, HTL.out]; rfl
          rw [hl3] at hg3 ⊢
          clear hl3 hv3
          go_wp2
          go_roundw
          case rel => exact ⟨k + 1, by omega, by go_num, _, World.cell?_setCell_same _ _ _ bv3, kc_set2 (by simp) bF3, by rw [take_row _ _ (by rw [HLT.out]; exact hkl)]; exact hg3.setSl bv3 (by simp only []; omega) _, by rw [World.frozen?_setCell]; exact qv3, hx3.setNew (by simp only []; omega) _, by have := hx2.size; have := hgr2; simp at *; omega⟩
          case measure => simp [intOf]; omega
        case pos =>
          have bd := HLB.out k j hkl hjl
          have iu : (k : Int) < (u.length : Int) := by have := HL.out; omega
          have ju : (j : Int) < (u.length : Int) := by have := HL.out; omega
          have lu : lamF t u k j < (u.length : Int) := by have := HL.out; omega
          obtain ⟨d0, s0, n0, x0, l0, -⟩ := (hcF.ext hx).get (i := k) (by rw [HLF.out]; exact hkl)
          rw [length_row_mkT _ _ _ hkl] at x0
          have y0 := l0.ent (length_row_mkT _ _ _ hkl) hjl
          rw [ent_mkT _ _ _ _ hkl hjl] at y0
          obtain ⟨d1, s1, n1, x1, l1⟩ := (hc2.ext (hX.trans hx)).read HU.out.1 rfl (x := k) (by omega)
          obtain ⟨y1, i1, i2⟩ := l1 j (by omega)
          obtain ⟨d2, s2, n2, x2, l2, h2l⟩ := (hc2.ext (hX.trans hx)).get (i := (lamF t u k j).toNat) (by omega)
          have HZ := Lib.hid ((l2.ints h2l n2).ext hx2)
          have HSE := Lib.hid (HSI.out k j hkl hjl)
          have v0 := hx2.cell x0
          have v1 := hx2.cell y0
          have v2 := hx2.cell x1
          have v3 := hx2.cell y1
          have v4 := hx2.cell x2
          have HLJ := Lib.hid (show ((row (mkT t.length (solF t u)) k).take j).length = j by rw [List.length_take, HRL.out]; omega)
          clear l0 l1 l2
          go_wp2_with fail
          go_region_held3 (fun w' => w'.cell? ⟨w.heap.size, 1, none⟩ = some (.slice (some ⟨b2, o2, none⟩) u.length c2) ∧ w'.cell? ⟨w1.heap.size, 0, none⟩ = some (.slice (some ⟨bF, oF, none⟩) t.length cF) ∧ w'.cell? ⟨bF, oF + k, none⟩ = some (.slice (some ⟨d0, s0, none⟩) t.length n0) ∧ w'.cell? ⟨d0, s0 + j, none⟩ = some (.int .i64 (lamF t u k j)) ∧ w'.cell? ⟨b2, o2 + k, none⟩ = some (.slice (some ⟨d1, s1, none⟩) u.length n1) ∧ w'.cell? ⟨d1, s1 + j, none⟩ = some (.int .i64 (ent u k j)) ∧ w'.cell? ⟨b2, o2 + (lamF t u k j).toNat, none⟩ = some (.slice (some ⟨d2, s2, none⟩) (row u (lamF t u k j).toNat).length n2))
            ((refine ⟨?_, ?_, ?_, ?_, ?_, ?_, ?_⟩ <;> (repeat first | (with_reducible assumption) | (with_reducible refine Ext.cell hx3 ?_) |  (with_reducible exact kc_new) | ((with_reducible refine kc_newE ?_); (simp; done)) | ((with_reducible refine kc_newEa ?_); (simp; done)) | ((with_reducible refine kc_newEb ?_); (simp; done)) | (with_reducible apply kc_alloc) | (with_reducible apply kc_drewN) | (with_reducible apply kc_drew) | ((with_reducible refine kc_set ?_ ?_); (first | (simp only []; omega) | (simp; omega) | (focus (simp; done)))) | ((with_reducible refine kc_set2 ?_ ?_); (focus (simp; done))) | (with_reducible refine kc_same (v := .slice none 0 0) ?_))))
            (first
              | (go_at_call 116; refine (l01Index_any (row u (lamF t u k j).toNat) _ _ _ (HZ.out.ext (by (repeat first | (with_reducible exact Ext.refl _) | (with_reducible assumption) | (with_reducible apply Ext.drew) | (with_reducible apply kx_drewN) | (with_reducible apply kx_alloc) | ((with_reducible refine kx_set ?_ ?_); (first | (simp only []; omega) | (simp; omega) | (focus (simp; done)))) )))).mono ?_; rintro e w' ⟨rfl, rfl⟩; rw [HSE.out])
              | (refine step_append_int (by rfl) _ _ 26 2 (by rfl) Try.underlying26 infoInt w2.heap.size _ _ (by rfl) (hi.ext (by (repeat first | (with_reducible exact Ext.refl _) | (with_reducible assumption) | (with_reducible apply Ext.drew) | (with_reducible apply kx_drewN) | (with_reducible apply kx_alloc) | ((with_reducible refine kx_set ?_ ?_); (first | (simp only []; omega) | (simp; omega) | (focus (simp; done)))) ))) _ _ (by rfl) (by (repeat first | (with_reducible assumption) |  (with_reducible exact kc_new) | ((with_reducible refine kc_newE ?_); (simp; done)) | ((with_reducible refine kc_newEa ?_); (simp; done)) | ((with_reducible refine kc_newEb ?_); (simp; done)) | (with_reducible apply kc_alloc) | (with_reducible apply kc_drewN) | (with_reducible apply kc_drew) | ((with_reducible refine kc_set ?_ ?_); (first | (simp only []; omega) | (simp; omega) | (focus (simp; done)))) | ((with_reducible refine kc_set2 ?_ ?_); (focus (simp; done))) | (with_reducible refine kc_same (v := .slice none 0 0) ?_))) (by rw [HLJ.out]; omega) (by have := hx2.size; simp; omega) ?_; intro v' w3 hi3 hgr hv3; have hx3 : Ext w2 w3 := Ext.grown (hx2.trans (by (repeat first | (with_reducible exact Ext.refl _) | (with_reducible assumption) | (with_reducible apply Ext.drew) | (with_reducible apply kx_drewN) | (with_reducible apply kx_alloc) | ((with_reducible refine kx_set ?_ ?_); (first | (simp only []; omega) | (simp; omega) | (focus (simp; done)))) ))) hgr (hi.ext (by (repeat first | (with_reducible exact Ext.refl _) | (with_reducible assumption) | (with_reducible apply Ext.drew) | (with_reducible apply kx_drewN) | (with_reducible apply kx_alloc) | ((with_reducible refine kx_set ?_ ?_); (first | (simp only []; omega) | (simp; omega) | (focus (simp; done)))) ))) (Nat.le_refl _)))
          all_goals
            go_wp2
            go_roundw
            case rel => exact ⟨j + 1, by omega, by go_num, by
              rw [take_ix _ _ (by rw [HRL.out]; exact hjl), row_mkT _ _ _ hkl, ix_partRow _ _ _ _ _ hjl, if_pos hjl]
              rw [row_mkT _ _ _ hkl] at hi3
              exact hi3, hv3, hx3⟩
            case measure => simp [intOf]; omega

set_option maxRecDepth 100000 in
set_option maxHeartbeats 1000000 in
theorem BraceSolution_spec (t u : List (List Int)) (v y : Value) (w : World) (hv : Rows w v t) (hy : Rows w y u) :
    Calls Try.prog 29 #[.agg #[v, y]] w (RetB (ifB t u (mkT t.length (lamF t u)) []) (ifB t u (mkT t.length (solF t u)) []) (codeB t u) w) := by
  obtain ⟨hlen, b, o, c, rfl, -⟩ := id hv
  obtain ⟨hlen2, b2, o2, c2, rfl, -⟩ := id hy
  have hX : Ext w ((w.alloc (.cells #[.slice (some ⟨b, o, none⟩) t.length c, .slice (some ⟨b2, o2, none⟩) u.length c2] 29)).alloc (.cells #[.slice none 0 0, .slice none 0 0] 41)) := ((Ext.refl _).alloc _).alloc _
  have k0 : ((w.alloc (.cells #[.slice (some ⟨b, o, none⟩) t.length c, .slice (some ⟨b2, o2, none⟩) u.length c2] 29)).alloc (.cells #[.slice none 0 0, .slice none 0 0] 41)).cell? ⟨w.heap.size, 0, none⟩ = some (.slice (some ⟨b, o, none⟩) t.length c) := by simp [go_sem]
  have k1 : ((w.alloc (.cells #[.slice (some ⟨b, o, none⟩) t.length c, .slice (some ⟨b2, o2, none⟩) u.length c2] 29)).alloc (.cells #[.slice none 0 0, .slice none 0 0] 41)).cell? ⟨w.heap.size, 1, none⟩ = some (.slice (some ⟨b2, o2, none⟩) u.length c2) := by simp [go_sem]
  have r0 : ((w.alloc (.cells #[.slice (some ⟨b, o, none⟩) t.length c, .slice (some ⟨b2, o2, none⟩) u.length c2] 29)).alloc (.cells #[.slice none 0 0, .slice none 0 0] 41)).cell? ⟨w.heap.size + 1, 0, none⟩ = some (.slice none 0 0) := by simp [go_sem]
  have r1 : ((w.alloc (.cells #[.slice (some ⟨b, o, none⟩) t.length c, .slice (some ⟨b2, o2, none⟩) u.length c2] 29)).alloc (.cells #[.slice none 0 0, .slice none 0 0] 41)).cell? ⟨w.heap.size + 1, 1, none⟩ = some (.slice none 0 0) := by simp [go_sem]
  have q0 : ((w.alloc (.cells #[.slice (some ⟨b, o, none⟩) t.length c, .slice (some ⟨b2, o2, none⟩) u.length c2] 29)).alloc (.cells #[.slice none 0 0, .slice none 0 0] 41)).frozen? ⟨w.heap.size + 1, 0, none⟩ = false := by simp [go_sem]
  have q1 : ((w.alloc (.cells #[.slice (some ⟨b, o, none⟩) t.length c, .slice (some ⟨b2, o2, none⟩) u.length c2] 29)).alloc (.cells #[.slice none 0 0, .slice none 0 0] 41)).frozen? ⟨w.heap.size + 1, 1, none⟩ = false := by simp [go_sem]
  have zA : w.heap.size + 2 ≤ ((w.alloc (.cells #[.slice (some ⟨b, o, none⟩) t.length c, .slice (some ⟨b2, o2, none⟩) u.length c2] 29)).alloc (.cells #[.slice none 0 0, .slice none 0 0] 41)).heap.size := by simp
  cases hb : braceB t u with
  | false =>
    rw [ifB_no hb, ifB_no hb, codeB_no hb]
    go_enter Try.func29, Try.ntmps29
    go_wp2_with fail
    generalize ((w.alloc (.cells #[.slice (some ⟨b, o, none⟩) t.length c, .slice (some ⟨b2, o2, none⟩) u.length c2] 29)).alloc (.cells #[.slice none 0 0, .slice none 0 0] 41)) = A at *
    refine (l11Is_any t u _ _ _ (hv.ext hX) (hy.ext hX)).mono ?_
    rintro e w2 ⟨rfl, hx⟩
    rw [hb]
    have zz := Ext.size hx
    replace q0 := hx.free q0 (by simp only []; omega)
    replace q1 := hx.free q1 (by simp only []; omega)
    replace zA := Nat.le_trans zA zz
    replace hX := hX.trans hx
    replace k0 := hx.cell k0
    replace k1 := hx.cell k1
    replace r0 := hx.cell r0
    replace r1 := hx.cell r1
    clear hx zz
    go_wp2
    refine bodyPost_ret (v := .tuple #[.agg #[.slice none 0 0, .slice none 0 0], .int .i64 1]) (by simp [results, Try.results29, go_sem, r0, r1]) rfl ⟨_, _, rfl, RowsB.nil _ _ _, (hX.setNew (by simp only []; omega) _).setNew (by simp only []; omega) _⟩
  | true =>
    obtain ⟨hG, hU, hL⟩ := braceB_ok hb
    rw [ifB_yes hb, ifB_yes hb, codeB_yes hb]
    have HG := Lib.hid hG
    have HU := Lib.hid hU
    have HL := Lib.hid hL
    have h12 := hG.1.2.1
    have HN1 := Lib.hid (NoEmpty.made hG.1.1 (lamF t u))
    have HN2 := Lib.hid (NoEmpty.made hG.1.1 (solF t u))
    clear hG hU hL
    go_enter Try.func29, Try.ntmps29
    go_wp2_with fail
    generalize ((w.alloc (.cells #[.slice (some ⟨b, o, none⟩) t.length c, .slice (some ⟨b2, o2, none⟩) u.length c2] 29)).alloc (.cells #[.slice none 0 0, .slice none 0 0] 41)) = A at *
    refine (l11Is_any t u _ _ _ (hv.ext hX) (hy.ext hX)).mono ?_
    rintro e w2 ⟨rfl, hx⟩
    rw [hb]
    have zz := Ext.size hx
    replace q0 := hx.free q0 (by simp only []; omega)
    replace q1 := hx.free q1 (by simp only []; omega)
    replace zA := Nat.le_trans zA zz
    replace hX := hX.trans hx
    replace k0 := hx.cell k0
    replace k1 := hx.cell k1
    replace r0 := hx.cell r0
    replace r1 := hx.cell r1
    clear hx zz
    clear hb
    go_wp2_with fail
    refine (l11Solution_any t u _ _ _ (hv.ext hX) (hy.ext hX) HG.out HU.out HL.out).mono ?_
    rintro e w5 ⟨a5, c6, a6, c7, rfl, ⟨hr5, hr6⟩, hx⟩
    have zz := Ext.size hx
    replace q0 := hx.free q0 (by simp only []; omega)
    replace q1 := hx.free q1 (by simp only []; omega)
    replace zA := Nat.le_trans zA zz
    replace hX := hX.trans hx
    replace k0 := hx.cell k0
    replace k1 := hx.cell k1
    replace r0 := hx.cell r0
    replace r1 := hx.cell r1
    clear hx zz
    go_wp2
    refine bodyPost_ret (v := .tuple #[.agg #[.slice a5 (mkT t.length (lamF t u)).length c6, .slice a6 (mkT t.length (solF t u)).length c7], .int .i64 0]) (by simp [results, Try.results29, go_sem, r0, r1]) rfl ⟨_, _, rfl, ⟨?_, ?_⟩, (hX.setNew (by simp only []; omega) _).setNew (by simp only []; omega) _⟩
    · exact kR_setNil HN1.out (kc_set2 (by simp) r1) (kR_setNil HN1.out r0 hr5)
    · exact kR_setNil HN2.out (kc_set2 (by simp) r1) (kR_setNil HN2.out r0 hr6)
end Go.Proofs.Ytjcpeenalbgacaa
