/-
  Contracts of the program's dualRack and DualRack, at racks.
-/
import Derived.Test.YtjbloenjphpngaaGreatProg
import Derived.Deep.DeepCutAuto
import Derived.Deep.RegionWith
import Derived.Deep.RegionHeld3
import Derived.Deep.DrawnRows
import Derived.Deep.AppendLies
import Derived.Deep.RegionLaw
import Derived.BigQuiet
import Derived.Deep.OwnRows
import Derived.IntWalk
import Derived.Maps.AppendAt
import Derived.Test.YtjbloenjphpngaaGreatKx0
import Derived.Test.YtjbloenjphpngaaGreatKx1
import Derived.Test.YtjbloenjphpngaaGreatKx6
import Derived.Test.YtjbloenjphpngaaGreatKx7
import Derived.Test.YtjbloenjphpngaaGreatKx8
import Derived.Test.YtjbloenjphpngaaGreatKx9
import Derived.Test.YtjbloenjphpngaaGreatKx4
import Derived.Test.YtjbloenjphpngaaGreatKx3
import Derived.Test.YtjbloenjphpngaaGreatKx29
import Derived.Test.YtjbloenjphpngaaGreatKx2
import Derived.Test.YtjbloenjphpngaaGreatKx27
import Derived.Test.YtjbloenjphpngaaGreatKx14
import Derived.Test.YtjbloenjphpngaaGreatKx10
import Derived.Test.YtjbloenjphpngaaGreatKx30
import Derived.Test.YtjbloenjphpngaaGreatKx31
import Derived.Test.YtjbloenjphpngaaGreatKx32
import Derived.Test.YtjbloenjphpngaaGreatKx22
import Derived.Test.YtjbloenjphpngaaGreatKx24
import Derived.Test.YtjbloenjphpngaaGreatKx28
import Derived.Test.YtjbloenjphpngaaGreatKx26
import Derived.Test.YtjbloenjphpngaaGreatKx5
namespace Go.Proofs.YtjbloenjphpngaaGreat
set_option linter.unusedVariables false
set_option linter.unusedSimpArgs false
open Go.RowKit
attribute [local go_sem ↓] Go.wp_at_zero Go.wp_at_succ
open Go.Deep

theorem dual_row {C : List (List Int)} {n k : Nat} (hk : k < n) : row (mkT n (dualF C)) k = invL (row C k) n := by
  refine ix_ext (by rw [row_mkT _ _ _ hk, length_partRow]; unfold invL; rw [length_listC]) fun y hy => ?_
  rw [row_mkT _ _ _ hk, length_partRow] at hy
  rw [ent_def, ent_mkT _ _ _ _ hk hy, ← dualF_def]
  unfold invL
  rw [ix_listC _ _ _ hy]

/-- a call of a Go function at a step of a region that draws its order -/
theorem step_call {P : Program} {w : World} {ops : Array Oper} {o : Oper} {a : Act} {K : Act → World → Prop} {Q : Exit → Act → World → Prop} {E : Prop} (hgd : o.guard = none) (F : FuncId) (args : Array Value) (hrun : (execOp a.eval o).run P w = .ok (.enter F args) w) {R : Value → World → Prop}
    (hc : Calls P F args w fun e w' => ∃ v, e = .returned v ∧ R v w') (h : ∀ v w', R v w' → K (a.put o.dst v) w') : if Region.wanted o (yielded ops a.tmps) = true then Oper.wp P o a w K Q else E := by
  rw [if_pos (by simp [Region.wanted, hgd])]
  unfold Oper.wp
  rw [hrun, Oper.upon_enter]
  refine hc.mono ?_
  rintro e w' ⟨v, rfl, hr⟩
  exact h v w' hr

set_option maxRecDepth 100000 in
set_option maxHeartbeats 4000000 in
theorem dualRack_any (C : List (List Int)) (v : Value) (w : World) (hv : Rows w v C) (hR : RackOk C) :
    Calls Tryz.prog 35 #[.agg #[v]] w fun e w' => ∃ b c, e = .returned (.agg #[.slice (some ⟨b, 0, none⟩) C.length c]) ∧ Rows w' (.slice (some ⟨b, 0, none⟩) C.length c) (mkT C.length (dualF C)) ∧ Ext w w' := by
  obtain ⟨hlen, b, o, c, rfl, hc⟩ := id hv
  have h12 := hR.tab.2.1
  have h1n := hR.tab.1
  have HT := Lib.hid hR.tab
  have HPM := Lib.hid (fun k (hk : k < C.length) => row_iso hR.tab hR.perm hk)
  have HLT := Lib.hid (length_mkT C.length (dualF C))
  have HRL := Lib.hid (fun k (hk : k < C.length) => show (row (mkT C.length (dualF C)) k).length = C.length by rw [row_mkT _ _ _ hk, length_partRow])
  have HDR := Lib.hid (fun k (hk : k < C.length) => dual_row (C := C) hk)
  have hX : Ext w (((w.alloc (.cells #[.slice (some ⟨b, o, none⟩) C.length c] 37)).alloc (.cells #[.slice none 0 0] 37)).alloc (.cells #[.slice none 0 0] 37)) := (((Ext.refl _).alloc _).alloc _).alloc _
  have r0 : (((w.alloc (.cells #[.slice (some ⟨b, o, none⟩) C.length c] 37)).alloc (.cells #[.slice none 0 0] 37)).alloc (.cells #[.slice none 0 0] 37)).cell? ⟨w.heap.size + 1, 0, none⟩ = some (.slice none 0 0) := by simp [go_sem]
  have q0 : (((w.alloc (.cells #[.slice (some ⟨b, o, none⟩) C.length c] 37)).alloc (.cells #[.slice none 0 0] 37)).alloc (.cells #[.slice none 0 0] 37)).frozen? ⟨w.heap.size + 1, 0, none⟩ = false := by simp [go_sem]
  have s0 : (((w.alloc (.cells #[.slice (some ⟨b, o, none⟩) C.length c] 37)).alloc (.cells #[.slice none 0 0] 37)).alloc (.cells #[.slice none 0 0] 37)).cell? ⟨w.heap.size + 1 + 1, 0, none⟩ = some (.slice none 0 0) := by simp [go_sem]
  have p0 : (((w.alloc (.cells #[.slice (some ⟨b, o, none⟩) C.length c] 37)).alloc (.cells #[.slice none 0 0] 37)).alloc (.cells #[.slice none 0 0] 37)).frozen? ⟨w.heap.size + 1 + 1, 0, none⟩ = false := by simp [go_sem]
  have zA : w.heap.size + 3 ≤ (((w.alloc (.cells #[.slice (some ⟨b, o, none⟩) C.length c] 37)).alloc (.cells #[.slice none 0 0] 37)).alloc (.cells #[.slice none 0 0] 37)).heap.size := by simp
  have HC := Lib.hid hc
  have gA := GrowP.nil 53 (((w.alloc (.cells #[.slice (some ⟨b, o, none⟩) C.length c] 37)).alloc (.cells #[.slice none 0 0] 37)).alloc (.cells #[.slice none 0 0] 37)).heap.size (((w.alloc (.cells #[.slice (some ⟨b, o, none⟩) C.length c] 37)).alloc (.cells #[.slice none 0 0] 37)).alloc (.cells #[.slice none 0 0] 37))
  clear hc hv
  go_enter Tryz.func35, Tryz.ntmps35
  go_wp2_with fail
  generalize (((w.alloc (.cells #[.slice (some ⟨b, o, none⟩) C.length c] 37)).alloc (.cells #[.slice none 0 0] 37)).alloc (.cells #[.slice none 0 0] 37)) = A at *
  obtain ⟨n, hn⟩ : ∃ n, n = C.length := ⟨_, rfl⟩
  rw [← hn] at h12 h1n HPM HLT HRL HDR ⊢
  have HN := Lib.hid hn
  clear hn hlen
  go_loopw [9] (fun x wr => ∃ k : Nat, k ≤ n ∧ x = .int .i64 k ∧ ∃ v, wr.cell? ⟨w.heap.size + 1 + 1, 0, none⟩ = some v ∧ GrowP 53 A.heap.size wr v ((mkT n (dualF C)).take k) ∧ wr.frozen? ⟨w.heap.size + 1 + 1, 0, none⟩ = false ∧ wr.cell? ⟨w.heap.size + 1, 0, none⟩ = some (.slice none 0 0) ∧ wr.frozen? ⟨w.heap.size + 1, 0, none⟩ = false ∧ Ext w wr ∧ A.heap.size ≤ wr.heap.size) (fun x _ => n - (intOf x).toNat)
  case atStart => exact ⟨0, Nat.zero_le _, rfl, _, s0, gA, p0, r0, q0, hX, Nat.le_refl _⟩
  case round =>
    clear s0 gA p0 r0 q0 hX
    obtain ⟨k, hk, rfl, v, bv, hg, qv, br, qr, hx, zr⟩ := hrel
    have HX := Lib.hid hx
    have HCR := Lib.hid (HC.out.ext hx)
    obtain ⟨sa, sc, rfl⟩ := hg.slice
    have htl : ((mkT n (dualF C)).take k).length = k := by rw [List.length_take, HLT.out]; omega
    rw [htl] at hg bv
    have HTL := Lib.hid htl
    clear htl hx
    by_cases hkl : k < n
    case neg =>
      have hki : ¬ (k : Int) < (n : Int) := by omega
      have hkk : k = n := by omega
      have htk : (mkT n (dualF C)).take k = (mkT n (dualF C)) := List.take_of_length_le (by rw [HLT.out]; omega)
      rw [htk] at hg
      have hnn : (Value.slice sa k sc) ≠ .slice none 0 0 := by
        intro e
        simp only [Value.slice.injEq] at e
        omega
      obtain ⟨xs, hown⟩ := hg.own
      obtain ⟨g, cap, hgE, -⟩ := ownsRow_parts hown hnn
      simp only [Value.slice.injEq] at hgE
      obtain ⟨hsa, -, -⟩ := hgE
      subst hsa
      have HRP := Lib.hid (by have := hg.rowsP (by rw [HLT.out]; omega) hnn; rw [hkk] at this; exact this.rows : Rows wr (.slice (some ⟨g, 0, none⟩) n sc) (mkT n (dualF C)))
      have hkn : n = k := hkk.symm
      subst hkn
      clear hg hown hnn htk hkk
      go_wp2
      exact bodyPost_ret (v := .agg #[.slice (some ⟨g, 0, none⟩) n sc]) (by simp [results, Tryz.results35, go_sem, br]) rfl (by rw [← HN.out]; exact ⟨g, sc, rfl, HRP.out.setNil br _, HX.out.setNew (by simp only []; omega) _⟩)
    case pos =>
      have hki : (k : Int) < (n : Int) := by omega
      obtain ⟨d1, s1, m1, r1, i1, n1⟩ := HCR.out.get (i := k) (by rw [← HN.out]; exact hkl)
      have hp := HPM.out k hkl
      rw [hp.1] at r1
      have HI := Lib.hid (show Ints wr (.slice (some ⟨d1, s1, none⟩) n m1) (row C k) from by have := i1.ints n1 m1; rwa [hp.1] at this)
      have HP := Lib.hid hp
      have HG := Lib.hid hg
      have HO := Lib.hid hg.lt
      have HIL := Lib.hid (show (invL (row C k) n).length = n by unfold invL; rw [length_listC])
      obtain ⟨w2, hw2⟩ : ∃ z : World, z = wr := ⟨_, rfl⟩
      clear hp i1 n1 hg
      go_wp2_with fail
      have zd : wr.drew.heap.size = wr.heap.size := rfl
      have HL4 := Lib.hid (show ((mkT n (dualF C)).take k ++ [invL (row C k) n]).length = k + 1 by rw [List.length_append, HTL.out]; rfl)
      have HINV := Lib.hid (fun W (h : Ext wr W) => show Calls Tryz.prog 61 #[.slice (some ⟨d1, s1, none⟩) n m1] W fun e w' => ∃ v, e = .returned v ∧ ∃ b c, v = .slice (some ⟨b, 0, none⟩) n c ∧ OwnI W.heap.size w'.heap.size w' b 0 (invL (row C k) n) ∧ Ext W w' from (inverse_any n (row C k) _ _ (HI.out.ext h) HP.out h12).mono fun e w' ⟨b, c, h1, h2, h3⟩ => ⟨_, h1, b, c, rfl, h2, h3⟩)
      go_region_law (first
        | (refine step_append_row_p (by rfl) _ _ 24 53 (by rfl) Tryz.underlying24 infoSl (by rfl) A.heap.size _ _ (by rfl) HG.out (by (repeat first | (with_reducible exact Ext.refl _) | (with_reducible assumption) | (with_reducible apply Ext.drew) | (with_reducible apply kx_drewN) | (with_reducible apply kx_alloc) | ((with_reducible refine kx_set ?_ ?_); (first | (simp only []; omega) | (simp; omega) | (focus (simp; done)))) | (with_reducible refine Ext.trans ?_ hx3) )) _ _ _ (invL (row C k) n) (by rfl) (by rw [HIL.out]; (repeat first | (with_reducible assumption) |  (with_reducible exact kc_new) | ((with_reducible refine kc_newE ?_); (simp; done)) | ((with_reducible refine kc_newEa ?_); (simp; done)) | ((with_reducible refine kc_newEb ?_); (simp; done)) | (with_reducible apply kc_alloc) | (with_reducible apply kc_drewN) | (with_reducible apply kc_drew) | ((with_reducible refine kc_set ?_ ?_); (first | (simp only []; omega) | (simp; omega) | (focus (simp; done)))) | ((with_reducible refine kc_set2 ?_ ?_); (focus (simp; done))) | (with_reducible refine kc_same (v := .slice none 0 0) ?_))) (ho3.2.2.1.ext (by (repeat first | (with_reducible exact Ext.refl _) | (with_reducible assumption) | (with_reducible apply Ext.drew) | (with_reducible apply kx_drewN) | (with_reducible apply kx_alloc) | ((with_reducible refine kx_set ?_ ?_); (first | (simp only []; omega) | (simp; omega) | (focus (simp; done)))) ))) (by rw [HIL.out]; omega) (Nat.le_trans (Ext.size (by (repeat first | (with_reducible exact Ext.refl _) | (with_reducible assumption) | (with_reducible apply Ext.drew) | (with_reducible apply kx_drewN) | (with_reducible apply kx_alloc) | ((with_reducible refine kx_set ?_ ?_); (first | (simp only []; omega) | (simp; omega) | (focus (simp; done)))) ))) ho3.1) (by rw [HTL.out]; omega) zr ?_; intro v' w4 hg4 hgr4 hv4 hat4; obtain ⟨a4, c4, rfl⟩ := hg4.slice; rw [HL4.out] at hg4 ⊢; have bv4 : w4.cell? ⟨w.heap.size + 1 + 1, 0, none⟩ = some (.slice sa k sc) := (by rw [hgr4.cell_far _ (by first | (simp; omega) | (simp only []; omega)) (by intro e; have := HO.out _ e.symm; simp only [] at this; omega)]; (repeat first | (with_reducible assumption) | (with_reducible refine Ext.cell hx3 ?_) |  (with_reducible exact kc_new) | ((with_reducible refine kc_newE ?_); (simp; done)) | ((with_reducible refine kc_newEa ?_); (simp; done)) | ((with_reducible refine kc_newEb ?_); (simp; done)) | (with_reducible apply kc_alloc) | (with_reducible apply kc_drewN) | (with_reducible apply kc_drew) | ((with_reducible refine kc_set ?_ ?_); (first | (simp only []; omega) | (simp; omega) | (focus (simp; done)))) | ((with_reducible refine kc_set2 ?_ ?_); (focus (simp; done))) | (with_reducible refine kc_same (v := .slice none 0 0) ?_))); have qv4 : w4.frozen? ⟨w.heap.size + 1 + 1, 0, none⟩ = false := (by rw [hgr4.frozen_far _ (by first | (simp; omega) | (simp only []; omega)) (by intro e; have := HO.out _ e.symm; simp only [] at this; omega)]; (repeat first | (with_reducible assumption) | ((with_reducible refine Ext.free hx3 ?_ ?_); rotate_left; (first | (simp only []; omega) | (simp; omega)); rotate_left)  | (with_reducible apply kf_drew) | (with_reducible apply kf_drewN) | (with_reducible apply kf_set) | ((with_reducible refine kf_alloc ?_ ?_); (first | (simp only []; omega) | (simp; omega))))); have br4 : w4.cell? ⟨w.heap.size + 1, 0, none⟩ = some (.slice none 0 0) := (by rw [hgr4.cell_far _ (by first | (simp; omega) | (simp only []; omega)) (by intro e; have := HO.out _ e.symm; simp only [] at this; omega)]; (repeat first | (with_reducible assumption) | (with_reducible refine Ext.cell hx3 ?_) |  (with_reducible exact kc_new) | ((with_reducible refine kc_newE ?_); (simp; done)) | ((with_reducible refine kc_newEa ?_); (simp; done)) | ((with_reducible refine kc_newEb ?_); (simp; done)) | (with_reducible apply kc_alloc) | (with_reducible apply kc_drewN) | (with_reducible apply kc_drew) | ((with_reducible refine kc_set ?_ ?_); (first | (simp only []; omega) | (simp; omega) | (focus (simp; done)))) | ((with_reducible refine kc_set2 ?_ ?_); (focus (simp; done))) | (with_reducible refine kc_same (v := .slice none 0 0) ?_))); have qr4 : w4.frozen? ⟨w.heap.size + 1, 0, none⟩ = false := (by rw [hgr4.frozen_far _ (by first | (simp; omega) | (simp only []; omega)) (by intro e; have := HO.out _ e.symm; simp only [] at this; omega)]; (repeat first | (with_reducible assumption) | ((with_reducible refine Ext.free hx3 ?_ ?_); rotate_left; (first | (simp only []; omega) | (simp; omega)); rotate_left)  | (with_reducible apply kf_drew) | (with_reducible apply kf_drewN) | (with_reducible apply kf_set) | ((with_reducible refine kf_alloc ?_ ?_); (first | (simp only []; omega) | (simp; omega))))); have hx4 : Ext w w4 := ext_grownBy (HX.out.trans (by (repeat first | (with_reducible exact Ext.refl _) | (with_reducible assumption) | (with_reducible apply Ext.drew) | (with_reducible apply kx_drewN) | (with_reducible apply kx_alloc) | ((with_reducible refine kx_set ?_ ?_); (first | (simp only []; omega) | (simp; omega) | (focus (simp; done)))) | (with_reducible refine Ext.trans ?_ hx3) ))) hgr4 (fun q e => by have := (HO.out q e).1; omega); have z4 : A.heap.size ≤ w4.heap.size := Nat.le_trans (Nat.le_trans zr (Ext.size (by (repeat first | (with_reducible exact Ext.refl _) | (with_reducible assumption) | (with_reducible apply Ext.drew) | (with_reducible apply kx_drewN) | (with_reducible apply kx_alloc) | ((with_reducible refine kx_set ?_ ?_); (first | (simp only []; omega) | (simp; omega) | (focus (simp; done)))) | (with_reducible refine Ext.trans ?_ hx3) )))) hgr4.size)
        | (refine step_call (by rfl) 61 _ (by kernel_rfl) (HINV.out _ (by (repeat first | (with_reducible exact Ext.refl _) | (with_reducible assumption) | (with_reducible apply Ext.drew) | (with_reducible apply kx_drewN) | (with_reducible apply kx_alloc) | ((with_reducible refine kx_set ?_ ?_); (first | (simp only []; omega) | (simp; omega) | (focus (simp; done)))) ))) ?_; rintro _ w3 ⟨b3, c3, rfl, ho3, hx3⟩; have z3 : wr.heap.size ≤ w3.heap.size := hx3.size; have bv3 := hx3.cell (show wr.drew.cell? _ = some _ from bv); have qv3 := hx3.free (show wr.drew.frozen? _ = false from qv) (by simp only []; omega); have bv3a := (ext_box w3 (.slice (some ⟨b3, 0, none⟩) n c3) 53).cell bv3; have qv3a := (ext_box w3 (.slice (some ⟨b3, 0, none⟩) n c3) 53).free qv3 (by simp only []; omega)))
      all_goals
        go_wp2
        go_roundw
        case rel => exact ⟨k + 1, by omega, by go_num, _, World.cell?_setCell_same _ _ _ bv4, by rw [take_row _ _ (by rw [HLT.out]; exact hkl), HDR.out k hkl]; exact hg4.setSl bv4 (by simp only []; omega) _, by rw [World.frozen?_setCell]; exact qv4, kc_set (by simp only []; omega) br4, by rw [World.frozen?_setCell]; exact qr4, hx4.setNew (by simp only []; omega) _, by simp; exact z4⟩
        case measure => simp [intOf]; omega

set_option maxRecDepth 100000 in
set_option maxHeartbeats 1000000 in
theorem DualRack_ok (C : List (List Int)) (v : Value) (w : World) (hv : Rows w v C) (hR : RackOk C) :
    Calls Tryz.prog 14 #[.agg #[v]] w (RetGN (mkT C.length (dualF C)) C.length w) := by
  obtain ⟨-, b, o, c, rfl, -⟩ := id hv
  have hX : Ext w ((w.alloc (.cells #[.slice (some ⟨b, o, none⟩) C.length c] 37)).alloc (.cells #[.slice none 0 0] 37)) := ((Ext.refl _).alloc _).alloc _
  have k0 : ((w.alloc (.cells #[.slice (some ⟨b, o, none⟩) C.length c] 37)).alloc (.cells #[.slice none 0 0] 37)).cell? ⟨w.heap.size, 0, none⟩ = some (.slice (some ⟨b, o, none⟩) C.length c) := by simp [go_sem]
  have r0 : ((w.alloc (.cells #[.slice (some ⟨b, o, none⟩) C.length c] 37)).alloc (.cells #[.slice none 0 0] 37)).cell? ⟨w.heap.size + 1, 0, none⟩ = some (.slice none 0 0) := by simp [go_sem]
  have q0 : ((w.alloc (.cells #[.slice (some ⟨b, o, none⟩) C.length c] 37)).alloc (.cells #[.slice none 0 0] 37)).frozen? ⟨w.heap.size + 1, 0, none⟩ = false := by simp [go_sem]
  have zA : w.heap.size + 2 ≤ ((w.alloc (.cells #[.slice (some ⟨b, o, none⟩) C.length c] 37)).alloc (.cells #[.slice none 0 0] 37)).heap.size := by simp
  have HV := Lib.hid hv
  clear hv
  go_enter Tryz.func14, Tryz.ntmps14
  go_wp2_with fail
  generalize ((w.alloc (.cells #[.slice (some ⟨b, o, none⟩) C.length c] 37)).alloc (.cells #[.slice none 0 0] 37)) = A at *
  refine (IsRack_ok C _ _ (HV.out.ext hX) hR).mono ?_
  rintro e w2 ⟨rfl, hx⟩
  replace k0 := hx.cell k0
  replace r0 := hx.cell r0
  replace q0 := hx.free q0 (by simp only []; omega)
  replace hX := hX.trans hx
  replace zA := Nat.le_trans zA hx.size
  clear hx
  go_wp2_with fail
  refine (dualRack_any C _ _ (HV.out.ext hX) hR).mono ?_
  rintro e w3 ⟨b1, c1, rfl, hr, hx⟩
  replace r0 := hx.cell r0
  replace q0 := hx.free q0 (by simp only []; omega)
  replace hX := hX.trans hx
  clear hx
  go_wp2
  exact bodyPost_ret (v := .tuple #[.agg #[.slice (some ⟨b1, 0, none⟩) C.length c1], .int .i64 0]) (by simp [results, Tryz.results14, go_sem, r0]) rfl ⟨b1, c1, rfl, hr.setNil r0 _, hX.setNew (by simp only []; omega) _⟩
end Go.Proofs.YtjbloenjphpngaaGreat

/-
  Contract of the program's InverseSolution, at solutions.
-/
namespace Go.Proofs.YtjbloenjphpngaaGreat
set_option linter.unusedVariables false
set_option linter.unusedSimpArgs false
open Go.RowKit
attribute [local go_sem ↓] Go.wp_at_zero Go.wp_at_succ
open Go.Deep

/-- a solution and no error; its tables lead the pairs back -/
def RetInv (L S : List (List Int)) (w : World) (e : Ending) (w' : World) : Prop := ∃ b c b2 c2 T U, e = .returned (.tuple #[.agg #[.slice (some ⟨b, 0, none⟩) L.length c, .slice (some ⟨b2, 0, none⟩) L.length c2], .int .i64 0]) ∧ RowsR w' (.slice (some ⟨b, 0, none⟩) L.length c) T ∧ RowsR w' (.slice (some ⟨b2, 0, none⟩) L.length c2) U ∧ InvTo L S L.length 0 T U ∧ Ext w w'

/-- a variable with two tables, all in new memory, apart from each other -/
structure TwoT (base B lo hi lo2 hi2 bA cA bB cB n : Nat) (W : World) (T U : List (List Int)) : Prop where
  c : BoxC B W (.slice (some ⟨bA, 0, none⟩) n cA) (.slice (some ⟨bB, 0, none⟩) n cB)
  o1 : OwnT lo hi W bA 0 T
  o2 : OwnT lo2 hi2 W bB 0 U
  l1 : base ≤ lo
  l2 : base ≤ lo2
  l3 : base ≤ B
  e1 : B < lo ∨ hi ≤ B
  e2 : B < lo2 ∨ hi2 ≤ B
  d : hi ≤ lo2 ∨ hi2 ≤ lo

theorem BoxC.setOther {B : Nat} {W : World} {v y : Value} (h : BoxC B W v y) {a : Addr} (ha : a.block ≠ B) (u : Value) : BoxC B (W.setCell a u) v y :=
  h.keep (Below.heap_setCell _ _ _ _ (fun e => ha e.symm))

theorem TwoT.drew {base B lo hi lo2 hi2 bA cA bB cB n : Nat} {W : World} {T U : List (List Int)} (h : TwoT base B lo hi lo2 hi2 bA cA bB cB n W T U) : TwoT base B lo hi lo2 hi2 bA cA bB cB n W.drew T U :=
  ⟨h.c.keep rfl, h.o1.keep (fun _ _ _ => rfl), h.o2.keep (fun _ _ _ => rfl), h.l1, h.l2, h.l3, h.e1, h.e2, h.d⟩

theorem TwoT.put1 {base B lo hi lo2 hi2 bA cA bB cB n : Nat} {W : World} {T U : List (List Int)} (h : TwoT base B lo hi lo2 hi2 bA cA bB cB n W T U) {k j b1 o1 n1 c1 : Nat} (hk : k < T.length) (hj : j < (row T k).length) (hc : W.cell? ⟨bA, 0 + k, none⟩ = some (.slice (some ⟨b1, o1, none⟩) n1 c1)) (hb : lo ≤ b1) (hb2 : b1 < hi) (x : Int) : TwoT base B lo hi lo2 hi2 bA cA bB cB n (W.setCell ⟨b1, o1 + j, none⟩ (.int .i64 x)) (setE T k j x) U :=
  ⟨h.c.setOther (by have := h.e1; simp only []; omega) _, h.o1.put hk hj hc x, h.o2.setOther (by have := h.d; simp only []; omega) _, h.l1, h.l2, h.l3, h.e1, h.e2, h.d⟩

theorem TwoT.put2 {base B lo hi lo2 hi2 bA cA bB cB n : Nat} {W : World} {T U : List (List Int)} (h : TwoT base B lo hi lo2 hi2 bA cA bB cB n W T U) {k j b1 o1 n1 c1 : Nat} (hk : k < U.length) (hj : j < (row U k).length) (hc : W.cell? ⟨bB, 0 + k, none⟩ = some (.slice (some ⟨b1, o1, none⟩) n1 c1)) (hb : lo2 ≤ b1) (hb2 : b1 < hi2) (x : Int) : TwoT base B lo hi lo2 hi2 bA cA bB cB n (W.setCell ⟨b1, o1 + j, none⟩ (.int .i64 x)) T (setE U k j x) :=
  ⟨h.c.setOther (by have := h.e2; simp only []; omega) _, h.o1.setOther (by have := h.d; simp only []; omega) _, h.o2.put hk hj hc x, h.l1, h.l2, h.l3, h.e1, h.e2, h.d⟩

theorem boxSet {W : World} {B : Nat} (h : BoxB B W) (u v : Value) : BoxC B ((W.setCell ⟨B, 0, none⟩ u).setCell ⟨B, 1, none⟩ v) u v :=
  ⟨kc_set2 (by simp) (kc_same h.1), kc_same (kc_set2 (by simp) h.2.1), kf_set (kf_set h.2.2.1), kf_set (kf_set h.2.2.2)⟩

theorem boxAfter {w w' : World} {T : TypeId} (h : Ext (w.alloc (.cells #[.slice none 0 0, .slice none 0 0] T)) w') : BoxB w.heap.size w' := (BoxB.new w T).ext h (by simp)

theorem boxAfter3 {w w' : World} {T : TypeId} (h : Ext (w.alloc (.cells #[.slice none 0 0, .slice none 0 0] T)).drew w') : BoxB w.heap.size w' ∧ w.heap.size < w'.heap.size := ⟨((BoxB.new w T).ext ((Ext.refl _).drew) (by simp)).ext h (by simp), Nat.lt_of_succ_le (by have := h.size; simpa using this)⟩

theorem boxKeep {w w' : World} {B : Nat} (n : BoxB B w ∧ B < w.heap.size) (h : Ext w w') : BoxB B w' := n.1.ext h n.2

theorem two_c1 {w1 wA wB : World} {T : TypeId} {bA cA bB cB n : Nat} {L S : List (List Int)} (hxA : Ext (w1.alloc (.cells #[.slice none 0 0, .slice none 0 0] T)).drew wA) (hxB : Ext wA wB) (hrA : OwnT (w1.alloc (.cells #[.slice none 0 0, .slice none 0 0] T)).drew.heap.size wA.heap.size wA bA 0 L) (hrB : OwnT wA.heap.size wB.heap.size wB bB 0 S) :
    ∃ lo hi lo2 hi2, TwoT w1.heap.size w1.heap.size lo hi lo2 hi2 bA cA bB cB n ((wB.setCell ⟨w1.heap.size, 0, none⟩ (.slice (some ⟨bA, 0, none⟩) n cA)).setCell ⟨w1.heap.size, 1, none⟩ (.slice (some ⟨bB, 0, none⟩) n cB)) L S ∧ Ext w1 ((wB.setCell ⟨w1.heap.size, 0, none⟩ (.slice (some ⟨bA, 0, none⟩) n cA)).setCell ⟨w1.heap.size, 1, none⟩ (.slice (some ⟨bB, 0, none⟩) n cB)) := by
  have nA := boxAfter3 hxA
  have zB := hxB.size
  have h1 := (hrA.ext hxB (Nat.le_refl _)).mono (lo' := w1.heap.size + 1) (by simp) (Nat.le_refl _)
  refine ⟨w1.heap.size + 1, wA.heap.size, wA.heap.size, wB.heap.size, ⟨boxSet (boxKeep nA hxB) _ _, (h1.setOther (.inl (by simp only []; omega)) _).setOther (.inl (by simp only []; omega)) _, (hrB.setOther (.inl (by simp only []; omega)) _).setOther (.inl (by simp only []; omega)) _, by omega, by omega, by omega, by omega, by omega, by omega⟩, ?_⟩
  exact kx_set (Nat.le_refl _) (kx_set (Nat.le_refl _) (((((Ext.refl w1).alloc _).drew).trans hxA).trans hxB))

theorem two_c2 {w1 wA wB : World} {T : TypeId} {bA cA bB cB n : Nat} {L S : List (List Int)} (hxA : Ext w1.drew wA) (hxB : Ext (wA.alloc (.cells #[.slice none 0 0, .slice none 0 0] T)) wB) (hrA : OwnT w1.drew.heap.size wA.heap.size wA bA 0 L) (hrB : OwnT (wA.alloc (.cells #[.slice none 0 0, .slice none 0 0] T)).heap.size wB.heap.size wB bB 0 S) :
    ∃ lo hi lo2 hi2, TwoT w1.heap.size wA.heap.size lo hi lo2 hi2 bA cA bB cB n ((wB.setCell ⟨wA.heap.size, 0, none⟩ (.slice (some ⟨bA, 0, none⟩) n cA)).setCell ⟨wA.heap.size, 1, none⟩ (.slice (some ⟨bB, 0, none⟩) n cB)) L S ∧ Ext w1 ((wB.setCell ⟨wA.heap.size, 0, none⟩ (.slice (some ⟨bA, 0, none⟩) n cA)).setCell ⟨wA.heap.size, 1, none⟩ (.slice (some ⟨bB, 0, none⟩) n cB)) := by
  have zA : w1.heap.size ≤ wA.heap.size := hxA.size
  have hx : Ext wA wB := ((Ext.refl wA).alloc _).trans hxB
  have h1 : OwnT w1.heap.size wA.heap.size wB bA 0 L := hrA.ext hx (Nat.le_refl _)
  have h2 := hrB.mono (lo' := wA.heap.size + 1) (by simp) (Nat.le_refl _)
  refine ⟨w1.heap.size, wA.heap.size, wA.heap.size + 1, wB.heap.size, ⟨boxSet (boxAfter hxB) _ _, (h1.setOther (.inr (by simp only []; omega)) _).setOther (.inr (by simp only []; omega)) _, (h2.setOther (.inl (by simp only []; omega)) _).setOther (.inl (by simp only []; omega)) _, by omega, by omega, by omega, by omega, by omega, by omega⟩, ?_⟩
  exact kx_set zA (kx_set zA ((((Ext.refl w1).drew).trans hxA).trans hx))

theorem two_c3 {w1 wA wB : World} {T : TypeId} {bA cA bB cB n : Nat} {L S : List (List Int)} (hxA : Ext w1.drew wA) (hxB : Ext wA wB) (hrA : OwnT w1.drew.heap.size wA.heap.size wA bA 0 L) (hrB : OwnT wA.heap.size wB.heap.size wB bB 0 S) :
    ∃ lo hi lo2 hi2, TwoT w1.heap.size wB.heap.size lo hi lo2 hi2 bA cA bB cB n (wB.alloc (.cells #[.slice (some ⟨bA, 0, none⟩) n cA, .slice (some ⟨bB, 0, none⟩) n cB] T)) L S ∧ Ext w1 (wB.alloc (.cells #[.slice (some ⟨bA, 0, none⟩) n cA, .slice (some ⟨bB, 0, none⟩) n cB] T)) := by
  have zA : w1.heap.size ≤ wA.heap.size := hxA.size
  have zB := hxB.size
  have h1 : OwnT w1.heap.size wA.heap.size wB bA 0 L := hrA.ext hxB (Nat.le_refl _)
  refine ⟨w1.heap.size, wA.heap.size, wA.heap.size, wB.heap.size, ⟨BoxC.new wB _ _ T, h1.ext ((Ext.refl _).alloc _) (by omega), hrB.ext ((Ext.refl _).alloc _) (Nat.le_refl _), by omega, by omega, by omega, by omega, by omega, by omega⟩, ?_⟩
  exact ((((Ext.refl w1).drew).trans hxA).trans hxB).alloc _

theorem inv_small {L S T U : List (List Int)} {x y : Nat} (h : InvTo L S x y T U) (h12 : L.length ≤ 12) : Small T ∧ Small U := by
  refine ⟨⟨by rw [h.len1]; omega, fun i => ?_⟩, ⟨by rw [h.len2]; omega, fun i => ?_⟩⟩
  · by_cases hi : i < L.length
    · rw [h.rows1 i hi]; omega
    · rw [row_eq]; simp [List.getD, List.getElem?_eq_none (show T.length ≤ i by rw [h.len1]; omega)]
  · by_cases hi : i < L.length
    · rw [h.rows2 i hi]; omega
    · rw [row_eq]; simp [List.getD, List.getElem?_eq_none (show U.length ≤ i by rw [h.len2]; omega)]

theorem TwoT.rows1 {base B lo hi lo2 hi2 bA cA bB cB n : Nat} {W : World} {T U L S : List (List Int)} {x y : Nat} (h : TwoT base B lo hi lo2 hi2 bA cA bB cB n W T U) (hI : InvTo L S x y T U) (h12 : L.length ≤ 12) {p : Nat} (hp : p < base) (u v : Value) : RowsR ((W.setCell ⟨p, 0, none⟩ u).setCell ⟨p, 1, none⟩ v) (.slice (some ⟨bA, 0, none⟩) L.length cA) T :=
  (((h.o1.setOther (.inl (by have := h.l1; simp only []; omega)) u).setOther (.inl (by have := h.l1; simp only []; omega)) v).rowsN (inv_small hI h12).1 hI.len1).toR

theorem TwoT.rows2 {base B lo hi lo2 hi2 bA cA bB cB n : Nat} {W : World} {T U L S : List (List Int)} {x y : Nat} (h : TwoT base B lo hi lo2 hi2 bA cA bB cB n W T U) (hI : InvTo L S x y T U) (h12 : L.length ≤ 12) {p : Nat} (hp : p < base) (u v : Value) : RowsR ((W.setCell ⟨p, 0, none⟩ u).setCell ⟨p, 1, none⟩ v) (.slice (some ⟨bB, 0, none⟩) L.length cB) U :=
  (((h.o2.setOther (.inl (by have := h.l2; simp only []; omega)) u).setOther (.inl (by have := h.l2; simp only []; omega)) v).rowsN (inv_small hI h12).2 hI.len2).toR

set_option maxRecDepth 100000 in
set_option maxHeartbeats 8000000 in
theorem InverseSolution_ok (L S : List (List Int)) (v y : Value) (w : World) (hv : Rows w v L) (hy : Rows w y S) (hO : SolOk L S) :
    Calls Tryz.prog 16 #[.agg #[v, y]] w (RetInv L S w) := by
  obtain ⟨-, b, o, c, rfl, hvc⟩ := id hv
  obtain ⟨-, b2, o2, c2, rfl, hyc⟩ := id hy
  have hlen := hO.len
  have h12 := hO.l.2.1
  rw [hlen] at hy ⊢
  have hX : Ext w ((w.alloc (.cells #[.slice (some ⟨b, o, none⟩) L.length c, .slice (some ⟨b2, o2, none⟩) L.length c2] 29)).alloc (.cells #[.slice none 0 0, .slice none 0 0] 29)) := ((Ext.refl _).alloc _).alloc _
  have k0 : ((w.alloc (.cells #[.slice (some ⟨b, o, none⟩) L.length c, .slice (some ⟨b2, o2, none⟩) L.length c2] 29)).alloc (.cells #[.slice none 0 0, .slice none 0 0] 29)).cell? ⟨w.heap.size, 0, none⟩ = some (.slice (some ⟨b, o, none⟩) L.length c) := by simp [go_sem]
  have k1 : ((w.alloc (.cells #[.slice (some ⟨b, o, none⟩) L.length c, .slice (some ⟨b2, o2, none⟩) L.length c2] 29)).alloc (.cells #[.slice none 0 0, .slice none 0 0] 29)).cell? ⟨w.heap.size, 1, none⟩ = some (.slice (some ⟨b2, o2, none⟩) L.length c2) := by simp [go_sem]
  have r0 : ((w.alloc (.cells #[.slice (some ⟨b, o, none⟩) L.length c, .slice (some ⟨b2, o2, none⟩) L.length c2] 29)).alloc (.cells #[.slice none 0 0, .slice none 0 0] 29)).cell? ⟨w.heap.size + 1, 0, none⟩ = some (.slice none 0 0) := by simp [go_sem]
  have r1 : ((w.alloc (.cells #[.slice (some ⟨b, o, none⟩) L.length c, .slice (some ⟨b2, o2, none⟩) L.length c2] 29)).alloc (.cells #[.slice none 0 0, .slice none 0 0] 29)).cell? ⟨w.heap.size + 1, 1, none⟩ = some (.slice none 0 0) := by simp [go_sem]
  have q0 : ((w.alloc (.cells #[.slice (some ⟨b, o, none⟩) L.length c, .slice (some ⟨b2, o2, none⟩) L.length c2] 29)).alloc (.cells #[.slice none 0 0, .slice none 0 0] 29)).frozen? ⟨w.heap.size + 1, 0, none⟩ = false := by simp [go_sem]
  have q1 : ((w.alloc (.cells #[.slice (some ⟨b, o, none⟩) L.length c, .slice (some ⟨b2, o2, none⟩) L.length c2] 29)).alloc (.cells #[.slice none 0 0, .slice none 0 0] 29)).frozen? ⟨w.heap.size + 1, 1, none⟩ = false := by simp [go_sem]
  have zA : w.heap.size + 2 ≤ ((w.alloc (.cells #[.slice (some ⟨b, o, none⟩) L.length c, .slice (some ⟨b2, o2, none⟩) L.length c2] 29)).alloc (.cells #[.slice none 0 0, .slice none 0 0] 29)).heap.size := by simp
  have HV := Lib.hid hv
  have HY := Lib.hid hy
  have HO := Lib.hid hO
  have HVC := Lib.hid hvc
  have HYC := Lib.hid hyc
  clear hv hy hvc hyc hO
  go_enter Tryz.func16, Tryz.ntmps16
  go_wp2_with fail
  generalize ((w.alloc (.cells #[.slice (some ⟨b, o, none⟩) L.length c, .slice (some ⟨b2, o2, none⟩) L.length c2] 29)).alloc (.cells #[.slice none 0 0, .slice none 0 0] 29)) = A at *
  refine (IsSolution_ok L S _ _ _ (HV.out.ext hX) (HY.out.ext hX) HO.out).mono ?_
  rintro e w1 ⟨rfl, hx⟩
  replace k0 := hx.cell k0
  replace k1 := hx.cell k1
  replace r0 := hx.cell r0
  replace r1 := hx.cell r1
  replace q0 := hx.free q0 (by simp only []; omega)
  replace q1 := hx.free q1 (by simp only []; omega)
  replace zA := Nat.le_trans zA hx.size
  replace hX := hX.trans hx
  clear hx
  have HV := Lib.hid (HV.out.ext hX)
  have HY := Lib.hid (HY.out.ext hX)
  have HXX := Lib.hid hX
  have HVC := Lib.hid (HVC.out.ext hX)
  have HYC := Lib.hid (HYC.out.ext hX)
  have hE : Ext w1 w1 := Ext.refl w1
  have zd : w1.drew.heap.size = w1.heap.size := rfl
  go_upto_region 3 with fail
  go_cut [4] (fun v wx => ∃ B lo hi lo2 hi2 bA cA bB cB, v = .pointer (some ⟨B, 0, none⟩) ∧ TwoT w1.heap.size B lo hi lo2 hi2 bA cA bB cB L.length wx L S ∧ Ext w1 wx)
  case first =>
    have z0 := kc_alloc (o := .cells #[.slice none 0 0, .slice none 0 0] 29) (show w1.drew.cell? _ = some _ from k0)
    have z1 := kc_alloc (o := .cells #[.slice none 0 0, .slice none 0 0] 29) (show w1.drew.cell? _ = some _ from k1)
    have y0 := kc_alloc (o := .cells #[.slice none 0 0, .slice none 0 0] 29) k0
    have y1 := kc_alloc (o := .cells #[.slice none 0 0, .slice none 0 0] 29) k1
    go_region_with (first
      | (go_at_call 36; refine Calls.mono (cloneTable_any L _ _ ?_) ?_; (with_reducible refine Rows.ext HV.out ?_); ((repeat first | (with_reducible exact Ext.refl _) | (with_reducible assumption) | (with_reducible apply Ext.drew) | (with_reducible apply kx_drewN) | (with_reducible apply kx_alloc) | ((with_reducible refine kx_set ?_ ?_); (first | (simp only []; omega) | (simp; omega) | (focus (simp; done)))) | (with_reducible refine Ext.trans ?_ hxB) )); rintro e wA ⟨bA, cA, rfl, hrA, hxA⟩; replace k0 := hxA.cell (p := ⟨w.heap.size, 0, none⟩) (v := .slice (some ⟨b, o, none⟩) L.length c) (by (repeat first | (with_reducible assumption) |  (with_reducible exact kc_new) | ((with_reducible refine kc_newE ?_); (simp; done)) | ((with_reducible refine kc_newEa ?_); (simp; done)) | ((with_reducible refine kc_newEb ?_); (simp; done)) | (with_reducible apply kc_alloc) | (with_reducible apply kc_drewN) | (with_reducible apply kc_drew) | ((with_reducible refine kc_set ?_ ?_); (first | (simp only []; omega) | (simp; omega) | (focus (simp; done)))) | ((with_reducible refine kc_set2 ?_ ?_); (focus (simp; done))) | (with_reducible refine kc_same (v := .slice none 0 0) ?_))); replace k1 := hxA.cell (p := ⟨w.heap.size, 1, none⟩) (v := .slice (some ⟨b2, o2, none⟩) L.length c2) (by (repeat first | (with_reducible assumption) |  (with_reducible exact kc_new) | ((with_reducible refine kc_newE ?_); (simp; done)) | ((with_reducible refine kc_newEa ?_); (simp; done)) | ((with_reducible refine kc_newEb ?_); (simp; done)) | (with_reducible apply kc_alloc) | (with_reducible apply kc_drewN) | (with_reducible apply kc_drew) | ((with_reducible refine kc_set ?_ ?_); (first | (simp only []; omega) | (simp; omega) | (focus (simp; done)))) | ((with_reducible refine kc_set2 ?_ ?_); (focus (simp; done))) | (with_reducible refine kc_same (v := .slice none 0 0) ?_))); have a0 := kc_alloc (o := .cells #[.slice none 0 0, .slice none 0 0] 29) k0; have a1 := kc_alloc (o := .cells #[.slice none 0 0, .slice none 0 0] 29) k1; try (have nA := boxAfter3 hxA))
      | (go_at_call 36; refine Calls.mono (cloneTable_any S _ _ ?_) ?_; (with_reducible refine Rows.ext HY.out ?_); ((repeat first | (with_reducible exact Ext.refl _) | (with_reducible assumption) | (with_reducible apply Ext.drew) | (with_reducible apply kx_drewN) | (with_reducible apply kx_alloc) | ((with_reducible refine kx_set ?_ ?_); (first | (simp only []; omega) | (simp; omega) | (focus (simp; done)))) | (with_reducible refine Ext.trans ?_ hxA) )); rintro e wB ⟨bB, cB, rfl, hrB, hxB⟩; replace k0 := hxB.cell (p := ⟨w.heap.size, 0, none⟩) (v := .slice (some ⟨b, o, none⟩) L.length c) (by (repeat first | (with_reducible assumption) |  (with_reducible exact kc_new) | ((with_reducible refine kc_newE ?_); (simp; done)) | ((with_reducible refine kc_newEa ?_); (simp; done)) | ((with_reducible refine kc_newEb ?_); (simp; done)) | (with_reducible apply kc_alloc) | (with_reducible apply kc_drewN) | (with_reducible apply kc_drew) | ((with_reducible refine kc_set ?_ ?_); (first | (simp only []; omega) | (simp; omega) | (focus (simp; done)))) | ((with_reducible refine kc_set2 ?_ ?_); (focus (simp; done))) | (with_reducible refine kc_same (v := .slice none 0 0) ?_))); replace k1 := hxB.cell (p := ⟨w.heap.size, 1, none⟩) (v := .slice (some ⟨b2, o2, none⟩) L.length c2) (by (repeat first | (with_reducible assumption) |  (with_reducible exact kc_new) | ((with_reducible refine kc_newE ?_); (simp; done)) | ((with_reducible refine kc_newEa ?_); (simp; done)) | ((with_reducible refine kc_newEb ?_); (simp; done)) | (with_reducible apply kc_alloc) | (with_reducible apply kc_drewN) | (with_reducible apply kc_drew) | ((with_reducible refine kc_set ?_ ?_); (first | (simp only []; omega) | (simp; omega) | (focus (simp; done)))) | ((with_reducible refine kc_set2 ?_ ?_); (focus (simp; done))) | (with_reducible refine kc_same (v := .slice none 0 0) ?_))); try (first | (have nb := boxAfter hxB; obtain ⟨n0, n1, m0, m1⟩ := nb) | (have nb := boxKeep nA hxB; obtain ⟨n0, n1, m0, m1⟩ := nb))))
    all_goals
      have HLS := Lib.hid hlen
      go_wp2_with fail
      first
        | (obtain ⟨lo, hi, lo2, hi2, ht, hx⟩ := two_c1 (cA := cA) (cB := cB) (n := L.length) hxA hxB hrA hrB
           go_meet
           case rel => exact ⟨_, lo, hi, lo2, hi2, _, _, _, _, rfl, ht, hx⟩)
        | (obtain ⟨lo, hi, lo2, hi2, ht, hx⟩ := two_c2 (cA := cA) (cB := cB) (n := L.length) hxA hxB hrA hrB
           go_meet
           case rel => exact ⟨_, lo, hi, lo2, hi2, _, _, _, _, rfl, ht, hx⟩)
        | (obtain ⟨lo, hi, lo2, hi2, ht, hx⟩ := two_c3 (cA := cA) (cB := cB) (n := L.length) (T := 29) hxA hxB hrA hrB
           go_meet
           case rel => exact ⟨_, lo, hi, lo2, hi2, _, _, _, _, rfl, ht, hx⟩)
  case rest =>
    clear zd
    obtain ⟨B, lo, hi, lo2, hi2, bA, cA, bB, cB, rfl, ht, hx⟩ := hcut
    have k0x := hx.cell k0
    have k1x := hx.cell k1
    go_wp2_with fail
    go_loopw [24] (fun x wr => ∃ (k : Nat) (T U : List (List Int)), k ≤ L.length ∧ x = .int .i64 k ∧ InvTo L S k 0 T U ∧ TwoT w1.heap.size B lo hi lo2 hi2 bA cA bB cB L.length wr T U ∧ Ext w1 wr) (fun x _ => L.length - (intOf x).toNat)
    case atStart => exact ⟨0, L, S, Nat.zero_le _, rfl, InvTo.start HO.out, ht, hx⟩
    case round =>
      clear ht hx k0x k1x
      obtain ⟨k, T, U, hk, rfl, hI, ht, hx⟩ := hrel
      by_cases hkl : k < L.length
      case neg =>
        have hki : ¬ (k : Int) < (L.length : Int) := by omega
        have hkk : k = L.length := by omega
        subst hkk
        have r0 := hx.cell r0
        have r1 := hx.cell r1
        have q0 := hx.free q0 (by simp only []; omega)
        have q1 := hx.free q1 (by simp only []; omega)
        have c0 := ht.c.1
        have c1 := ht.c.2.1
        have HI := Lib.hid hI
        have HT := Lib.hid ht
        have HX := Lib.hid (HXX.out.trans hx)
        clear hI ht hx
        go_wp2
        exact bodyPost_ret (v := .tuple #[.agg #[.slice (some ⟨bA, 0, none⟩) L.length cA, .slice (some ⟨bB, 0, none⟩) L.length cB], .int .i64 0]) (by simp [results, Tryz.results16, go_sem, r0, r1]) rfl ⟨bA, cA, bB, cB, T, U, rfl, HT.out.rows1 HI.out h12 (by omega) _ _, HT.out.rows2 HI.out h12 (by omega) _ _, HI.out, (HX.out.setNew (by simp only []; omega) _).setNew (by simp only []; omega) _⟩
      case pos =>
        obtain ⟨d1, s1, m1, e1, l1⟩ := HVC.out.read HO.out.l rfl hkl
        obtain ⟨d2, s2, m2, e2, l2⟩ := HYC.out.read HO.out.s hlen hkl
        have HL1 := Lib.hid l1
        have HL2 := Lib.hid l2
        have HE2 := Lib.hid e2
        have k0x := hx.cell k0
        have k1x := hx.cell k1
        have e1x := hx.cell e1
        clear l1 l2 e1 e2
        obtain ⟨w2, hw2⟩ : ∃ z : World, z = wr := ⟨_, rfl⟩
        go_wp2_with fail
        go_loopw [31] (fun x wr => ∃ (j : Nat) (T U : List (List Int)), j ≤ L.length ∧ x = .int .i64 j ∧ InvTo L S k j T U ∧ TwoT w1.heap.size B lo hi lo2 hi2 bA cA bB cB L.length wr T U ∧ Ext w1 wr) (fun x _ => L.length - (intOf x).toNat)
        case atStart => exact ⟨0, T, U, Nat.zero_le _, rfl, hI, ht, hx⟩
        case round =>
          clear ht hx hI k0x k1x e1x hw2
          obtain ⟨j, T, U, hj, rfl, hI, ht, hx⟩ := hrel
          by_cases hjl : j < L.length
          case neg =>
            have hji : ¬ (j : Int) < (L.length : Int) := by omega
            have hjj : j = L.length := by omega
            subst hjj
            have HI := Lib.hid hI
            have HT := Lib.hid ht
            have HX := Lib.hid hx
            clear hI ht hx
            go_wp2
            go_roundw
            case rel => exact ⟨k + 1, T, U, by omega, by go_num, HI.out.next, HT.out, HX.out⟩
            case measure => simp [intOf]; omega
          case pos =>
            have hji : (j : Int) < (L.length : Int) := by omega
            obtain ⟨n1, b1⟩ := HO.out.ln hkl hjl
            obtain ⟨n2, b2⟩ := HO.out.sn hkl hjl
            have HS := Lib.hid (hI.step HO.out hkl hjl)
            have f1 := hx.cell (HL1.out j hjl).1
            have f2 := hx.cell (HL2.out j hjl).1
            rw [n1] at f1
            rw [n2] at f2
            clear n1 n2
            obtain ⟨x1, hx1⟩ : ∃ x1, x1 = mulN L k j := ⟨_, rfl⟩
            obtain ⟨y1, hy1⟩ : ∃ y1, y1 = mulN S k j := ⟨_, rfl⟩
            rw [← hx1, ← hy1] at HS
            rw [← hx1] at f1 b1
            rw [← hy1] at f2 b2
            clear hx1 hy1
            have k1x := hx.cell k1
            have e2x := hx.cell HE2.out
            have c0 := ht.c.1
            have c1 := ht.c.2.1
            have hr1 := hI.rows1 x1 b1
            have hr2 := hI.rows2 x1 b1
            obtain ⟨b3, o3, c3, g3, ho3⟩ := ht.o1.get (k := x1) (by rw [hI.len1]; exact b1)
            obtain ⟨b4, o4, c4, g4, ho4⟩ := ht.o2.get (k := x1) (by rw [hI.len2]; exact b1)
            have v3 := ho3.2.2.1 y1 (by rw [hr1]; exact b2)
            have v4 := ho4.2.2.1 y1 (by rw [hr2]; exact b2)
            have q3 := ho3.2.2.2 y1 (by rw [hr1]; exact b2)
            have q4 := ho4.2.2.2 y1 (by rw [hr2]; exact b2)
            have p3 : lo ≤ b3 := ho3.1
            have p3b : b3 < hi := ho3.2.1
            have p4 : lo2 ≤ b4 := ho4.1
            have p4b : b4 < hi2 := ho4.2.1
            have x3 := ht.l1
            have x4 := ht.l2
            have x5 := ht.e1
            have x6 := ht.e2
            have x7 := ht.d
            rw [hr1] at g3
            rw [hr2] at g4
            have HG3 := Lib.hid g3
            have HG4 := Lib.hid g4
            rw [Nat.zero_add] at g3 g4
            have hT1 : x1 < T.length := by rw [hI.len1]; exact b1
            have hU1 : x1 < U.length := by rw [hI.len2]; exact b1
            have hT2 : y1 < (row T x1).length := by rw [hr1]; exact b2
            have hU2 : y1 < (row U x1).length := by rw [hr2]; exact b2
            have h34 : b3 ≠ b4 := by omega
            have h3B : b3 ≠ B := by omega
            have h4B : b4 ≠ B := by omega
            have h3b : bB ≠ b3 := by have := ht.o2.1; have := ht.o2.2.1; omega
            have h4b : bA ≠ b4 := by have := ht.o1.1; have := ht.o1.2.1; omega
            -- behind the first store
            have c1' := kc_set (p := ⟨b3, o3 + y1, none⟩) (u := .int .i64 (k : Nat)) (by simp only []; omega) c1
            have g4' := kc_set (p := ⟨b3, o3 + y1, none⟩) (u := .int .i64 (k : Nat)) (by simp only []; omega) g4
            have v4' := kc_set (p := ⟨b3, o3 + y1, none⟩) (u := .int .i64 (k : Nat)) (by simp only []; omega) v4
            have q4' := kf_set (p := ⟨b3, o3 + y1, none⟩) (u := .int .i64 (k : Nat)) q4
            have HS1 := Lib.hid HS.out
            have HT := Lib.hid ht
            have HX := Lib.hid hx
            clear HS hI ht hx ho3 ho4
            go_wp2_with fail
            go_region
            all_goals
              go_wp2_with fail
              go_roundw
              case rel => exact ⟨j + 1, setE T x1 y1 (k : Int), setE U x1 y1 (j : Int), by omega, by go_num, HS1.out, ((HT.out.put1 hT1 hT2 HG3.out p3 p3b (k : Int)).put2 hU1 hU2 (kc_set (by simp only []; omega) HG4.out) p4 p4b (j : Int)).drew, ((HX.out.setNew (by simp only []; omega) _).setNew (by simp only []; omega) _).drew⟩
              case measure => simp [intOf]; omega
end Go.Proofs.YtjbloenjphpngaaGreat

/-
  The law's helper solution9: like solutions.
-/
namespace Go.Proofs.YtjbloenjphpngaaGreat
set_option linter.unusedVariables false
set_option linter.unusedSimpArgs false
open Go.RowKit
open Go.Deep

set_option maxRecDepth 100000 in
set_option maxHeartbeats 2000000 in
theorem solution9_same (T U : List (List Int)) (v y v2 y2 : Value) (w : World) (h1 : RowsR w v T) (h2 : RowsR w y U) (h3 : RowsR w v2 T) (h4 : RowsR w y2 U) (hs : Small T) (hs2 : Small U) :
    Calls Tryz.prog 8 #[.agg #[v, y], .agg #[v2, y2]] w fun e w' => e = .returned (.bool true) ∧ Ext w w' := by
  obtain ⟨a1, c1, rfl, -⟩ := id h1
  obtain ⟨a2, c2, rfl, -⟩ := id h2
  obtain ⟨a3, c3, rfl, -⟩ := id h3
  obtain ⟨a4, c4, rfl, -⟩ := id h4
  have hX : Ext w ((w.alloc (.cells #[.slice a1 T.length c1, .slice a2 U.length c2] 29)).alloc (.cells #[.slice a3 T.length c3, .slice a4 U.length c4] 29)) := ((Ext.refl _).alloc _).alloc _
  have k0 : ((w.alloc (.cells #[.slice a1 T.length c1, .slice a2 U.length c2] 29)).alloc (.cells #[.slice a3 T.length c3, .slice a4 U.length c4] 29)).cell? ⟨w.heap.size, 0, none⟩ = some (.slice a1 T.length c1) := by simp [go_sem]
  have k1 : ((w.alloc (.cells #[.slice a1 T.length c1, .slice a2 U.length c2] 29)).alloc (.cells #[.slice a3 T.length c3, .slice a4 U.length c4] 29)).cell? ⟨w.heap.size, 1, none⟩ = some (.slice a2 U.length c2) := by simp [go_sem]
  have d0 : ((w.alloc (.cells #[.slice a1 T.length c1, .slice a2 U.length c2] 29)).alloc (.cells #[.slice a3 T.length c3, .slice a4 U.length c4] 29)).cell? ⟨w.heap.size + 1, 0, none⟩ = some (.slice a3 T.length c3) := by simp [go_sem]
  have d1 : ((w.alloc (.cells #[.slice a1 T.length c1, .slice a2 U.length c2] 29)).alloc (.cells #[.slice a3 T.length c3, .slice a4 U.length c4] 29)).cell? ⟨w.heap.size + 1, 1, none⟩ = some (.slice a4 U.length c4) := by simp [go_sem]
  have E1 := Lib.hid (show eqTB T T = true from eqTB_yes rfl)
  have E2 := Lib.hid (show eqTB U U = true from eqTB_yes rfl)
  have H1 := Lib.hid (h1.ext hX)
  have H2 := Lib.hid (h2.ext hX)
  have H3 := Lib.hid (h3.ext hX)
  have H4 := Lib.hid (h4.ext hX)
  clear h1 h2 h3 h4
  go_enter Tryz.func8, Tryz.ntmps8
  go_wp2_with fail
  generalize ((w.alloc (.cells #[.slice a1 T.length c1, .slice a2 U.length c2] 29)).alloc (.cells #[.slice a3 T.length c3, .slice a4 U.length c4] 29)) = A at *
  refine (same9_any T T _ _ _ H1.out H3.out hs).mono ?_
  rintro e wA ⟨rfl, hdA⟩
  rw [E1.out]
  replace k0 := hdA.ext.cell k0
  replace k1 := hdA.ext.cell k1
  replace d0 := hdA.ext.cell d0
  replace d1 := hdA.ext.cell d1
  go_wp2_with (go_at_call 18; refine (same9_any U U _ _ _ (H2.out.ext hdA.ext) (H4.out.ext hdA.ext) hs2).mono ?_; rintro e wB ⟨rfl, hdB⟩; rw [E2.out])
  go_ret
  exact ⟨rfl, hX.trans (hdA.ext.trans hdB.ext)⟩
end Go.Proofs.YtjbloenjphpngaaGreat

/-
  Contracts of GroupConjugation: reference and program.
-/
namespace Go.Proofs.YtjbloenjphpngaaGreat
set_option linter.unusedVariables false
set_option linter.unusedSimpArgs false
open Go.RowKit
attribute [local go_sem ↓] Go.wp_at_zero Go.wp_at_succ

theorem groupConjugation1_any (t : List (List Int)) (v : Value) (b2 c2 : Nat) (x y B C : Nat) (w : World) (hB : w.cell? ⟨B, 0, none⟩ = some v) (hC : w.cell? ⟨C, 0, none⟩ = some (.slice (some ⟨b2, 0, none⟩) t.length c2)) (hv : Rows w v t) (hi : IntsAt w b2 0 (backs t)) (hG : GroupOk t) (hx : x < t.length) (hy : y < t.length) :
    Calls Tryz.prog 33 #[.int .i64 x, .int .i64 y, .pointer (some ⟨B, 0, none⟩), .pointer (some ⟨C, 0, none⟩)] w fun e w' => e = .returned (.int .i64 (conjF t x y)) ∧ Ext w w' := by
  obtain ⟨hlen, b, o, c, rfl, hc⟩ := id hv
  have hT := hG.1
  have h12 := hT.2.1
  have hb := backF_ok hG hx
  obtain ⟨d1, s1, m1, r1, l1⟩ := hc.read hT rfl hx
  obtain ⟨f1, p1, p2⟩ := l1 y hy
  obtain ⟨d2, s2, m2, r2, l2⟩ := hc.read hT rfl (x := (ent t x y).toNat) (by omega)
  obtain ⟨f2, p3, p4⟩ := l2 (backF t x).toNat (by omega)
  rw [conjF_def] at f2 p3 p4
  have ib := hi x (by rw [length_backs]; exact hx)
  rw [ix_backs _ _ hx, Nat.zero_add] at ib
  clear l1 l2
  go_enter Tryz.func33, Tryz.ntmps33
  go_wp2
  go_quiet (fail)
  go_wp2
  go_ret
  exact ⟨rfl, (Ext.refl _).drewN _⟩

theorem callGroupConjugation1 (args : Array Value) (w : World) : (callFunc 33 args).run Tryz.prog w = .ok (.enter 33 args) w :=
  callFunc_enter Tryz.func33 (by kernel_rfl) rfl args w

/-- two boxes: a table and its inverses -/
def TwoBox2 (t : List (List Int)) (v : Value) (w : World) (p q : Value) (wx : World) : Prop := ∃ B C b c, p = .pointer (some ⟨B, 0, none⟩) ∧ q = .pointer (some ⟨C, 0, none⟩) ∧
  wx.cell? ⟨B, 0, none⟩ = some v ∧ wx.cell? ⟨C, 0, none⟩ = some (.slice (some ⟨b, 0, none⟩) t.length c) ∧ IntsAt wx b 0 (backs t) ∧ Ext w wx

set_option maxRecDepth 100000 in
set_option maxHeartbeats 1000000 in
theorem GroupConjugation_impl (t : List (List Int)) (v : Value) (w : World) (hv : Rows w v t) :
    Calls Tryz.prog 13 #[.agg #[v]] w (NewGC (ifG t (mkT t.length (conjF t)) []) (codeG t) w) := by
  obtain ⟨hlen, b, o, c, rfl, hc⟩ := id hv
  have hx0 := ext_box2 w (.slice (some ⟨b, o, none⟩) t.length c) (.slice none 0 0) 41 37
  have b0 : ((w.alloc (.cells #[.slice (some ⟨b, o, none⟩) t.length c] 41)).alloc (.cells #[.slice none 0 0] 37)).cell? ⟨w.heap.size, 0, none⟩ = some (.slice (some ⟨b, o, none⟩) t.length c) := by simp [go_sem]
  have r0 : ((w.alloc (.cells #[.slice (some ⟨b, o, none⟩) t.length c] 41)).alloc (.cells #[.slice none 0 0] 37)).cell? ⟨w.heap.size + 1, 0, none⟩ = some (.slice none 0 0) := by simp [go_sem]
  have q0 : ((w.alloc (.cells #[.slice (some ⟨b, o, none⟩) t.length c] 41)).alloc (.cells #[.slice none 0 0] 37)).frozen? ⟨w.heap.size + 1, 0, none⟩ = false := by simp [go_sem]
  have z0 : w.heap.size + 2 = ((w.alloc (.cells #[.slice (some ⟨b, o, none⟩) t.length c] 41)).alloc (.cells #[.slice none 0 0] 37)).heap.size := by simp
  cases hg : groupB t with
  | false =>
    rw [ifG_no hg, codeG_no hg]
    go_enter Tryz.func13, Tryz.ntmps13
    go_wp2_with fail
    generalize (w.alloc (.cells #[.slice (some ⟨b, o, none⟩) t.length c] 41)).alloc (.cells #[.slice none 0 0] 37) = A at *
    refine (IsGroup_impl t _ _ (hv.ext hx0)).mono ?_
    rintro e w1 ⟨rfl, hx1⟩
    rw [hg]
    have f1 := hx1.cell r0
    have f2 := hx1.free q0 (by simp only []; omega)
    go_wp2
    refine bodyPost_ret (v := .tuple #[.agg #[.slice none 0 0], .int .i64 1]) (by simp [results, Tryz.results13, go_sem, f1]) rfl ⟨_, rfl, OwnV.nil _ _ _, (hx0.trans hx1).setNew (by simp only []; omega) _⟩
  | true =>
    have hG := groupB_iff.1 hg
    have HG := Lib.hid hG
    have h12 := hG.1.2.1
    rw [ifG_yes hg, codeG_yes hg]
    clear hG
    go_enter Tryz.func13, Tryz.ntmps13
    go_wp2_with fail
    generalize (w.alloc (.cells #[.slice (some ⟨b, o, none⟩) t.length c] 41)).alloc (.cells #[.slice none 0 0] 37) = A at *
    refine (IsGroup_impl t _ _ (hv.ext hx0)).mono ?_
    rintro e w1 ⟨rfl, hx1⟩
    rw [hg]
    have f1 := hx1.cell r0
    have f2 := hx1.free q0 (by simp only []; omega)
    have b1 := hx1.cell b0
    have zz := hx1.size
    have hX := hx0.trans hx1
    have zd : w1.drew.heap.size = w1.heap.size := rfl
    clear hx0 hx1 b0 r0 q0 hg
    go_wp2
    have n0 : ¬ w.heap.size = w1.heap.size := by omega
    have n1 : ¬ w.heap.size = w1.heap.size + 1 := by omega
    have n2 : w.heap.size < w1.heap.size := by omega
    go_cut [4, 5] (fun p q wx => TwoBox2 t (.slice (some ⟨b, o, none⟩) t.length c) w1 p q wx)
    case first =>
      go_region_held3 (fun w' => w'.cell? ⟨w.heap.size, 0, none⟩ = some (.slice (some ⟨b, o, none⟩) t.length c)) ((repeat first | (with_reducible assumption) |  (with_reducible exact kc_new) | ((with_reducible refine kc_newE ?_); (simp; done)) | ((with_reducible refine kc_newEa ?_); (simp; done)) | ((with_reducible refine kc_newEb ?_); (simp; done)) | (with_reducible apply kc_alloc) | (with_reducible apply kc_drewN) | (with_reducible apply kc_drew) | ((with_reducible refine kc_set ?_ ?_); (first | (simp only []; omega) | (simp; omega) | (focus (simp; done)))) | ((with_reducible refine kc_set2 ?_ ?_); (focus (simp; done))) | (with_reducible refine kc_same (v := .slice none 0 0) ?_))) ((go_at_call 31; refine (groupInverses_any t _ _ (hv.ext (hX.trans (by (repeat first | (with_reducible exact Ext.refl _) | (with_reducible assumption) | (with_reducible apply Ext.drew) | (with_reducible apply kx_drewN) | (with_reducible apply kx_alloc) | ((with_reducible refine kx_set ?_ ?_); (first | (simp only []; omega) | (simp; omega) | (focus (simp; done)))) ))))).mono ?_; rintro e w2 ⟨b2, c2, rfl, hi2, hx2⟩; have hs2 : w2.cell? ⟨w.heap.size, 0, none⟩ = some (.slice (some ⟨b, o, none⟩) t.length c) := hx2.cell (by (repeat first | (with_reducible assumption) |  (with_reducible exact kc_new) | ((with_reducible refine kc_newE ?_); (simp; done)) | ((with_reducible refine kc_newEa ?_); (simp; done)) | ((with_reducible refine kc_newEb ?_); (simp; done)) | (with_reducible apply kc_alloc) | (with_reducible apply kc_drewN) | (with_reducible apply kc_drew) | ((with_reducible refine kc_set ?_ ?_); (first | (simp only []; omega) | (simp; omega) | (focus (simp; done)))) | ((with_reducible refine kc_set2 ?_ ?_); (focus (simp; done))) | (with_reducible refine kc_same (v := .slice none 0 0) ?_))); obtain ⟨hc2, hf2⟩ := bcell hx2; have hz2 := hx2.size; (try simp at hz2); (have hl9 : w.heap.size < w2.heap.size := by omega); (have hn9 : ¬ w.heap.size = w2.heap.size := by omega); (try have hl0 : w1.heap.size < w2.heap.size := by omega); (try have hl1 : w1.heap.size + 1 < w2.heap.size := by omega)))
      all_goals
        have IS := hi2
        go_wp2_with fail
        go_meet
        case rel =>
          refine ⟨_, _, b2, c2, rfl, rfl, ?_, ?_, ?_, ?_⟩
          · (repeat first | (with_reducible assumption) | (with_reducible refine Ext.cell hx2 ?_) |  (with_reducible exact kc_new) | ((with_reducible refine kc_newE ?_); (simp; done)) | ((with_reducible refine kc_newEa ?_); (simp; done)) | ((with_reducible refine kc_newEb ?_); (simp; done)) | (with_reducible apply kc_alloc) | (with_reducible apply kc_drewN) | (with_reducible apply kc_drew) | ((with_reducible refine kc_set ?_ ?_); (first | (simp only []; omega) | (simp; omega) | (focus (simp; done)))) | ((with_reducible refine kc_set2 ?_ ?_); (focus (simp; done))) | (with_reducible refine kc_same (v := .slice none 0 0) ?_))
          · (repeat first | (with_reducible assumption) | (with_reducible refine Ext.cell hx2 ?_) |  (with_reducible exact kc_new) | ((with_reducible refine kc_newE ?_); (simp; done)) | ((with_reducible refine kc_newEa ?_); (simp; done)) | ((with_reducible refine kc_newEb ?_); (simp; done)) | (with_reducible apply kc_alloc) | (with_reducible apply kc_drewN) | (with_reducible apply kc_drew) | ((with_reducible refine kc_set ?_ ?_); (first | (simp only []; omega) | (simp; omega) | (focus (simp; done)))) | ((with_reducible refine kc_set2 ?_ ?_); (focus (simp; done))) | (with_reducible refine kc_same (v := .slice none 0 0) ?_))
          · (repeat first | exact hi2 | (with_reducible apply ki_alloc) | (with_reducible apply ki_drew) | ((with_reducible refine ki_setNil ?_ ?_); focus (repeat first | (with_reducible assumption) | (with_reducible refine Ext.cell hx2 ?_) |  (with_reducible exact kc_new) | ((with_reducible refine kc_newE ?_); (simp; done)) | ((with_reducible refine kc_newEa ?_); (simp; done)) | ((with_reducible refine kc_newEb ?_); (simp; done)) | (with_reducible apply kc_alloc) | (with_reducible apply kc_drewN) | (with_reducible apply kc_drew) | ((with_reducible refine kc_set ?_ ?_); (first | (simp only []; omega) | (simp; omega) | (focus (simp; done)))) | ((with_reducible refine kc_set2 ?_ ?_); (focus (simp; done))) | (with_reducible refine kc_same (v := .slice none 0 0) ?_)); done))
          · (repeat first | (with_reducible exact Ext.refl _) | (with_reducible assumption) | (with_reducible apply Ext.drew) | (with_reducible apply kx_drewN) | (with_reducible apply kx_alloc) | ((with_reducible refine kx_set ?_ ?_); (first | (simp only []; omega) | (simp; omega) | (focus (simp; done)))) | (with_reducible refine Ext.trans ?_ hx2) )
    case rest =>
      obtain ⟨B, C, b2, c2, rfl, rfl, g1, g2, hi2, hx2⟩ := hcut
      obtain ⟨w2, rfl⟩ : ∃ z : World, z = wc := ⟨_, rfl⟩
      have f3 := hx2.cell f1
      have f4 := hx2.free f2 (by simp only []; omega)
      have hX2 := hX.trans hx2
      have z2 := hx2.size
      go_wp2_with fail
      refine (rackBy_any t.length (conjF t) 33 #[.pointer (some ⟨B, 0, none⟩), .pointer (some ⟨C, 0, none⟩)] _ (by omega) callGroupConjugation1 (fun w3 x y h3 hx hy => by
        rw [app22]
        exact groupConjugation1_any t _ b2 c2 x y B C w3 (h3.cell g1) (h3.cell g2) (hv.ext (hX2.trans h3)) (hi2.ext h3) HG.out hx hy)).mono ?_
      rintro e w3 ⟨b3, c3, rfl, ho3, hx3⟩
      have f5 := hx3.cell f3
      have f6 := hx3.free f4 (by simp only []; omega)
      have z3 := hx3.size
      go_wp2
      refine bodyPost_ret (v := .tuple #[.agg #[.slice (some ⟨b3, 0, none⟩) (mkT t.length (conjF t)).length c3], .int .i64 0]) (by simp [results, Tryz.results13, go_sem, f5]) rfl ⟨_, rfl, ?_, (hX2.trans hx3).setNew (by simp only []; omega) _⟩
      have hs := (ho3.setOther (a := ⟨w.heap.size + 1, 0, none⟩) (.inl (by simp only []; omega)) (.slice (some ⟨b3, 0, none⟩) (mkT t.length (conjF t)).length c3)).mono (lo' := w.heap.size) (hi' := w3.heap.size) (by omega) (Nat.le_refl _)
      simpa using hs.v (small_mkT (by omega) _) c3

end Go.Proofs.YtjbloenjphpngaaGreat

/-
  Contracts: the solution of a brace (reference).
-/
namespace Go.Proofs.YtjbloenjphpngaaGreat
set_option linter.unusedVariables false
set_option linter.unusedSimpArgs false
open Go.RowKit
attribute [local go_sem ↓] Go.wp_at_zero Go.wp_at_succ

set_option maxRecDepth 100000 in
set_option maxHeartbeats 2000000 in
theorem l11Solution_any (t u : List (List Int)) (v y : Value) (w : World) (hv : Rows w v t) (hy : Rows w y u) (hG : GroupOk t) (hU : GroupOk u) (hl : t.length = u.length) :
    Calls Tryz.prog 23 #[.agg #[v, y]] w fun e w' => ∃ a c a2 c2, e = .returned (.agg #[.slice a (mkT t.length (lamF t u)).length c, .slice a2 (mkT t.length (solF t u)).length c2]) ∧ RowsB w' (.slice a (mkT t.length (lamF t u)).length c) (.slice a2 (mkT t.length (solF t u)).length c2) (mkT t.length (lamF t u)) (mkT t.length (solF t u)) ∧ Ext w w' := by
  obtain ⟨hlen, b, o, c, rfl, -⟩ := id hv
  obtain ⟨hlen2, b2, o2, c2, rfl, hc2⟩ := id hy
  have hX : Ext w ((w.alloc (.cells #[.slice (some ⟨b, o, none⟩) t.length c, .slice (some ⟨b2, o2, none⟩) u.length c2] 26)).alloc (.cells #[.slice none 0 0, .slice none 0 0] 29)) := ((Ext.refl _).alloc _).alloc _
  have k0 : ((w.alloc (.cells #[.slice (some ⟨b, o, none⟩) t.length c, .slice (some ⟨b2, o2, none⟩) u.length c2] 26)).alloc (.cells #[.slice none 0 0, .slice none 0 0] 29)).cell? ⟨w.heap.size, 0, none⟩ = some (.slice (some ⟨b, o, none⟩) t.length c) := by simp [go_sem]
  have k1 : ((w.alloc (.cells #[.slice (some ⟨b, o, none⟩) t.length c, .slice (some ⟨b2, o2, none⟩) u.length c2] 26)).alloc (.cells #[.slice none 0 0, .slice none 0 0] 29)).cell? ⟨w.heap.size, 1, none⟩ = some (.slice (some ⟨b2, o2, none⟩) u.length c2) := by simp [go_sem]
  have r0 : ((w.alloc (.cells #[.slice (some ⟨b, o, none⟩) t.length c, .slice (some ⟨b2, o2, none⟩) u.length c2] 26)).alloc (.cells #[.slice none 0 0, .slice none 0 0] 29)).cell? ⟨w.heap.size + 1, 0, none⟩ = some (.slice none 0 0) := by simp [go_sem]
  have r1 : ((w.alloc (.cells #[.slice (some ⟨b, o, none⟩) t.length c, .slice (some ⟨b2, o2, none⟩) u.length c2] 26)).alloc (.cells #[.slice none 0 0, .slice none 0 0] 29)).cell? ⟨w.heap.size + 1, 1, none⟩ = some (.slice none 0 0) := by simp [go_sem]
  have q0 : ((w.alloc (.cells #[.slice (some ⟨b, o, none⟩) t.length c, .slice (some ⟨b2, o2, none⟩) u.length c2] 26)).alloc (.cells #[.slice none 0 0, .slice none 0 0] 29)).frozen? ⟨w.heap.size + 1, 0, none⟩ = false := by simp [go_sem]
  have q1 : ((w.alloc (.cells #[.slice (some ⟨b, o, none⟩) t.length c, .slice (some ⟨b2, o2, none⟩) u.length c2] 26)).alloc (.cells #[.slice none 0 0, .slice none 0 0] 29)).frozen? ⟨w.heap.size + 1, 1, none⟩ = false := by simp [go_sem]
  have zA : w.heap.size + 2 ≤ ((w.alloc (.cells #[.slice (some ⟨b, o, none⟩) t.length c, .slice (some ⟨b2, o2, none⟩) u.length c2] 26)).alloc (.cells #[.slice none 0 0, .slice none 0 0] 29)).heap.size := by simp
  have h12 := hG.1.2.1
  have HG := Lib.hid hG
  have HU := Lib.hid hU
  have HL := Lib.hid hl
  have HLB := Lib.hid (fun x y (hx : x < t.length) (hy : y < t.length) => lamF_bd hG hU hl hx hy)
  have HSI := Lib.hid (fun x y (hx : x < t.length) (hy : y < t.length) => solF_ix hG hU hl hx hy)
  have HLF := Lib.hid (length_mkT t.length (lamF t u))
  have HLT := Lib.hid (length_mkT t.length (solF t u))
  clear hG hU hl
  rw [HLF.out, HLT.out]
  go_enter Tryz.func23, Tryz.ntmps23
  go_wp2_with fail
  generalize ((w.alloc (.cells #[.slice (some ⟨b, o, none⟩) t.length c, .slice (some ⟨b2, o2, none⟩) u.length c2] 26)).alloc (.cells #[.slice none 0 0, .slice none 0 0] 29)) = A at *
  refine (l11Lambda_any t u _ _ _ (hv.ext hX) (hy.ext hX) HG.out HU.out HL.out).mono ?_
  rintro e w1 ⟨vF, rfl, hrF, hx⟩
  obtain ⟨-, bF, oF, cF, rfl, hcF⟩ := id hrF
  rw [HLF.out]
  rw [HLF.out] at hrF
  have zz := Ext.size hx
  replace q0 := hx.free q0 (by simp only []; omega)
  replace q1 := hx.free q1 (by simp only []; omega)
  replace zA := Nat.le_trans zA zz
  replace hX := hX.trans hx
  replace k0 := hx.cell k0
  replace k1 := hx.cell k1
  replace r0 := hx.cell r0
  replace r1 := hx.cell r1
  clear hx zz
  have hxB : Ext w1 (w1.alloc (.cells #[.slice (some ⟨bF, oF, none⟩) t.length cF, .slice none 0 0] 29)) := (Ext.refl _).alloc _
  have bF0 : (w1.alloc (.cells #[.slice (some ⟨bF, oF, none⟩) t.length cF, .slice none 0 0] 29)).cell? ⟨w1.heap.size, 0, none⟩ = some (.slice (some ⟨bF, oF, none⟩) t.length cF) := by simp [go_sem]
  have bv0 : (w1.alloc (.cells #[.slice (some ⟨bF, oF, none⟩) t.length cF, .slice none 0 0] 29)).cell? ⟨w1.heap.size, 1, none⟩ = some (.slice none 0 0) := by simp [go_sem]
  have qv0 : (w1.alloc (.cells #[.slice (some ⟨bF, oF, none⟩) t.length cF, .slice none 0 0] 29)).frozen? ⟨w1.heap.size, 1, none⟩ = false := by simp [go_sem]
  have zB : w1.heap.size < (w1.alloc (.cells #[.slice (some ⟨bF, oF, none⟩) t.length cF, .slice none 0 0] 29)).heap.size := by simp
  have gB := GrowT.nil 53 (w1.alloc (.cells #[.slice (some ⟨bF, oF, none⟩) t.length cF, .slice none 0 0] 29)).heap.size (w1.alloc (.cells #[.slice (some ⟨bF, oF, none⟩) t.length cF, .slice none 0 0] 29))
  go_wp2
  generalize (w1.alloc (.cells #[.slice (some ⟨bF, oF, none⟩) t.length cF, .slice none 0 0] 29)) = B at *
  go_loopw [4] (fun x wr => ∃ k : Nat, k ≤ t.length ∧ x = .int .i64 k ∧ ∃ v, wr.cell? ⟨w1.heap.size, 1, none⟩ = some v ∧ wr.cell? ⟨w1.heap.size, 0, none⟩ = some (.slice (some ⟨bF, oF, none⟩) t.length cF) ∧ GrowT 53 B.heap.size wr v ((mkT t.length (solF t u)).take k) ∧ wr.frozen? ⟨w1.heap.size, 1, none⟩ = false ∧ Ext w1 wr ∧ B.heap.size ≤ wr.heap.size) (fun x _ => t.length - (intOf x).toNat)
  case atStart => exact ⟨0, Nat.zero_le _, rfl, _, bv0, bF0, gB, qv0, hxB, Nat.le_refl _⟩
  case round =>
    clear bv0 qv0 gB bF0 hxB
    obtain ⟨k, hk, rfl, v, bv, bF1, hg, qv, hx, zr⟩ := hrel
    obtain ⟨sa, sc, rfl⟩ := hg.slice
    have htl : ((mkT t.length (solF t u)).take k).length = k := by rw [List.length_take, HLT.out]; omega
    rw [htl] at hg bv
    have HTL := Lib.hid htl
    clear htl
    have j0 := hx.cell k0
    have j1 := hx.cell k1
    have g1 := hx.cell r0
    have g2 := hx.cell r1
    have p1 := hx.free q0 (by simp only []; omega)
    have p2 := hx.free q1 (by simp only []; omega)
    by_cases hkl : k < t.length
    case neg =>
      have hkk : k = t.length := by omega
      subst hkk
      have htk : (mkT t.length (solF t u)).take t.length = (mkT t.length (solF t u)) := List.take_of_length_le (by rw [HLT.out]; omega)
      rw [htk] at hg
      go_wp2
      refine bodyPost_ret (v := .agg #[.slice (some ⟨bF, oF, none⟩) t.length cF, .slice sa t.length sc]) (by simp [results, Tryz.results23, go_sem, g1, g2]) rfl ⟨_, cF, _, sc, rfl, ⟨?_, ?_⟩, ((hX.trans hx).setNew (by simp only []; omega) _).setNew (by simp only []; omega) _⟩
      · exact (rows_set2 (hrF.ext hx) g1 g2 _ _).toR
      · have h1 := (hg.setSl (a := ⟨w.heap.size + 1, 0, none⟩) g1 (by simp only []; omega) (.slice (some ⟨bF, oF, none⟩) t.length cF))
        have h2 := (h1.setSl (a := ⟨w.heap.size + 1, 1, none⟩) (kc_set2 (by simp) g2) (by simp only []; omega) (.slice sa t.length sc)).toR
        exact h2
    case pos =>
      obtain ⟨w2, rfl⟩ : ∃ w2 : World, w2 = wr := ⟨_, rfl⟩
      go_wp2
      have hxa : Ext w2 (w2.alloc (.cells #[] 2)) := (Ext.refl _).alloc _
      have hi0 := GrowI.lit (e := 2) (base := w2.heap.size) (w := w2) (Nat.le_refl _)
      have HRL := Lib.hid (show (row (mkT t.length (solF t u)) k).length = t.length by rw [row_mkT _ _ _ hkl, length_partRow])
      have HO := Lib.hid hg.lt
      go_loopw [5, 6] (fun v y wr => ∃ j : Nat, j ≤ t.length ∧ y = .int .i64 j ∧ GrowI 2 w2.heap.size wr v ((row (mkT t.length (solF t u)) k).take j) ∧ v ≠ .slice none 0 0 ∧ Ext w2 wr) (fun _ y _ => t.length - (intOf y).toNat)
      case atStart => exact ⟨0, Nat.zero_le _, rfl, hi0, by simp, hxa⟩
      case round =>
        clear hxa hi0
        obtain ⟨j, hj, rfl, hi, hvr, hx2⟩ := hrel
        have HVR := Lib.hid hvr
        clear hvr
        have m0 := hx2.cell j0
        have m1 := hx2.cell j1
        have mF := hx2.cell bF1
        by_cases hjl : j < t.length
        case neg =>
          have hta : (row (mkT t.length (solF t u)) k).take j = row (mkT t.length (solF t u)) k := List.take_of_length_le (by rw [HRL.out]; omega)
          rw [hta] at hi
          obtain ⟨br, cr, rfl, hri, hrb, hrb2⟩ := hi.row HVR.out
          have hgw := hg.ext hx2
          have hne : some br ≠ (Value.slice sa k sc).ownBlock := fun e => by have := HO.out br e.symm; omega
          have bv2 := hx2.cell bv
          have qv2 := hx2.free qv (by simp only []; omega)
          clear hg
          go_wp2_with (at_builtin; refine wpList_append_row rfl _ _ 24 53 rfl Tryz.underlying24 infoSl B.heap.size _ _ rfl (hgw.ext (ext_box _ _ _)) _ br cr _ rfl (cell_new _ _ _) (hri.ext (ext_box _ _ _)) (by rw [HRL.out]; omega) hne (by rw [HTL.out]; omega) (by have := hx.size; have := hx2.size; simp; omega) ?_)
          intro v' w3 hg3 hgr hv3
          have hx3 : Ext w1 w3 := Ext.grown ((hx.trans hx2).trans (ext_box _ _ _)) hgr (hgw.ext (ext_box _ _ _)).own.choose_spec (by omega)
          have hgr2 := hgr.size
          have bv3 : w3.cell? ⟨w1.heap.size, 1, none⟩ = some (Value.slice sa k sc) := by
            rw [hgr.cell_far _ (by simp; omega) (by intro e; have := HO.out _ e.symm; simp only [] at this; omega)]
            exact (ext_box _ _ _).cell bv2
          have bF3 : w3.cell? ⟨w1.heap.size, 0, none⟩ = some (.slice (some ⟨bF, oF, none⟩) t.length cF) := by
            rw [hgr.cell_far _ (by simp; omega) (by intro e; have := HO.out _ e.symm; simp only [] at this; omega)]
            exact (ext_box _ _ _).cell mF
          have qv3 : w3.frozen? ⟨w1.heap.size, 1, none⟩ = false := by
            rw [hgr.frozen_far _ (by simp; omega) (by intro e; have := HO.out _ e.symm; simp only [] at this; omega)]
            exact (ext_box _ _ _).free qv2 (by simp only []; have := hx2.size; omega)
          clear hgr hne hgw
          obtain ⟨a3, c3, rfl⟩ := hg3.slice
          have hl3 : ((mkT t.length (solF t u)).take k ++ [row (mkT t.length (solF t u)) k]).length = k + 1 := by rw [List.length_append, HTL.out]; rfl
          rw [hl3] at hg3 ⊢
          clear hl3 hv3
          go_wp2
          go_roundw
          case rel => exact ⟨k + 1, by omega, by go_num, _, World.cell?_setCell_same _ _ _ bv3, kc_set2 (by simp) bF3, by rw [take_row _ _ (by rw [HLT.out]; exact hkl)]; exact hg3.setSl bv3 (by simp only []; omega) _, by rw [World.frozen?_setCell]; exact qv3, hx3.setNew (by simp only []; omega) _, by have := hx2.size; have := hgr2; simp at *; omega⟩
          case measure => simp [intOf]; omega
        case pos =>
          have bd := HLB.out k j hkl hjl
          have iu : (k : Int) < (u.length : Int) := by have := HL.out; omega
          have ju : (j : Int) < (u.length : Int) := by have := HL.out; omega
          have lu : lamF t u k j < (u.length : Int) := by have := HL.out; omega
          obtain ⟨d0, s0, n0, x0, l0, -⟩ := (hcF.ext hx).get (i := k) (by rw [HLF.out]; exact hkl)
          rw [length_row_mkT _ _ _ hkl] at x0
          have y0 := l0.ent (length_row_mkT _ _ _ hkl) hjl
          rw [ent_mkT _ _ _ _ hkl hjl] at y0
          obtain ⟨d1, s1, n1, x1, l1⟩ := (hc2.ext (hX.trans hx)).read HU.out.1 rfl (x := k) (by omega)
          obtain ⟨y1, i1, i2⟩ := l1 j (by omega)
          obtain ⟨d2, s2, n2, x2, l2, h2l⟩ := (hc2.ext (hX.trans hx)).get (i := (lamF t u k j).toNat) (by omega)
          have HZ := Lib.hid ((l2.ints h2l n2).ext hx2)
          have HSE := Lib.hid (HSI.out k j hkl hjl)
          have v0 := hx2.cell x0
          have v1 := hx2.cell y0
          have v2 := hx2.cell x1
          have v3 := hx2.cell y1
          have v4 := hx2.cell x2
          have HLJ := Lib.hid (show ((row (mkT t.length (solF t u)) k).take j).length = j by rw [List.length_take, HRL.out]; omega)
          clear l0 l1 l2
          go_wp2_with fail
          go_region_held3 (fun w' => w'.cell? ⟨w.heap.size, 1, none⟩ = some (.slice (some ⟨b2, o2, none⟩) u.length c2) ∧ w'.cell? ⟨w1.heap.size, 0, none⟩ = some (.slice (some ⟨bF, oF, none⟩) t.length cF) ∧ w'.cell? ⟨bF, oF + k, none⟩ = some (.slice (some ⟨d0, s0, none⟩) t.length n0) ∧ w'.cell? ⟨d0, s0 + j, none⟩ = some (.int .i64 (lamF t u k j)) ∧ w'.cell? ⟨b2, o2 + k, none⟩ = some (.slice (some ⟨d1, s1, none⟩) u.length n1) ∧ w'.cell? ⟨d1, s1 + j, none⟩ = some (.int .i64 (ent u k j)) ∧ w'.cell? ⟨b2, o2 + (lamF t u k j).toNat, none⟩ = some (.slice (some ⟨d2, s2, none⟩) (row u (lamF t u k j).toNat).length n2))
            ((refine ⟨?_, ?_, ?_, ?_, ?_, ?_, ?_⟩ <;> (repeat first | (with_reducible assumption) | (with_reducible refine Ext.cell hx3 ?_) |  (with_reducible exact kc_new) | ((with_reducible refine kc_newE ?_); (simp; done)) | ((with_reducible refine kc_newEa ?_); (simp; done)) | ((with_reducible refine kc_newEb ?_); (simp; done)) | (with_reducible apply kc_alloc) | (with_reducible apply kc_drewN) | (with_reducible apply kc_drew) | ((with_reducible refine kc_set ?_ ?_); (first | (simp only []; omega) | (simp; omega) | (focus (simp; done)))) | ((with_reducible refine kc_set2 ?_ ?_); (focus (simp; done))) | (with_reducible refine kc_same (v := .slice none 0 0) ?_))))
            (first
              | (go_at_call 50; refine (l01Index_any (row u (lamF t u k j).toNat) _ _ _ (HZ.out.ext (by (repeat first | (with_reducible exact Ext.refl _) | (with_reducible assumption) | (with_reducible apply Ext.drew) | (with_reducible apply kx_drewN) | (with_reducible apply kx_alloc) | ((with_reducible refine kx_set ?_ ?_); (first | (simp only []; omega) | (simp; omega) | (focus (simp; done)))) )))).mono ?_; rintro e w' ⟨rfl, rfl⟩; rw [HSE.out])
              | (refine step_append_int (by rfl) _ _ 53 2 (by rfl) Tryz.underlying53 infoInt w2.heap.size _ _ (by rfl) (hi.ext (by (repeat first | (with_reducible exact Ext.refl _) | (with_reducible assumption) | (with_reducible apply Ext.drew) | (with_reducible apply kx_drewN) | (with_reducible apply kx_alloc) | ((with_reducible refine kx_set ?_ ?_); (first | (simp only []; omega) | (simp; omega) | (focus (simp; done)))) ))) _ _ (by rfl) (by (repeat first | (with_reducible assumption) |  (with_reducible exact kc_new) | ((with_reducible refine kc_newE ?_); (simp; done)) | ((with_reducible refine kc_newEa ?_); (simp; done)) | ((with_reducible refine kc_newEb ?_); (simp; done)) | (with_reducible apply kc_alloc) | (with_reducible apply kc_drewN) | (with_reducible apply kc_drew) | ((with_reducible refine kc_set ?_ ?_); (first | (simp only []; omega) | (simp; omega) | (focus (simp; done)))) | ((with_reducible refine kc_set2 ?_ ?_); (focus (simp; done))) | (with_reducible refine kc_same (v := .slice none 0 0) ?_))) (by rw [HLJ.out]; omega) (by have := hx2.size; simp; omega) ?_; intro v' w3 hi3 hgr hv3; have hx3 : Ext w2 w3 := Ext.grown (hx2.trans (by (repeat first | (with_reducible exact Ext.refl _) | (with_reducible assumption) | (with_reducible apply Ext.drew) | (with_reducible apply kx_drewN) | (with_reducible apply kx_alloc) | ((with_reducible refine kx_set ?_ ?_); (first | (simp only []; omega) | (simp; omega) | (focus (simp; done)))) ))) hgr (hi.ext (by (repeat first | (with_reducible exact Ext.refl _) | (with_reducible assumption) | (with_reducible apply Ext.drew) | (with_reducible apply kx_drewN) | (with_reducible apply kx_alloc) | ((with_reducible refine kx_set ?_ ?_); (first | (simp only []; omega) | (simp; omega) | (focus (simp; done)))) ))) (Nat.le_refl _)))
          all_goals
            go_wp2
            go_roundw
            case rel => exact ⟨j + 1, by omega, by go_num, by
              rw [take_ix _ _ (by rw [HRL.out]; exact hjl), row_mkT _ _ _ hkl, ix_partRow _ _ _ _ _ hjl, if_pos hjl]
              rw [row_mkT _ _ _ hkl] at hi3
              exact hi3, hv3, hx3⟩
            case measure => simp [intOf]; omega

set_option maxRecDepth 100000 in
set_option maxHeartbeats 1000000 in
theorem BraceSolution_spec (t u : List (List Int)) (v y : Value) (w : World) (hv : Rows w v t) (hy : Rows w y u) :
    Calls Tryz.prog 7 #[.agg #[v, y]] w (RetB (ifB t u (mkT t.length (lamF t u)) []) (ifB t u (mkT t.length (solF t u)) []) (codeB t u) w) := by
  obtain ⟨hlen, b, o, c, rfl, -⟩ := id hv
  obtain ⟨hlen2, b2, o2, c2, rfl, -⟩ := id hy
  have hX : Ext w ((w.alloc (.cells #[.slice (some ⟨b, o, none⟩) t.length c, .slice (some ⟨b2, o2, none⟩) u.length c2] 26)).alloc (.cells #[.slice none 0 0, .slice none 0 0] 29)) := ((Ext.refl _).alloc _).alloc _
  have k0 : ((w.alloc (.cells #[.slice (some ⟨b, o, none⟩) t.length c, .slice (some ⟨b2, o2, none⟩) u.length c2] 26)).alloc (.cells #[.slice none 0 0, .slice none 0 0] 29)).cell? ⟨w.heap.size, 0, none⟩ = some (.slice (some ⟨b, o, none⟩) t.length c) := by simp [go_sem]
  have k1 : ((w.alloc (.cells #[.slice (some ⟨b, o, none⟩) t.length c, .slice (some ⟨b2, o2, none⟩) u.length c2] 26)).alloc (.cells #[.slice none 0 0, .slice none 0 0] 29)).cell? ⟨w.heap.size, 1, none⟩ = some (.slice (some ⟨b2, o2, none⟩) u.length c2) := by simp [go_sem]
  have r0 : ((w.alloc (.cells #[.slice (some ⟨b, o, none⟩) t.length c, .slice (some ⟨b2, o2, none⟩) u.length c2] 26)).alloc (.cells #[.slice none 0 0, .slice none 0 0] 29)).cell? ⟨w.heap.size + 1, 0, none⟩ = some (.slice none 0 0) := by simp [go_sem]
  have r1 : ((w.alloc (.cells #[.slice (some ⟨b, o, none⟩) t.length c, .slice (some ⟨b2, o2, none⟩) u.length c2] 26)).alloc (.cells #[.slice none 0 0, .slice none 0 0] 29)).cell? ⟨w.heap.size + 1, 1, none⟩ = some (.slice none 0 0) := by simp [go_sem]
  have q0 : ((w.alloc (.cells #[.slice (some ⟨b, o, none⟩) t.length c, .slice (some ⟨b2, o2, none⟩) u.length c2] 26)).alloc (.cells #[.slice none 0 0, .slice none 0 0] 29)).frozen? ⟨w.heap.size + 1, 0, none⟩ = false := by simp [go_sem]
  have q1 : ((w.alloc (.cells #[.slice (some ⟨b, o, none⟩) t.length c, .slice (some ⟨b2, o2, none⟩) u.length c2] 26)).alloc (.cells #[.slice none 0 0, .slice none 0 0] 29)).frozen? ⟨w.heap.size + 1, 1, none⟩ = false := by simp [go_sem]
  have zA : w.heap.size + 2 ≤ ((w.alloc (.cells #[.slice (some ⟨b, o, none⟩) t.length c, .slice (some ⟨b2, o2, none⟩) u.length c2] 26)).alloc (.cells #[.slice none 0 0, .slice none 0 0] 29)).heap.size := by simp
  cases hb : braceB t u with
  | false =>
    rw [ifB_no hb, ifB_no hb, codeB_no hb]
    go_enter Tryz.func7, Tryz.ntmps7
    go_wp2_with fail
    generalize ((w.alloc (.cells #[.slice (some ⟨b, o, none⟩) t.length c, .slice (some ⟨b2, o2, none⟩) u.length c2] 26)).alloc (.cells #[.slice none 0 0, .slice none 0 0] 29)) = A at *
    refine (l11Is_any t u _ _ _ (hv.ext hX) (hy.ext hX)).mono ?_
    rintro e w2 ⟨rfl, hx⟩
    rw [hb]
    have zz := Ext.size hx
    replace q0 := hx.free q0 (by simp only []; omega)
    replace q1 := hx.free q1 (by simp only []; omega)
    replace zA := Nat.le_trans zA zz
    replace hX := hX.trans hx
    replace k0 := hx.cell k0
    replace k1 := hx.cell k1
    replace r0 := hx.cell r0
    replace r1 := hx.cell r1
    clear hx zz
    go_wp2
    refine bodyPost_ret (v := .tuple #[.agg #[.slice none 0 0, .slice none 0 0], .int .i64 1]) (by simp [results, Tryz.results7, go_sem, r0, r1]) rfl ⟨_, _, rfl, RowsB.nil _ _ _, (hX.setNew (by simp only []; omega) _).setNew (by simp only []; omega) _⟩
  | true =>
    obtain ⟨hG, hU, hL⟩ := braceB_ok hb
    rw [ifB_yes hb, ifB_yes hb, codeB_yes hb]
    have HG := Lib.hid hG
    have HU := Lib.hid hU
    have HL := Lib.hid hL
    have h12 := hG.1.2.1
    have HN1 := Lib.hid (NoEmpty.made hG.1.1 (lamF t u))
    have HN2 := Lib.hid (NoEmpty.made hG.1.1 (solF t u))
    clear hG hU hL
    go_enter Tryz.func7, Tryz.ntmps7
    go_wp2_with fail
    generalize ((w.alloc (.cells #[.slice (some ⟨b, o, none⟩) t.length c, .slice (some ⟨b2, o2, none⟩) u.length c2] 26)).alloc (.cells #[.slice none 0 0, .slice none 0 0] 29)) = A at *
    refine (l11Is_any t u _ _ _ (hv.ext hX) (hy.ext hX)).mono ?_
    rintro e w2 ⟨rfl, hx⟩
    rw [hb]
    have zz := Ext.size hx
    replace q0 := hx.free q0 (by simp only []; omega)
    replace q1 := hx.free q1 (by simp only []; omega)
    replace zA := Nat.le_trans zA zz
    replace hX := hX.trans hx
    replace k0 := hx.cell k0
    replace k1 := hx.cell k1
    replace r0 := hx.cell r0
    replace r1 := hx.cell r1
    clear hx zz
    clear hb
    go_wp2_with fail
    refine (l11Solution_any t u _ _ _ (hv.ext hX) (hy.ext hX) HG.out HU.out HL.out).mono ?_
    rintro e w5 ⟨a5, c6, a6, c7, rfl, ⟨hr5, hr6⟩, hx⟩
    have zz := Ext.size hx
    replace q0 := hx.free q0 (by simp only []; omega)
    replace q1 := hx.free q1 (by simp only []; omega)
    replace zA := Nat.le_trans zA zz
    replace hX := hX.trans hx
    replace k0 := hx.cell k0
    replace k1 := hx.cell k1
    replace r0 := hx.cell r0
    replace r1 := hx.cell r1
    clear hx zz
    go_wp2
    refine bodyPost_ret (v := .tuple #[.agg #[.slice a5 (mkT t.length (lamF t u)).length c6, .slice a6 (mkT t.length (solF t u)).length c7], .int .i64 0]) (by simp [results, Tryz.results7, go_sem, r0, r1]) rfl ⟨_, _, rfl, ⟨?_, ?_⟩, (hX.setNew (by simp only []; omega) _).setNew (by simp only []; omega) _⟩
    · exact kR_setNil HN1.out (kc_set2 (by simp) r1) (kR_setNil HN1.out r0 hr5)
    · exact kR_setNil HN2.out (kc_set2 (by simp) r1) (kR_setNil HN2.out r0 hr6)
end Go.Proofs.YtjbloenjphpngaaGreat
