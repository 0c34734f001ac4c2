/-
  Contracts of GroupConjugation: reference and program.
-/
import Derived.Test.YtncmfbebdbchbaaProg
import Derived.Deep.DeepCutAuto
import Derived.Deep.RegionWith
import Derived.Deep.RegionHeld3
import Derived.Deep.DrawnRows
import Derived.Test.YtncmfbebdbchbaaBase
import Derived.Test.YtncmfbebdbchbaaBase2
import Derived.Test.YtncmfbebdbchbaaRet
import Derived.Test.YtncmfbebdbchbaaSteps
import Derived.Test.YtncmfbebdbchbaaGrow
import Derived.Test.YtncmfbebdbchbaaGrowR
import Derived.Test.YtncmfbebdbchbaaPure1
import Derived.Test.YtncmfbebdbchbaaPureOrd
import Derived.Test.YtncmfbebdbchbaaPureInv
import Derived.Test.YtncmfbebdbchbaaPureTurn
import Derived.Test.YtncmfbebdbchbaaPureConj
import Derived.Test.YtncmfbebdbchbaaW1
import Derived.Test.YtncmfbebdbchbaaW3
import Derived.Test.YtncmfbebdbchbaaW6
import Derived.Test.YtncmfbebdbchbaaW8
import Derived.Test.YtncmfbebdbchbaaW10
import Derived.Test.YtncmfbebdbchbaaW11
import Derived.Test.YtncmfbebdbchbaaW12
import Derived.Test.YtncmfbebdbchbaaW13
import Derived.Test.YtncmfbebdbchbaaW20
import Derived.Test.YtncmfbebdbchbaaW31
import Derived.Test.YtncmfbebdbchbaaK2
import Derived.Test.YtncmfbebdbchbaaK4
namespace Go.Proofs.Ytncmfbebdbchbaa
set_option linter.unusedVariables false
set_option linter.unusedSimpArgs false
open Go.RowKit
attribute [local go_sem ↓] Go.wp_at_zero Go.wp_at_succ

theorem groupConjugation1_any (t : List (List Int)) (v : Value) (b2 c2 : Nat) (x y B C : Nat) (w : World) (hB : w.cell? ⟨B, 0, none⟩ = some v) (hC : w.cell? ⟨C, 0, none⟩ = some (.slice (some ⟨b2, 0, none⟩) t.length c2)) (hv : Rows w v t) (hi : IntsAt w b2 0 (backs t)) (hG : GroupOk t) (hx : x < t.length) (hy : y < t.length) :
    Calls Try.prog 64 #[.int .i64 x, .int .i64 y, .pointer (some ⟨B, 0, none⟩), .pointer (some ⟨C, 0, none⟩)] w fun e w' => e = .returned (.int .i64 (conjF t x y)) ∧ Ext w w' := by
  obtain ⟨hlen, b, o, c, rfl, hc⟩ := id hv
  have hT := hG.1
  have h12 := hT.2.1
  have hb := backF_ok hG hx
  obtain ⟨d1, s1, m1, r1, l1⟩ := hc.read hT rfl hx
  obtain ⟨f1, p1, p2⟩ := l1 y hy
  obtain ⟨d2, s2, m2, r2, l2⟩ := hc.read hT rfl (x := (ent t x y).toNat) (by omega)
  obtain ⟨f2, p3, p4⟩ := l2 (backF t x).toNat (by omega)
  rw [conjF_def] at f2 p3 p4
  have ib := hi x (by rw [length_backs]; exact hx)
  rw [ix_backs _ _ hx, Nat.zero_add] at ib
  clear l1 l2
  go_enter Try.func64, Try.ntmps64
  go_wp2
  go_quiet (fail)
  go_wp2
  go_ret
  exact ⟨rfl, (Ext.refl _).drewN _⟩

theorem callGroupConjugation1 (args : Array Value) (w : World) : (callFunc 64 args).run Try.prog w = .ok (.enter 64 args) w :=
  callFunc_enter Try.func64 (by kernel_rfl) rfl args w

/-- two boxes: a table and its inverses -/
def TwoBox2 (t : List (List Int)) (v : Value) (w : World) (p q : Value) (wx : World) : Prop := ∃ B C b c, p = .pointer (some ⟨B, 0, none⟩) ∧ q = .pointer (some ⟨C, 0, none⟩) ∧
  wx.cell? ⟨B, 0, none⟩ = some v ∧ wx.cell? ⟨C, 0, none⟩ = some (.slice (some ⟨b, 0, none⟩) t.length c) ∧ IntsAt wx b 0 (backs t) ∧ Ext w wx

set_option maxRecDepth 100000 in
set_option maxHeartbeats 1000000 in
theorem GroupConjugation_impl (t : List (List Int)) (v : Value) (w : World) (hv : Rows w v t) :
    Calls Try.prog 18 #[.agg #[v]] w (NewGC (ifG t (mkT t.length (conjF t)) []) (codeG t) w) := by
  obtain ⟨hlen, b, o, c, rfl, hc⟩ := id hv
  have hx0 := ext_box2 w (.slice (some ⟨b, o, none⟩) t.length c) (.slice none 0 0) 29 26
  have b0 : ((w.alloc (.cells #[.slice (some ⟨b, o, none⟩) t.length c] 29)).alloc (.cells #[.slice none 0 0] 26)).cell? ⟨w.heap.size, 0, none⟩ = some (.slice (some ⟨b, o, none⟩) t.length c) := by simp [go_sem]
  have r0 : ((w.alloc (.cells #[.slice (some ⟨b, o, none⟩) t.length c] 29)).alloc (.cells #[.slice none 0 0] 26)).cell? ⟨w.heap.size + 1, 0, none⟩ = some (.slice none 0 0) := by simp [go_sem]
  have q0 : ((w.alloc (.cells #[.slice (some ⟨b, o, none⟩) t.length c] 29)).alloc (.cells #[.slice none 0 0] 26)).frozen? ⟨w.heap.size + 1, 0, none⟩ = false := by simp [go_sem]
  have z0 : w.heap.size + 2 = ((w.alloc (.cells #[.slice (some ⟨b, o, none⟩) t.length c] 29)).alloc (.cells #[.slice none 0 0] 26)).heap.size := by simp
  cases hg : groupB t with
  | false =>
    rw [ifG_no hg, codeG_no hg]
    go_enter Try.func18, Try.ntmps18
    go_wp2_with fail
    generalize (w.alloc (.cells #[.slice (some ⟨b, o, none⟩) t.length c] 29)).alloc (.cells #[.slice none 0 0] 26) = A at *
    refine (IsGroup_impl t _ _ (hv.ext hx0)).mono ?_
    rintro e w1 ⟨rfl, hx1⟩
    rw [hg]
    have f1 := hx1.cell r0
    have f2 := hx1.free q0 (by simp only []; omega)
    go_wp2
    refine bodyPost_ret (v := .tuple #[.agg #[.slice none 0 0], .int .i64 1]) (by simp [results, Try.results18, go_sem, f1]) rfl ⟨_, rfl, OwnV.nil _ _ _, (hx0.trans hx1).setNew (by simp only []; omega) _⟩
  | true =>
    have hG := groupB_iff.1 hg
    have HG := Lib.hid hG
    have h12 := hG.1.2.1
    rw [ifG_yes hg, codeG_yes hg]
    clear hG
    go_enter Try.func18, Try.ntmps18
    go_wp2_with fail
    generalize (w.alloc (.cells #[.slice (some ⟨b, o, none⟩) t.length c] 29)).alloc (.cells #[.slice none 0 0] 26) = A at *
    refine (IsGroup_impl t _ _ (hv.ext hx0)).mono ?_
    rintro e w1 ⟨rfl, hx1⟩
    rw [hg]
    have f1 := hx1.cell r0
    have f2 := hx1.free q0 (by simp only []; omega)
    have b1 := hx1.cell b0
    have zz := hx1.size
    have hX := hx0.trans hx1
    have zd : w1.drew.heap.size = w1.heap.size := rfl
    clear hx0 hx1 b0 r0 q0 hg
    go_wp2
    have n0 : ¬ w.heap.size = w1.heap.size := by omega
    have n1 : ¬ w.heap.size = w1.heap.size + 1 := by omega
    have n2 : w.heap.size < w1.heap.size := by omega
    go_cut [4, 5] (fun p q wx => TwoBox2 t (.slice (some ⟨b, o, none⟩) t.length c) w1 p q wx)
    case first =>
      go_region_held3 (fun w' => w'.cell? ⟨w.heap.size, 0, none⟩ = some (.slice (some ⟨b, o, none⟩) t.length c)) ((repeat first | (with_reducible assumption) |  (with_reducible exact kc_new) | ((with_reducible refine kc_newE ?_); (simp; done)) | (with_reducible apply kc_alloc) | (with_reducible apply kc_drewN) | (with_reducible apply kc_drew) | ((with_reducible refine kc_set ?_ ?_); (first | (simp only []; omega) | (simp; omega) | (simp; done))) | (with_reducible refine kc_same (v := .slice none 0 0) ?_))) ((go_at_call 62; refine (groupInverses_any t _ _ (hv.ext (hX.trans (by (repeat first | (with_reducible exact Ext.refl _) | (with_reducible assumption) | (with_reducible apply Ext.drew) | (with_reducible apply kx_drewN) | (with_reducible apply kx_alloc) | ((with_reducible refine kx_set ?_ ?_); (first | (simp only []; omega) | (simp; omega) | (simp; done))) ))))).mono ?_; rintro e w2 ⟨b2, c2, rfl, hi2, hx2⟩; have hs2 : w2.cell? ⟨w.heap.size, 0, none⟩ = some (.slice (some ⟨b, o, none⟩) t.length c) := hx2.cell (by (repeat first | (with_reducible assumption) |  (with_reducible exact kc_new) | ((with_reducible refine kc_newE ?_); (simp; done)) | (with_reducible apply kc_alloc) | (with_reducible apply kc_drewN) | (with_reducible apply kc_drew) | ((with_reducible refine kc_set ?_ ?_); (first | (simp only []; omega) | (simp; omega) | (simp; done))) | (with_reducible refine kc_same (v := .slice none 0 0) ?_))); obtain ⟨hc2, hf2⟩ := bcell hx2; have hz2 := hx2.size; (try simp at hz2); (have hl9 : w.heap.size < w2.heap.size := by omega); (have hn9 : ¬ w.heap.size = w2.heap.size := by omega); (try have hl0 : w1.heap.size < w2.heap.size := by omega); (try have hl1 : w1.heap.size + 1 < w2.heap.size := by omega)))
      all_goals
        have IS := hi2
        go_wp2_with fail
        go_meet
        case rel =>
          refine ⟨_, _, b2, c2, rfl, rfl, ?_, ?_, ?_, ?_⟩
          · (repeat first | (with_reducible assumption) | (with_reducible refine Ext.cell hx2 ?_) |  (with_reducible exact kc_new) | ((with_reducible refine kc_newE ?_); (simp; done)) | (with_reducible apply kc_alloc) | (with_reducible apply kc_drewN) | (with_reducible apply kc_drew) | ((with_reducible refine kc_set ?_ ?_); (first | (simp only []; omega) | (simp; omega) | (simp; done))) | (with_reducible refine kc_same (v := .slice none 0 0) ?_))
          · (repeat first | (with_reducible assumption) | (with_reducible refine Ext.cell hx2 ?_) |  (with_reducible exact kc_new) | ((with_reducible refine kc_newE ?_); (simp; done)) | (with_reducible apply kc_alloc) | (with_reducible apply kc_drewN) | (with_reducible apply kc_drew) | ((with_reducible refine kc_set ?_ ?_); (first | (simp only []; omega) | (simp; omega) | (simp; done))) | (with_reducible refine kc_same (v := .slice none 0 0) ?_))
          · (repeat first | exact hi2 | (with_reducible apply ki_alloc) | (with_reducible apply ki_drew) | ((with_reducible refine ki_setNil ?_ ?_); focus (repeat first | (with_reducible assumption) | (with_reducible refine Ext.cell hx2 ?_) |  (with_reducible exact kc_new) | ((with_reducible refine kc_newE ?_); (simp; done)) | (with_reducible apply kc_alloc) | (with_reducible apply kc_drewN) | (with_reducible apply kc_drew) | ((with_reducible refine kc_set ?_ ?_); (first | (simp only []; omega) | (simp; omega) | (simp; done))) | (with_reducible refine kc_same (v := .slice none 0 0) ?_)); done))
          · (repeat first | (with_reducible exact Ext.refl _) | (with_reducible assumption) | (with_reducible apply Ext.drew) | (with_reducible apply kx_drewN) | (with_reducible apply kx_alloc) | ((with_reducible refine kx_set ?_ ?_); (first | (simp only []; omega) | (simp; omega) | (simp; done))) | (with_reducible refine Ext.trans ?_ hx2) )
    case rest =>
      obtain ⟨B, C, b2, c2, rfl, rfl, g1, g2, hi2, hx2⟩ := hcut
      obtain ⟨w2, rfl⟩ : ∃ z : World, z = wc := ⟨_, rfl⟩
      have f3 := hx2.cell f1
      have f4 := hx2.free f2 (by simp only []; omega)
      have hX2 := hX.trans hx2
      have z2 := hx2.size
      go_wp2_with fail
      refine (rackBy_any t.length (conjF t) 64 #[.pointer (some ⟨B, 0, none⟩), .pointer (some ⟨C, 0, none⟩)] _ (by omega) callGroupConjugation1 (fun w3 x y h3 hx hy => by
        rw [app22]
        exact groupConjugation1_any t _ b2 c2 x y B C w3 (h3.cell g1) (h3.cell g2) (hv.ext (hX2.trans h3)) (hi2.ext h3) HG.out hx hy)).mono ?_
      rintro e w3 ⟨b3, c3, rfl, ho3, hx3⟩
      have f5 := hx3.cell f3
      have f6 := hx3.free f4 (by simp only []; omega)
      have z3 := hx3.size
      go_wp2
      refine bodyPost_ret (v := .tuple #[.agg #[.slice (some ⟨b3, 0, none⟩) (mkT t.length (conjF t)).length c3], .int .i64 0]) (by simp [results, Try.results18, go_sem, f5]) rfl ⟨_, rfl, ?_, (hX2.trans hx3).setNew (by simp only []; omega) _⟩
      have hs := (ho3.setOther (a := ⟨w.heap.size + 1, 0, none⟩) (.inl (by simp only []; omega)) (.slice (some ⟨b3, 0, none⟩) (mkT t.length (conjF t)).length c3)).mono (lo' := w.heap.size) (hi' := w3.heap.size) (by omega) (Nat.le_refl _)
      simpa using hs.v (small_mkT (by omega) _) c3
set_option maxRecDepth 100000 in
set_option maxHeartbeats 1000000 in
theorem GroupConjugation_spec (t : List (List Int)) (v : Value) (w : World) (hv : Rows w v t) :
    Calls Try.prog 16 #[.agg #[v]] w (RetG (ifG t (mkT t.length (conjF t)) []) (codeG t) w) := by
  obtain ⟨hlen, b, o, c, rfl, hc⟩ := id hv
  have hx0 := ext_box2 w (.slice (some ⟨b, o, none⟩) t.length c) (.slice none 0 0) 29 26
  have b0 : ((w.alloc (.cells #[.slice (some ⟨b, o, none⟩) t.length c] 29)).alloc (.cells #[.slice none 0 0] 26)).cell? ⟨w.heap.size, 0, none⟩ = some (.slice (some ⟨b, o, none⟩) t.length c) := by simp [go_sem]
  have r0 : ((w.alloc (.cells #[.slice (some ⟨b, o, none⟩) t.length c] 29)).alloc (.cells #[.slice none 0 0] 26)).cell? ⟨w.heap.size + 1, 0, none⟩ = some (.slice none 0 0) := by simp [go_sem]
  have q0 : ((w.alloc (.cells #[.slice (some ⟨b, o, none⟩) t.length c] 29)).alloc (.cells #[.slice none 0 0] 26)).frozen? ⟨w.heap.size + 1, 0, none⟩ = false := by simp [go_sem]
  have z0 : w.heap.size + 2 = ((w.alloc (.cells #[.slice (some ⟨b, o, none⟩) t.length c] 29)).alloc (.cells #[.slice none 0 0] 26)).heap.size := by simp
  cases hg : groupB t with
  | false =>
    rw [ifG_no hg, codeG_no hg]
    go_enter Try.func16, Try.ntmps16
    go_wp2_with fail
    generalize (w.alloc (.cells #[.slice (some ⟨b, o, none⟩) t.length c] 29)).alloc (.cells #[.slice none 0 0] 26) = A at *
    refine (l10Is_any t _ _ (hv.ext hx0)).mono ?_
    rintro e w1 ⟨rfl, hx1⟩
    rw [hg]
    have f1 := hx1.cell r0
    have f2 := hx1.free q0 (by simp only []; omega)
    go_wp2
    refine bodyPost_ret (v := .tuple #[.agg #[.slice none 0 0], .int .i64 1]) (by simp [results, Try.results16, go_sem, f1]) rfl ⟨_, rfl, RowsR.nil _ _, (hx0.trans hx1).setNew (by simp only []; omega) _⟩
  | true =>
    have hG := groupB_iff.1 hg
    have HG := Lib.hid hG
    have h12 := hG.1.2.1
    have HLT := Lib.hid (length_mkT t.length (conjF t))
    have HB := Lib.hid (fun x (hx : x < t.length) => backF_ok hG hx)
    rw [ifG_yes hg, codeG_yes hg]
    clear hG
    go_enter Try.func16, Try.ntmps16
    go_wp2_with fail
    generalize (w.alloc (.cells #[.slice (some ⟨b, o, none⟩) t.length c] 29)).alloc (.cells #[.slice none 0 0] 26) = A at *
    refine (l10Is_any t _ _ (hv.ext hx0)).mono ?_
    rintro e w1 ⟨rfl, hx1⟩
    rw [hg]
    have f1 := hx1.cell r0
    have f2 := hx1.free q0 (by simp only []; omega)
    have b1 := hx1.cell b0
    have zz := hx1.size
    have hX := hx0.trans hx1
    clear hx0 hx1 b0 r0 q0 hg
    go_wp2
    have hxB := ext_box w1 (.slice none 0 0) 26
    have bB := cell_new w1 (.slice none 0 0) 26
    have qB : (w1.alloc (.cells #[.slice none 0 0] 26)).frozen? ⟨w1.heap.size, 0, none⟩ = false := by simp [go_sem]
    have zB : w1.heap.size + 1 = (w1.alloc (.cells #[.slice none 0 0] 26)).heap.size := by simp
    have gB := GrowT.nil 50 (w1.alloc (.cells #[.slice none 0 0] 26)).heap.size (w1.alloc (.cells #[.slice none 0 0] 26))
    have hXB := hX.trans hxB
    generalize w1.alloc (.cells #[.slice none 0 0] 26) = B at *
    go_loopw [5] (fun x wr => ∃ k : Nat, k ≤ t.length ∧ x = .int .i64 k ∧ ∃ v, wr.cell? ⟨w1.heap.size, 0, none⟩ = some v ∧ GrowT 50 B.heap.size wr v ((mkT t.length (conjF t)).take k) ∧ wr.frozen? ⟨w1.heap.size, 0, none⟩ = false ∧ Ext w1 wr ∧ B.heap.size ≤ wr.heap.size) (fun x _ => t.length - (intOf x).toNat)
    case atStart => exact ⟨0, Nat.zero_le _, rfl, _, bB, gB, qB, hxB, Nat.le_refl _⟩
    case round =>
      clear bB qB hxB gB hXB
      obtain ⟨k, hk, rfl, v, bv, hg, qv, hx, zr⟩ := hrel
      obtain ⟨sa, sc, rfl⟩ := hg.slice
      have htl : ((mkT t.length (conjF t)).take k).length = k := by rw [List.length_take, HLT.out]; omega
      rw [htl] at hg bv
      have HTL := Lib.hid htl
      clear htl
      have b2 := hx.cell b1
      have g1 := hx.cell f1
      have g2 := hx.free f2 (by simp only []; omega)
      by_cases hkl : k < t.length
      case neg =>
        have hkk : k = t.length := by omega
        subst hkk
        have htk : (mkT t.length (conjF t)).take t.length = mkT t.length (conjF t) := List.take_of_length_le (by rw [HLT.out]; omega)
        rw [htk] at hg
        go_wp2
        refine bodyPost_ret (v := .tuple #[.agg #[.slice sa t.length sc], .int .i64 0]) (by simp [results, Try.results16, go_sem, g1]) rfl ⟨_, rfl, ?_, (hX.trans hx).setNew (by simp only []; omega) _⟩
        exact (hg.setSl (a := ⟨w.heap.size + 1, 0, none⟩) g1 (by simp only []; omega) _).toR
      case pos =>
        obtain ⟨w2, rfl⟩ : ∃ w2 : World, w2 = wr := ⟨_, rfl⟩
        go_wp2
        have hxa : Ext w2 (w2.alloc (.cells #[] 2)) := (Ext.refl _).alloc _
        have hi0 := GrowI.lit (e := 2) (base := w2.heap.size) (w := w2) (Nat.le_refl _)
        have hrl : (row (mkT t.length (conjF t)) k).length = t.length := by rw [row_mkT _ _ _ hkl, length_partRow]
        have HRL := Lib.hid hrl
        have HO := Lib.hid hg.lt
        clear hrl
        go_loopw [6, 7] (fun v y wr => ∃ j : Nat, j ≤ t.length ∧ y = .int .i64 j ∧ GrowI 2 w2.heap.size wr v ((row (mkT t.length (conjF t)) k).take j) ∧ v ≠ .slice none 0 0 ∧ Ext w2 wr) (fun _ y _ => t.length - (intOf y).toNat)
        case atStart => exact ⟨0, Nat.zero_le _, rfl, hi0, by simp, hxa⟩
        case round =>
          clear hxa hi0
          obtain ⟨j, hj, rfl, hi, hvr, hx2⟩ := hrel
          have HVR := Lib.hid hvr
          clear hvr
          have c2 := hx2.cell b2
          by_cases hjl : j < t.length
          case neg =>
            have hta : (row (mkT t.length (conjF t)) k).take j = row (mkT t.length (conjF t)) k := List.take_of_length_le (by rw [HRL.out]; omega)
            rw [hta] at hi
            obtain ⟨br, cr, rfl, hri, hrb, hrb2⟩ := hi.row HVR.out
            have hgw := hg.ext hx2
            have hne : some br ≠ (Value.slice sa k sc).ownBlock := fun e => by have := HO.out br e.symm; omega
            have bv2 := hx2.cell bv
            have qv2 := hx2.free qv (by simp only []; omega)
            clear hg
            go_wp2_with (at_builtin; refine wpList_append_row rfl _ _ 22 50 rfl Try.underlying22 infoSl B.heap.size _ _ rfl (hgw.ext (ext_box _ _ _)) _ br cr _ rfl (cell_new _ _ _) (hri.ext (ext_box _ _ _)) (by rw [HRL.out]; omega) hne (by rw [HTL.out]; omega) (by have := hx.size; have := hx2.size; simp; omega) ?_)
            intro v' w3 hg3 hgr hv3
            have hx3 : Ext w1 w3 := Ext.grown ((hx.trans hx2).trans (ext_box _ _ _)) hgr (hgw.ext (ext_box _ _ _)).own.choose_spec (by omega)
            have hgr2 := hgr.size
            have bv3 : w3.cell? ⟨w1.heap.size, 0, none⟩ = some (Value.slice sa k sc) := by
              rw [hgr.cell_far _ (by simp; omega) (by intro e; have := HO.out _ e.symm; simp only [] at this; omega)]
              exact (ext_box _ _ _).cell bv2
            have qv3 : w3.frozen? ⟨w1.heap.size, 0, none⟩ = false := by
              rw [hgr.frozen_far _ (by simp; omega) (by intro e; have := HO.out _ e.symm; simp only [] at this; omega)]
              exact (ext_box _ _ _).free qv2 (by simp only []; have := hx2.size; omega)
            clear hgr hne hgw
            obtain ⟨a3, c3, rfl⟩ := hg3.slice
            have hl3 : ((mkT t.length (conjF t)).take k ++ [row (mkT t.length (conjF t)) k]).length = k + 1 := by rw [List.length_append, HTL.out]; rfl
            rw [hl3] at hg3 ⊢
            clear hl3 hv3
            go_wp2
            go_roundw
            case rel => exact ⟨k + 1, by omega, by go_num, _, World.cell?_setCell_same _ _ _ bv3, by rw [take_row _ _ (by rw [HLT.out]; exact hkl)]; exact hg3.setSl bv3 (by simp only []; omega) _, by rw [World.frozen?_setCell]; exact qv3, hx3.setNew (by simp only []; omega) _, by have := hx2.size; have := hgr2; simp at *; omega⟩
            case measure => simp [intOf]; omega
          case pos =>
            have hp := HB.out k hkl
            obtain ⟨d1, s1, m1, r1, l1⟩ := (hc.ext (hX.trans hx)).read HG.out.1 rfl hkl
            obtain ⟨e1, i1, i2⟩ := l1 j hjl
            obtain ⟨d2, s2, m2, r2, l2⟩ := (hc.ext (hX.trans hx)).read HG.out.1 rfl (x := (ent t k j).toNat) (by omega)
            obtain ⟨e2, i3, i4⟩ := l2 (backF t k).toNat (by omega)
            rw [conjF_def] at e2 i3 i4
            have i5 : backF t k < (t.length : Int) := by omega
            have p1 := hx2.cell r1
            have p2 := hx2.cell r2
            have p3 := hx2.cell e1
            have p4 := hx2.cell e2
            have hlj : ((row (mkT t.length (conjF t)) k).take j).length = j := by rw [List.length_take, HRL.out]; omega
            have HLJ := Lib.hid hlj
            clear hlj l1 l2
            go_wp2_with fail
            go_region_held3 (fun w' => w'.cell? ⟨w.heap.size, 0, none⟩ = some (.slice (some ⟨b, o, none⟩) t.length c) ∧ w'.cell? ⟨b, o + k, none⟩ = some (.slice (some ⟨d1, s1, none⟩) t.length m1) ∧ w'.cell? ⟨b, o + (ent t k j).toNat, none⟩ = some (.slice (some ⟨d2, s2, none⟩) t.length m2) ∧ w'.cell? ⟨d1, s1 + j, none⟩ = some (.int .i64 (ent t k j)) ∧ w'.cell? ⟨d2, s2 + (backF t k).toNat, none⟩ = some (.int .i64 (conjF t k j)))
              ((refine ⟨?_, ?_, ?_, ?_, ?_⟩ <;> (repeat first | (with_reducible assumption) | (with_reducible refine Ext.cell hx3 ?_) |  (with_reducible exact kc_new) | ((with_reducible refine kc_newE ?_); (simp; done)) | (with_reducible apply kc_alloc) | (with_reducible apply kc_drewN) | (with_reducible apply kc_drew) | ((with_reducible refine kc_set ?_ ?_); (first | (simp only []; omega) | (simp; omega) | (simp; done))) | (with_reducible refine kc_same (v := .slice none 0 0) ?_))))
              (first
                | (go_at_call 59; refine (l10Back_any t _ k _ (hv.ext ((hX.trans (hx.trans hx2)).trans (by (repeat first | (with_reducible exact Ext.refl _) | (with_reducible assumption) | (with_reducible apply Ext.drew) | (with_reducible apply kx_drewN) | (with_reducible apply kx_alloc) | ((with_reducible refine kx_set ?_ ?_); (first | (simp only []; omega) | (simp; omega) | (simp; done))) )))) hkl).mono ?_; rintro e w' ⟨rfl, rfl⟩)
                | (refine step_append_int (by rfl) _ _ 50 2 (by rfl) Try.underlying50 infoInt w2.heap.size _ _ (by rfl) (hi.ext (by (repeat first | (with_reducible exact Ext.refl _) | (with_reducible assumption) | (with_reducible apply Ext.drew) | (with_reducible apply kx_drewN) | (with_reducible apply kx_alloc) | ((with_reducible refine kx_set ?_ ?_); (first | (simp only []; omega) | (simp; omega) | (simp; done))) ))) _ _ (by rfl) (by (repeat first | (with_reducible assumption) |  (with_reducible exact kc_new) | ((with_reducible refine kc_newE ?_); (simp; done)) | (with_reducible apply kc_alloc) | (with_reducible apply kc_drewN) | (with_reducible apply kc_drew) | ((with_reducible refine kc_set ?_ ?_); (first | (simp only []; omega) | (simp; omega) | (simp; done))) | (with_reducible refine kc_same (v := .slice none 0 0) ?_))) (by rw [HLJ.out]; omega) (by have := hx2.size; simp; omega) ?_; intro v' w3 hi3 hgr hv3; have hx3 : Ext w2 w3 := Ext.grown (hx2.trans (by (repeat first | (with_reducible exact Ext.refl _) | (with_reducible assumption) | (with_reducible apply Ext.drew) | (with_reducible apply kx_drewN) | (with_reducible apply kx_alloc) | ((with_reducible refine kx_set ?_ ?_); (first | (simp only []; omega) | (simp; omega) | (simp; done))) ))) hgr (hi.ext (by (repeat first | (with_reducible exact Ext.refl _) | (with_reducible assumption) | (with_reducible apply Ext.drew) | (with_reducible apply kx_drewN) | (with_reducible apply kx_alloc) | ((with_reducible refine kx_set ?_ ?_); (first | (simp only []; omega) | (simp; omega) | (simp; done))) ))) (Nat.le_refl _)))
            all_goals
              go_wp2
              go_roundw
              case rel => exact ⟨j + 1, by omega, by go_num, by
                rw [take_ix _ _ (by rw [HRL.out]; exact hjl), row_mkT _ _ _ hkl, ix_partRow _ _ _ _ _ hjl, if_pos hjl]
                rw [row_mkT _ _ _ hkl] at hi3
                exact hi3, hv3, hx3⟩
              case measure => simp [intOf]; omega
end Go.Proofs.Ytncmfbebdbchbaa
