/-
  The law FnExactGroupIsomorphism, walked.
-/
import Derived.Test.YtjcpeenalbgacaaProg
import Derived.Deep.DeepCutAuto
import Derived.Deep.RegionWith
import Derived.Deep.RegionHeld3
import Derived.Deep.DrawnRows
import Derived.Test.YtjcpeenalbgacaaJx0
import Derived.Test.YtjcpeenalbgacaaJx1
import Derived.Test.YtjcpeenalbgacaaJx3
import Derived.Test.YtjcpeenalbgacaaJx5
import Derived.Test.YtjcpeenalbgacaaJx6
import Derived.Test.YtjcpeenalbgacaaJx7
import Derived.Test.YtjcpeenalbgacaaJx9
import Derived.Test.YtjcpeenalbgacaaJx11
import Derived.Test.YtjcpeenalbgacaaJx16
import Derived.Test.YtjcpeenalbgacaaJx31
import Derived.Test.YtjcpeenalbgacaaJx36
namespace Go.Proofs.Ytjcpeenalbgacaa
set_option linter.unusedVariables false
set_option linter.unusedSimpArgs false
open Go.RowKit
attribute [local go_sem ↓] Go.wp_at_zero Go.wp_at_succ

set_option maxRecDepth 100000 in
set_option maxHeartbeats 2000000 in
theorem lawGroupIsomorphism (w : World) (t0 : List (List Int)) (v0 : Value) (hv0 : RowsR w v0 t0) (hl0 : t0.length ≤ maxLen) (hr0 : ∀ i, (row t0 i).length ≤ maxLen) (t1 : List (List Int)) (v1 : Value) (hv1 : RowsR w v1 t1) (hl1 : t1.length ≤ maxLen) (hr1 : ∀ i, (row t1 i).length ≤ maxLen) : Calls Try.prog 11 #[.agg #[v0], .agg #[v1]] w fun e w' => e = .returned (.bool true) ∧ Ext w w' := by
  obtain ⟨v0a, v0c, rfl, -⟩ := id hv0
  have HR0 := Lib.hid hr0
  clear hr0
  obtain ⟨v1a, v1c, rfl, -⟩ := id hv1
  have HR1 := Lib.hid hr1
  clear hr1
  have hX : Ext w ((w.alloc (.cells #[.slice v0a t0.length v0c] 51)).alloc (.cells #[.slice v1a t1.length v1c] 51)) := ((Ext.refl _).alloc _).alloc _
  have zX : w.heap.size + 2 = ((w.alloc (.cells #[.slice v0a t0.length v0c] 51)).alloc (.cells #[.slice v1a t1.length v1c] 51)).heap.size := by simp
  have b00 : ((w.alloc (.cells #[.slice v0a t0.length v0c] 51)).alloc (.cells #[.slice v1a t1.length v1c] 51)).cell? ⟨w.heap.size, 0, none⟩ = some (.slice v0a t0.length v0c) := by simp [go_sem]
  have b10 : ((w.alloc (.cells #[.slice v0a t0.length v0c] 51)).alloc (.cells #[.slice v1a t1.length v1c] 51)).cell? ⟨w.heap.size + 1, 0, none⟩ = some (.slice v1a t1.length v1c) := by simp [go_sem]
  go_enter Try.func11, Try.ntmps11
  go_wp2_with fail
  generalize ((w.alloc (.cells #[.slice v0a t0.length v0c] 51)).alloc (.cells #[.slice v1a t1.length v1c] 51)) = A0 at *
  refine (szGroup_any t0 _ _ _ (hv0.ext hX) hl0 HR0.out (by omega) (by omega)).mono ?_
  rintro e w1 ⟨q0, rfl, gq0, gp0, gr0, hx⟩
  have GR0 := Lib.hid gr0
  clear gr0
  by_cases hneg0 : q0 < 0
  · go_wp2
    go_ret
    exact ⟨rfl, hX.trans hx⟩
  have hs0 := GR0.out (by omega)
  clear GR0
  have zz1 := Ext.size hx
  replace hX := Ext.trans hX hx
  replace b00 := Ext.cell hx b00
  replace b10 := Ext.cell hx b10
  clear hx
  go_wp2_with fail
  refine (szGroup_any t1 _ _ _ (hv1.ext hX) hl1 HR1.out (by omega) (by omega)).mono ?_
  rintro e w2 ⟨q1, rfl, gq1, gp1, gr1, hx⟩
  have GR1 := Lib.hid gr1
  clear gr1
  by_cases hneg1 : q1 < 0
  · go_wp2
    go_ret
    exact ⟨rfl, hX.trans hx⟩
  have hs1 := GR1.out (by omega)
  clear GR1
  have zz2 := Ext.size hx
  replace hX := Ext.trans hX hx
  replace b00 := Ext.cell hx b00
  replace b10 := Ext.cell hx b10
  clear hx
  go_wp2_with fail
  go_cut [6, 7] (fun p q wx => Box0 (gisoV t0 t1) (gisoC t0 t1) w2 p q wx)
  case first =>
    have hzz := w2.heap.size
    go_region_held3 (fun w' => w'.cell? ⟨w.heap.size, 0, none⟩ = some (.slice v0a t0.length v0c) ∧ w'.cell? ⟨w.heap.size + 1, 0, none⟩ = some (.slice v1a t1.length v1c))
      ((refine ⟨?_, ?_⟩ <;> (repeat first | (with_reducible assumption) | (with_reducible refine Ext.cell hq ?_) | (with_reducible refine Ext.cell hd0 ?_) | (with_reducible refine Ext.cell hd1 ?_) |  (with_reducible exact kc_new) | ((with_reducible refine kc_newE ?_); (simp; done)) | ((with_reducible refine kc_newEa ?_); (simp; done)) | ((with_reducible refine kc_newEb ?_); (simp; done)) | (with_reducible apply kc_alloc) | (with_reducible apply kc_drewN) | (with_reducible apply kc_drew) | ((with_reducible refine kc_set ?_ ?_); (first | (simp only []; omega) | (simp; omega) | (focus (simp; done)))) | ((with_reducible refine kc_set2 ?_ ?_); (focus (simp; done))) | (with_reducible refine kc_same (v := .slice none 0 0) ?_))))
      (first
      | (go_at_call 42; refine Calls.mono (toGroup_new ?_ _ _ ?_ ?_) ?_; rotate_left; (refine hv0.ext (hX.trans ?_)); (focus ((repeat first | (with_reducible exact Ext.refl _) | (with_reducible assumption) | (with_reducible apply Ext.drew) | (with_reducible apply kx_drewN) | (with_reducible apply kx_alloc) | ((with_reducible refine kx_set ?_ ?_); (first | (simp only []; omega) | (simp; omega) | (focus (simp; done)))) | (with_reducible refine Ext.trans ?_ hd1) ); done)); exact hs0; rintro e wd0 ⟨s0v, rfl, -, s0r, hd0⟩; obtain ⟨-, s0b, s0f, s0c, rfl, -⟩ := id s0r; obtain ⟨hc0, hf0⟩ := bcell hd0; have hz_0 := hd0.size; (try simp at hz_0); (try have lc0 : w2.heap.size < wd0.heap.size := by omega); (try have lc1 : w2.heap.size < wd1.heap.size := by omega); (try have lcq : w2.heap.size < wq.heap.size := by omega); (try have l01 : wd0.heap.size < wd1.heap.size := by omega); (try have l0q : wd0.heap.size < wq.heap.size := by omega); (try have l10 : wd1.heap.size < wd0.heap.size := by omega); (try have l1q : wd1.heap.size < wq.heap.size := by omega); (try have nc0 : ¬ w2.heap.size = wd0.heap.size := by omega); (try have nc1 : ¬ w2.heap.size = wd1.heap.size := by omega); (try have ncq : ¬ w2.heap.size = wq.heap.size := by omega); (try have n01 : ¬ wd0.heap.size = wd1.heap.size := by omega); (try have n0q : ¬ wd0.heap.size = wq.heap.size := by omega); (try have n10 : ¬ wd1.heap.size = wd0.heap.size := by omega); (try have n1q : ¬ wd1.heap.size = wq.heap.size := by omega))
      | (go_at_call 42; refine Calls.mono (toGroup_new ?_ _ _ ?_ ?_) ?_; rotate_left; (refine hv1.ext (hX.trans ?_)); (focus ((repeat first | (with_reducible exact Ext.refl _) | (with_reducible assumption) | (with_reducible apply Ext.drew) | (with_reducible apply kx_drewN) | (with_reducible apply kx_alloc) | ((with_reducible refine kx_set ?_ ?_); (first | (simp only []; omega) | (simp; omega) | (focus (simp; done)))) | (with_reducible refine Ext.trans ?_ hd0) ); done)); exact hs1; rintro e wd1 ⟨s1v, rfl, -, s1r, hd1⟩; obtain ⟨-, s1b, s1f, s1c, rfl, -⟩ := id s1r; obtain ⟨hc1, hf1⟩ := bcell hd1; have hz_1 := hd1.size; (try simp at hz_1); (try have lc0 : w2.heap.size < wd0.heap.size := by omega); (try have lc1 : w2.heap.size < wd1.heap.size := by omega); (try have lcq : w2.heap.size < wq.heap.size := by omega); (try have l01 : wd0.heap.size < wd1.heap.size := by omega); (try have l0q : wd0.heap.size < wq.heap.size := by omega); (try have l10 : wd1.heap.size < wd0.heap.size := by omega); (try have l1q : wd1.heap.size < wq.heap.size := by omega); (try have nc0 : ¬ w2.heap.size = wd0.heap.size := by omega); (try have nc1 : ¬ w2.heap.size = wd1.heap.size := by omega); (try have ncq : ¬ w2.heap.size = wq.heap.size := by omega); (try have n01 : ¬ wd0.heap.size = wd1.heap.size := by omega); (try have n0q : ¬ wd0.heap.size = wq.heap.size := by omega); (try have n10 : ¬ wd1.heap.size = wd0.heap.size := by omega); (try have n1q : ¬ wd1.heap.size = wq.heap.size := by omega))
      | (go_at_call 47; refine (GroupIsomorphism_spec _ _ _ _ _ (s0r.ext (by (repeat first | (with_reducible exact Ext.refl _) | (with_reducible assumption) | (with_reducible apply Ext.drew) | (with_reducible apply kx_drewN) | (with_reducible apply kx_alloc) | ((with_reducible refine kx_set ?_ ?_); (first | (simp only []; omega) | (simp; omega) | (focus (simp; done)))) | (with_reducible refine Ext.trans ?_ hd1) ))) (s1r.ext (by (repeat first | (with_reducible exact Ext.refl _) | (with_reducible assumption) | (with_reducible apply Ext.drew) | (with_reducible apply kx_drewN) | (with_reducible apply kx_alloc) | ((with_reducible refine kx_set ?_ ?_); (first | (simp only []; omega) | (simp; omega) | (focus (simp; done)))) | (with_reducible refine Ext.trans ?_ hd0) )))).mono ?_; rintro e wq ⟨qv, rfl, qo, hq⟩; obtain ⟨qa, qc, rfl, -⟩ := id qo; obtain ⟨hcq, hfq⟩ := bcell hq; have hz_q := hq.size; (try simp at hz_q); (try have lc0 : w2.heap.size < wd0.heap.size := by omega); (try have lc1 : w2.heap.size < wd1.heap.size := by omega); (try have lcq : w2.heap.size < wq.heap.size := by omega); (try have l01 : wd0.heap.size < wd1.heap.size := by omega); (try have l0q : wd0.heap.size < wq.heap.size := by omega); (try have l10 : wd1.heap.size < wd0.heap.size := by omega); (try have l1q : wd1.heap.size < wq.heap.size := by omega); (try have nc0 : ¬ w2.heap.size = wd0.heap.size := by omega); (try have nc1 : ¬ w2.heap.size = wd1.heap.size := by omega); (try have ncq : ¬ w2.heap.size = wq.heap.size := by omega); (try have n01 : ¬ wd0.heap.size = wd1.heap.size := by omega); (try have n0q : ¬ wd0.heap.size = wq.heap.size := by omega); (try have n10 : ¬ wd1.heap.size = wd0.heap.size := by omega); (try have n1q : ¬ wd1.heap.size = wq.heap.size := by omega)))
    all_goals
      have qr := qo
      go_wp2_with fail
      go_meet
      case rel =>
        refine ⟨qa, qc, rfl, rfl, ?_, ?_⟩
        · exact qr
        · (repeat first | (with_reducible exact Ext.refl _) | (with_reducible assumption) | (with_reducible apply Ext.drew) | (with_reducible apply kx_drewN) | (with_reducible apply kx_alloc) | ((with_reducible refine kx_set ?_ ?_); (first | (simp only []; omega) | (simp; omega) | (focus (simp; done)))) | (with_reducible refine Ext.trans ?_ hq) | (with_reducible refine Ext.trans ?_ hd0) | (with_reducible refine Ext.trans ?_ hd1) )
  case rest =>
    obtain ⟨ra, rc, rfl, rfl, ro, hx⟩ := hcut
    obtain ⟨w3, rfl⟩ : ∃ z : World, z = wc := ⟨_, rfl⟩
    have zz3 := Ext.size hx
    replace hX := Ext.trans hX hx
    replace b00 := Ext.cell hx b00
    replace b10 := Ext.cell hx b10
    clear hx
    have hA := Ext.refl w3
    go_wp2_with fail
    refine (toGroup_new t0 _ _ (hv0.ext hX) hs0).mono ?_
    rintro e w4 ⟨x0v, rfl, x0o, x0r, hx⟩
    obtain ⟨-, x0b, x0f, x0c, rfl, -⟩ := id x0r
    have zz4 := Ext.size hx
    replace hX := Ext.trans hX hx
    replace hA := Ext.trans hA hx
    replace b00 := Ext.cell hx b00
    replace b10 := Ext.cell hx b10
    clear hx
    have hx : Ext w4 (w4.alloc (.cells #[.slice (some ⟨x0b, x0f, none⟩) t0.length x0c] 53)) := (Ext.refl _).alloc _
    have zB0 : w4.heap.size + 1 = (w4.alloc (.cells #[.slice (some ⟨x0b, x0f, none⟩) t0.length x0c] 53)).heap.size := by simp
    have xb00 : (w4.alloc (.cells #[.slice (some ⟨x0b, x0f, none⟩) t0.length x0c] 53)).cell? ⟨w4.heap.size, 0, none⟩ = some (.slice (some ⟨x0b, x0f, none⟩) t0.length x0c) := by simp [go_sem]
    replace hX := Ext.trans hX hx
    replace hA := Ext.trans hA hx
    replace b00 := Ext.cell hx b00
    replace b10 := Ext.cell hx b10
    replace x0o := OwnV.ext x0o hx (Nat.le_refl _)
    replace x0r := x0r.ext hx
    clear hx
    go_wp2_with fail
    generalize (w4.alloc (.cells #[.slice (some ⟨x0b, x0f, none⟩) t0.length x0c] 53)) = w5 at *
    refine (toGroup_new t1 _ _ (hv1.ext hX) hs1).mono ?_
    rintro e w6 ⟨x1v, rfl, x1o, x1r, hx⟩
    obtain ⟨-, x1b, x1f, x1c, rfl, -⟩ := id x1r
    have zz6 := Ext.size hx
    replace hX := Ext.trans hX hx
    replace hA := Ext.trans hA hx
    replace b00 := Ext.cell hx b00
    replace b10 := Ext.cell hx b10
    replace xb00 := Ext.cell hx xb00
    replace x0o := OwnV.ext x0o hx (by omega)
    replace x0r := x0r.ext hx
    clear hx
    have hx : Ext w6 (w6.alloc (.cells #[.slice (some ⟨x1b, x1f, none⟩) t1.length x1c] 53)) := (Ext.refl _).alloc _
    have zB1 : w6.heap.size + 1 = (w6.alloc (.cells #[.slice (some ⟨x1b, x1f, none⟩) t1.length x1c] 53)).heap.size := by simp
    have xb10 : (w6.alloc (.cells #[.slice (some ⟨x1b, x1f, none⟩) t1.length x1c] 53)).cell? ⟨w6.heap.size, 0, none⟩ = some (.slice (some ⟨x1b, x1f, none⟩) t1.length x1c) := by simp [go_sem]
    replace hX := Ext.trans hX hx
    replace hA := Ext.trans hA hx
    replace b00 := Ext.cell hx b00
    replace b10 := Ext.cell hx b10
    replace xb00 := Ext.cell hx xb00
    replace x0o := OwnV.ext x0o hx (by omega)
    replace x1o := OwnV.ext x1o hx (Nat.le_refl _)
    replace x1r := x1r.ext hx
    replace x0r := x0r.ext hx
    clear hx
    go_wp2_with fail
    generalize (w6.alloc (.cells #[.slice (some ⟨x1b, x1f, none⟩) t1.length x1c] 53)) = w7 at *
    refine (GroupIsomorphism_impl _ _ _ _ _ x0r x1r).mono ?_
    rintro e w8 ⟨gv, rfl, go, hx⟩
    obtain ⟨-, ga, gc, rfl, -⟩ := id go
    have zz8 := Ext.size hx
    replace hX := Ext.trans hX hx
    replace hA := Ext.trans hA hx
    replace b00 := Ext.cell hx b00
    replace b10 := Ext.cell hx b10
    replace xb00 := Ext.cell hx xb00
    replace xb10 := Ext.cell hx xb10
    replace x0o := OwnV.ext x0o hx (by omega)
    replace x1o := OwnV.ext x1o hx (by omega)
    clear hx x0r x1r
    skip
    have gs := OwnIV.small go
    go_wp2_with fail
    have he0 := eqIB_yes (rfl : (gisoV t0 t1) = (gisoV t0 t1))
    refine (eqInt64S_any (gisoV t0 t1) (gisoV t0 t1) _ _ _ go.toR (ro.ext hA) gs).mono ?_
    rintro e w9 ⟨rfl, hd⟩
    have hx := Drawn.ext hd
    clear hd
    rw [he0]
    have zz9 := Ext.size hx
    replace hX := Ext.trans hX hx
    replace hA := Ext.trans hA hx
    replace b00 := Ext.cell hx b00
    replace b10 := Ext.cell hx b10
    replace xb00 := Ext.cell hx xb00
    replace xb10 := Ext.cell hx xb10
    replace x0o := OwnV.ext x0o hx (by omega)
    replace x1o := OwnV.ext x1o hx (by omega)
    replace go := OwnIV.ext go hx (by omega)
    clear hx
    go_wp2_with fail
    have hq0 := eqTB_yes (rfl : t0 = t0)
    have xo := x0o.toR
    go_cut [58] (fun v wx => v = .bool false ∧ Ext w9 wx)
    case first =>
      go_region_with (first
        | (go_at_call 42; refine (toGroup_new t0 _ _ (hv0.ext hX.drew) hs0).mono ?_; rintro e wd ⟨dv, rfl, do_, dr, hx⟩; obtain ⟨-, db, df, dc, rfl, -⟩ := id dr; have d0 := hx.cell (show w9.drew.cell? _ = some _ from xb00))
        | (go_at_call 44; refine (eqGroup_any t0 t0 _ _ _ (xo.ext (Ext.trans (Ext.drew (Ext.refl _)) hx)) dr.toR hs0).mono ?_; rintro e we ⟨rfl, hxe⟩; rw [hq0]))
      all_goals
        go_wp2_with fail
        go_meet
        case rel => exact ⟨rfl, (Ext.trans (Ext.drew (Ext.refl _)) hx).trans hxe⟩
    case rest =>
      obtain ⟨rfl, hx⟩ := hcut
      obtain ⟨w10, rfl⟩ : ∃ z : World, z = wc := ⟨_, rfl⟩
      have zz10 := Ext.size hx
      replace hX := Ext.trans hX hx
      replace hA := Ext.trans hA hx
      replace b00 := Ext.cell hx b00
      replace b10 := Ext.cell hx b10
      replace xb00 := Ext.cell hx xb00
      replace xb10 := Ext.cell hx xb10
      replace x0o := OwnV.ext x0o hx (by omega)
      replace x1o := OwnV.ext x1o hx (by omega)
      replace go := OwnIV.ext go hx (by omega)
      clear hx xo
      go_wp2_with fail
      have hq1 := eqTB_yes (rfl : t1 = t1)
      have xo := x1o.toR
      go_cut [63] (fun v wx => v = .bool false ∧ Ext w10 wx)
      case first =>
        go_region_with (first
          | (go_at_call 42; refine (toGroup_new t1 _ _ (hv1.ext hX.drew) hs1).mono ?_; rintro e wd ⟨dv, rfl, do_, dr, hx⟩; obtain ⟨-, db, df, dc, rfl, -⟩ := id dr; have d0 := hx.cell (show w10.drew.cell? _ = some _ from xb10))
          | (go_at_call 44; refine (eqGroup_any t1 t1 _ _ _ (xo.ext (Ext.trans (Ext.drew (Ext.refl _)) hx)) dr.toR hs1).mono ?_; rintro e we ⟨rfl, hxe⟩; rw [hq1]))
        all_goals
          go_wp2_with fail
          go_meet
          case rel => exact ⟨rfl, (Ext.trans (Ext.drew (Ext.refl _)) hx).trans hxe⟩
      case rest =>
        obtain ⟨rfl, hx⟩ := hcut
        obtain ⟨w11, rfl⟩ : ∃ z : World, z = wc := ⟨_, rfl⟩
        have zz11 := Ext.size hx
        replace hX := Ext.trans hX hx
        replace hA := Ext.trans hA hx
        replace b00 := Ext.cell hx b00
        replace b10 := Ext.cell hx b10
        replace xb00 := Ext.cell hx xb00
        replace xb10 := Ext.cell hx xb10
        replace x0o := OwnV.ext x0o hx (by omega)
        replace x1o := OwnV.ext x1o hx (by omega)
        replace go := OwnIV.ext go hx (by omega)
        clear hx xo
        go_wp2_with fail
        have hn0 := total_nonneg t0
        have hb0 := total_le t0 hs0
        refine (markGroup_any w3.heap.size w4.heap.size t0 _ _ _ x0o (by omega) (by omega) (by omega)).mono ?_
        rintro e w12 ⟨rfl, -, hT⟩
        clear x0o
        have zz12 := Touch.size hT
        replace hX := Ext.touch hX hT (by omega)
        replace hA := Ext.touch hA hT (by omega)
        replace b00 := Touch.cell hT b00 (by simp only []; omega)
        replace b10 := Touch.cell hT b10 (by simp only []; omega)
        replace xb00 := Touch.cell hT xb00 (by simp only []; omega)
        replace xb10 := Touch.cell hT xb10 (by simp only []; omega)
        replace x1o := OwnV.touch x1o hT (by omega) (by omega)
        replace go := OwnIV.touch go hT (by omega) (by omega)
        clear hT
        go_wp2_with fail
        have hn1 := total_nonneg t1
        have hb1 := total_le t1 hs1
        refine (markGroup_any w5.heap.size w6.heap.size t1 _ _ _ x1o (by omega) (by omega) (by omega)).mono ?_
        rintro e w13 ⟨rfl, -, hT⟩
        clear x1o
        have zz13 := Touch.size hT
        replace hX := Ext.touch hX hT (by omega)
        replace hA := Ext.touch hA hT (by omega)
        replace b00 := Touch.cell hT b00 (by simp only []; omega)
        replace b10 := Touch.cell hT b10 (by simp only []; omega)
        replace xb00 := Touch.cell hT xb00 (by simp only []; omega)
        replace xb10 := Touch.cell hT xb10 (by simp only []; omega)
        replace go := OwnIV.touch go hT (by omega) (by omega)
        clear hT
        go_wp2_with fail
        refine (eqInt64S_any (gisoV t0 t1) (gisoV t0 t1) _ _ _ go.toR (ro.ext hA) gs).mono ?_
        rintro e w14 ⟨rfl, hd⟩
        have hx := Drawn.ext hd
        clear hd
        rw [he0]
        have zz14 := Ext.size hx
        replace hX := Ext.trans hX hx
        replace hA := Ext.trans hA hx
        replace b00 := Ext.cell hx b00
        replace b10 := Ext.cell hx b10
        replace xb00 := Ext.cell hx xb00
        replace xb10 := Ext.cell hx xb10
        replace go := OwnIV.ext go hx (by omega)
        clear hx
        go_wp2_with fail
        refine (markInt64S_new w7.heap.size w8.heap.size (gisoV t0 t1) _ _ _ go (by omega) (by omega) (by omega)).mono ?_
        rintro e w15 ⟨rfl, gn, hT⟩
        replace go := gn
        clear gn
        have zz15 := Touch.size hT
        replace hX := Ext.touch hX hT (by omega)
        replace hA := Ext.touch hA hT (by omega)
        replace b00 := Touch.cell hT b00 (by simp only []; omega)
        replace b10 := Touch.cell hT b10 (by simp only []; omega)
        replace xb00 := Touch.cell hT xb00 (by simp only []; omega)
        replace xb10 := Touch.cell hT xb10 (by simp only []; omega)
        clear hT
        go_wp2_with fail
        refine (heldInt64S_new (gisoV t0 t1) _ _ _ go.toR gs (by omega) (by omega)).mono ?_
        rintro e w16 ⟨rfl, hx⟩
        have zz16 := Ext.size hx
        replace hX := Ext.trans hX hx
        replace hA := Ext.trans hA hx
        replace b00 := Ext.cell hx b00
        replace b10 := Ext.cell hx b10
        replace xb00 := Ext.cell hx xb00
        replace xb10 := Ext.cell hx xb10
        replace go := OwnIV.ext go hx (by omega)
        clear hx
        go_wp2_with fail
        go_cut [15, 16] (fun p q wx => Box0 (gisoV t0 t1) (gisoC t0 t1) w16 p q wx)
        case first =>
          have hzz := w16.heap.size
          go_region_held3 (fun w' => w'.cell? ⟨w.heap.size, 0, none⟩ = some (.slice v0a t0.length v0c) ∧ w'.cell? ⟨w.heap.size + 1, 0, none⟩ = some (.slice v1a t1.length v1c))
            ((refine ⟨?_, ?_⟩ <;> (repeat first | (with_reducible assumption) | (with_reducible refine Ext.cell hq ?_) | (with_reducible refine Ext.cell hd0 ?_) | (with_reducible refine Ext.cell hd1 ?_) |  (with_reducible exact kc_new) | ((with_reducible refine kc_newE ?_); (simp; done)) | ((with_reducible refine kc_newEa ?_); (simp; done)) | ((with_reducible refine kc_newEb ?_); (simp; done)) | (with_reducible apply kc_alloc) | (with_reducible apply kc_drewN) | (with_reducible apply kc_drew) | ((with_reducible refine kc_set ?_ ?_); (first | (simp only []; omega) | (simp; omega) | (focus (simp; done)))) | ((with_reducible refine kc_set2 ?_ ?_); (focus (simp; done))) | (with_reducible refine kc_same (v := .slice none 0 0) ?_))))
            (first
      | (go_at_call 42; refine Calls.mono (toGroup_new ?_ _ _ ?_ ?_) ?_; rotate_left; (refine hv0.ext (hX.trans ?_)); (focus ((repeat first | (with_reducible exact Ext.refl _) | (with_reducible assumption) | (with_reducible apply Ext.drew) | (with_reducible apply kx_drewN) | (with_reducible apply kx_alloc) | ((with_reducible refine kx_set ?_ ?_); (first | (simp only []; omega) | (simp; omega) | (focus (simp; done)))) | (with_reducible refine Ext.trans ?_ hd1) ); done)); exact hs0; rintro e wd0 ⟨s0v, rfl, -, s0r, hd0⟩; obtain ⟨-, s0b, s0f, s0c, rfl, -⟩ := id s0r; obtain ⟨hc0, hf0⟩ := bcell hd0; have hz_0 := hd0.size; (try simp at hz_0); (try have lc0 : w16.heap.size < wd0.heap.size := by omega); (try have lc1 : w16.heap.size < wd1.heap.size := by omega); (try have lcq : w16.heap.size < wq.heap.size := by omega); (try have l01 : wd0.heap.size < wd1.heap.size := by omega); (try have l0q : wd0.heap.size < wq.heap.size := by omega); (try have l10 : wd1.heap.size < wd0.heap.size := by omega); (try have l1q : wd1.heap.size < wq.heap.size := by omega); (try have nc0 : ¬ w16.heap.size = wd0.heap.size := by omega); (try have nc1 : ¬ w16.heap.size = wd1.heap.size := by omega); (try have ncq : ¬ w16.heap.size = wq.heap.size := by omega); (try have n01 : ¬ wd0.heap.size = wd1.heap.size := by omega); (try have n0q : ¬ wd0.heap.size = wq.heap.size := by omega); (try have n10 : ¬ wd1.heap.size = wd0.heap.size := by omega); (try have n1q : ¬ wd1.heap.size = wq.heap.size := by omega))
      | (go_at_call 42; refine Calls.mono (toGroup_new ?_ _ _ ?_ ?_) ?_; rotate_left; (refine hv1.ext (hX.trans ?_)); (focus ((repeat first | (with_reducible exact Ext.refl _) | (with_reducible assumption) | (with_reducible apply Ext.drew) | (with_reducible apply kx_drewN) | (with_reducible apply kx_alloc) | ((with_reducible refine kx_set ?_ ?_); (first | (simp only []; omega) | (simp; omega) | (focus (simp; done)))) | (with_reducible refine Ext.trans ?_ hd0) ); done)); exact hs1; rintro e wd1 ⟨s1v, rfl, -, s1r, hd1⟩; obtain ⟨-, s1b, s1f, s1c, rfl, -⟩ := id s1r; obtain ⟨hc1, hf1⟩ := bcell hd1; have hz_1 := hd1.size; (try simp at hz_1); (try have lc0 : w16.heap.size < wd0.heap.size := by omega); (try have lc1 : w16.heap.size < wd1.heap.size := by omega); (try have lcq : w16.heap.size < wq.heap.size := by omega); (try have l01 : wd0.heap.size < wd1.heap.size := by omega); (try have l0q : wd0.heap.size < wq.heap.size := by omega); (try have l10 : wd1.heap.size < wd0.heap.size := by omega); (try have l1q : wd1.heap.size < wq.heap.size := by omega); (try have nc0 : ¬ w16.heap.size = wd0.heap.size := by omega); (try have nc1 : ¬ w16.heap.size = wd1.heap.size := by omega); (try have ncq : ¬ w16.heap.size = wq.heap.size := by omega); (try have n01 : ¬ wd0.heap.size = wd1.heap.size := by omega); (try have n0q : ¬ wd0.heap.size = wq.heap.size := by omega); (try have n10 : ¬ wd1.heap.size = wd0.heap.size := by omega); (try have n1q : ¬ wd1.heap.size = wq.heap.size := by omega))
      | (go_at_call 48; refine (GroupIsomorphism_impl _ _ _ _ _ (s0r.ext (by (repeat first | (with_reducible exact Ext.refl _) | (with_reducible assumption) | (with_reducible apply Ext.drew) | (with_reducible apply kx_drewN) | (with_reducible apply kx_alloc) | ((with_reducible refine kx_set ?_ ?_); (first | (simp only []; omega) | (simp; omega) | (focus (simp; done)))) | (with_reducible refine Ext.trans ?_ hd1) ))) (s1r.ext (by (repeat first | (with_reducible exact Ext.refl _) | (with_reducible assumption) | (with_reducible apply Ext.drew) | (with_reducible apply kx_drewN) | (with_reducible apply kx_alloc) | ((with_reducible refine kx_set ?_ ?_); (first | (simp only []; omega) | (simp; omega) | (focus (simp; done)))) | (with_reducible refine Ext.trans ?_ hd0) )))).mono ?_; rintro e wq ⟨qv, rfl, qo, hq⟩; obtain ⟨-, qa, qc, rfl, -⟩ := id qo; obtain ⟨hcq, hfq⟩ := bcell hq; have hz_q := hq.size; (try simp at hz_q); (try have lc0 : w16.heap.size < wd0.heap.size := by omega); (try have lc1 : w16.heap.size < wd1.heap.size := by omega); (try have lcq : w16.heap.size < wq.heap.size := by omega); (try have l01 : wd0.heap.size < wd1.heap.size := by omega); (try have l0q : wd0.heap.size < wq.heap.size := by omega); (try have l10 : wd1.heap.size < wd0.heap.size := by omega); (try have l1q : wd1.heap.size < wq.heap.size := by omega); (try have nc0 : ¬ w16.heap.size = wd0.heap.size := by omega); (try have nc1 : ¬ w16.heap.size = wd1.heap.size := by omega); (try have ncq : ¬ w16.heap.size = wq.heap.size := by omega); (try have n01 : ¬ wd0.heap.size = wd1.heap.size := by omega); (try have n0q : ¬ wd0.heap.size = wq.heap.size := by omega); (try have n10 : ¬ wd1.heap.size = wd0.heap.size := by omega); (try have n1q : ¬ wd1.heap.size = wq.heap.size := by omega)))
          all_goals
            have qr := qo.toR
            go_wp2_with fail
            go_meet
            case rel =>
              refine ⟨qa, qc, rfl, rfl, ?_, ?_⟩
              · exact qr
              · (repeat first | (with_reducible exact Ext.refl _) | (with_reducible assumption) | (with_reducible apply Ext.drew) | (with_reducible apply kx_drewN) | (with_reducible apply kx_alloc) | ((with_reducible refine kx_set ?_ ?_); (first | (simp only []; omega) | (simp; omega) | (focus (simp; done)))) | (with_reducible refine Ext.trans ?_ hq) | (with_reducible refine Ext.trans ?_ hd0) | (with_reducible refine Ext.trans ?_ hd1) )
        case rest =>
          obtain ⟨ka, kc, rfl, rfl, kr, hx⟩ := hcut
          obtain ⟨w17, rfl⟩ : ∃ z : World, z = wc := ⟨_, rfl⟩
          have zz17 := Ext.size hx
          replace hX := Ext.trans hX hx
          replace hA := Ext.trans hA hx
          replace b00 := Ext.cell hx b00
          replace b10 := Ext.cell hx b10
          replace xb00 := Ext.cell hx xb00
          replace xb10 := Ext.cell hx xb10
          replace go := OwnIV.ext go hx (by omega)
          clear hx
          go_wp2_with fail
          refine (eqInt64S_any (gisoV t0 t1) (gisoV t0 t1) _ _ _ kr (ro.ext hA) gs).mono ?_
          rintro e w18 ⟨rfl, hd⟩
          have hx := Drawn.ext hd
          clear hd
          rw [he0]
          have zz18 := Ext.size hx
          replace hX := Ext.trans hX hx
          replace hA := Ext.trans hA hx
          replace b00 := Ext.cell hx b00
          replace b10 := Ext.cell hx b10
          replace xb00 := Ext.cell hx xb00
          replace xb10 := Ext.cell hx xb10
          replace go := OwnIV.ext go hx (by omega)
          clear hx
          go_wp2_with fail
          refine (heldInt64S_new (gisoV t0 t1) _ _ _ go.toR gs (by omega) (by omega)).mono ?_
          rintro e w19 ⟨rfl, hx⟩
          have zz19 := Ext.size hx
          replace hX := Ext.trans hX hx
          replace hA := Ext.trans hA hx
          replace b00 := Ext.cell hx b00
          replace b10 := Ext.cell hx b10
          replace xb00 := Ext.cell hx xb00
          replace xb10 := Ext.cell hx xb10
          replace go := OwnIV.ext go hx (by omega)
          clear hx
          go_wp2
          go_ret
          exact ⟨rfl, hX⟩
end Go.Proofs.Ytjcpeenalbgacaa
