/-
  Contracts of the reference's l01Back, l05Cycle.
-/
import Derived.Test.YtjfjpngajboidaaGreatKx25
import Derived.Test.YtjfjpngajboidaaGreatKx28
namespace Go.Proofs.YtjfjpngajboidaaGreat
set_option linter.unusedVariables false
set_option linter.unusedSimpArgs false
open Go.RowKit
attribute [local go_sem ↓] Go.wp_at_zero Go.wp_at_succ
open Go.Deep

def BackTo (n : Nat) (p l : List Int) : Prop := l.length = n ∧ ∀ x, x < n → ix l (ix p x).toNat = (x : Int)
theorem BackTo.iso {n : Nat} {p l : List Int} (h : BackTo n p l) (hp : IsoOk n [] [] p) : IsoOk n [] [] l := by
  obtain ⟨hl, hb⟩ := h
  have key : ∀ y, y < n → ∃ x, x < n ∧ ix p x = (y : Int) ∧ ix l y = (x : Int) := fun y hy => by
    obtain ⟨x, hx, e⟩ := hp.surj hy
    have := hb x hx
    rw [e, Int.toNat_natCast] at this
    exact ⟨x, hx, e, this⟩
  refine ⟨hl, ⟨fun i hi => ?_, fun i hi j hj e => ?_⟩, fun k hk => by simp at hk⟩
  · rw [hl] at hi ⊢
    obtain ⟨x, hx, _, e⟩ := key i hi
    rw [e]; omega
  · rw [hl] at hi
    obtain ⟨x, hx, e1, e2⟩ := key i hi
    obtain ⟨x', hx', e3, e4⟩ := key j (by omega)
    rw [e2, e4] at e
    have : x = x' := by omega
    subst this
    rw [e1] at e3
    omega
def RetBk (n : Nat) (p : List Int) (w : World) (e : Ending) (w' : World) : Prop := ∃ x, e = .returned x ∧ ∃ b c l, x = .slice (some ⟨b, 0, none⟩) n c ∧ RF w.heap.size (fun _ => False) w' (.slice (some ⟨b, 0, none⟩) n c) l ∧ BackTo n p l ∧ IsoOk n [] [] l ∧ Ext w w'

set_option maxRecDepth 100000 in
set_option maxHeartbeats 1000000 in
theorem l01Back_any (n : Nat) (p : List Int) (v : Value) (w : World) (hv : Ints w v p) (hp : IsoOk n [] [] p) (h12 : n ≤ 1048576) :
    Calls Tryz.prog 139 #[v] w (RetBk n p w) := by
  obtain ⟨-, b, o, c, rfl, hc⟩ := id hv
  have HP := Lib.hid hp
  have HPL := Lib.hid hp.1
  rw [hp.1]
  clear hp hv
  have hmk := run_make_row' (P := Tryz.prog) 27 2 (.int .i64 0) 8 Tryz.underlying27 infoInt rfl .i64 .i64 n (by omega) (by omega)
  go_enter Tryz.func139, Tryz.ntmps139
  go_wp2_with fail
  clear hmk
  have hx0 : Ext w (w.alloc (.cells (madeCells #[Value.int .i64 0] n) 2)) := (Ext.refl _).alloc _
  have hr0 := World.rowIs_made w (.int .i64 0) n 2
  go_loopw [4] (fun i wr => ∃ (k : Nat) (f : Nat → Int), k ≤ n ∧ i = .int .i64 k ∧ wr.rowIs w.heap.size 2 n (fun i => .int .i64 (f i)) ∧ (∀ a, a < k → f (ix p a).toNat = (a : Int)) ∧ Ext w wr) (fun i _ => n - (intOf i).toNat)
  case atStart => exact ⟨0, fun _ => 0, Nat.zero_le _, rfl, hr0, fun a ha => absurd ha (Nat.not_lt_zero _), hx0⟩
  case round =>
    clear hx0 hr0
    obtain ⟨k, f, hk, rfl, hrow, hf, hx⟩ := hrel
    have HF := Lib.hid hf
    clear hf
    by_cases hlt : k < n
    · have hki : (k : Int) < (n : Int) := by omega
      have hb := HP.out.bd hlt
      obtain ⟨z, hz⟩ : ∃ z : Nat, ix p k = (z : Int) := ⟨_, (Int.toNat_of_nonneg hb.1).symm⟩
      have hzn : z < n := by omega
      have e1 := (hc.ext hx) k (by rw [HPL.out]; exact hlt)
      rw [hz] at e1
      have e2 := hrow.cell hzn
      have e3 := hrow.frozen z
      have HE := Lib.hid (show ∀ a, a < k + 1 → (fun i => if i = z then (k : Int) else f i) (ix p a).toNat = (a : Int) from fun a ha => by
        by_cases hak : a = k
        · subst hak
          simp [hz]
        · have ha2 : a < k := by omega
          have h1 : (ix p a).toNat ≠ z := fun e => hak (HP.out.inj (by omega) hlt (by
            have := (HP.out.bd (x := a) (by omega)).1
            omega))
          simp only [if_neg h1]
          exact HF.out a ha2)
      clear hb hz
      go_wp2_with fail
      go_roundw
      case rel => exact ⟨k + 1, fun i => if i = z then (k : Int) else f i, by omega, by go_num, (hrow.set z _).congr (fun i hi => by by_cases hq : i = z <;> simp [hq]), HE.out, hx.setNew (Nat.le_refl _) _⟩
      case measure => simp [intOf]; omega
    · have hkk : k = n := by omega
      subst hkk
      have hki : ¬ (k : Int) < (k : Int) := by omega
      have hB : BackTo k p (mkL k f) := ⟨length_mkL _ _, fun x hx => by
        rw [ix_mkL _ _ _ (HP.out.bd hx).2]
        exact HF.out x hx⟩
      have HB := Lib.hid hB
      clear hB
      go_wp2_with fail
      go_ret
      have hown := ownI_of_row (lo := w.heap.size) (hi := wr.heap.size) (l := mkL k f) hrow (by rw [length_mkL]; exact Nat.le_refl _) (fun i hi => by rw [length_mkL] at hi; rw [ix_mkL _ _ _ hi]) (Nat.le_refl _) hrow.lt
      have hrf := RF.own (c := k) hown (by rw [length_mkL]; omega) (Nat.le_refl _)
      rw [length_mkL] at hrf
      exact ⟨_, rfl, w.heap.size, k, mkL k f, rfl, hrf, HB.out, HB.out.iso HP.out, hx⟩

def RetCy (Q : Nat → Prop) (w : World) (e : Ending) (w' : World) : Prop := ∃ v T, e = .returned (.agg #[v]) ∧ TabF w.heap.size w' v T ∧ Q T.length ∧ (∀ x, x < T.length → IsoOk T.length [] [] (row T x)) ∧ Ext w w'

theorem row_memC {t : List (List Int)} {i : Nat} (hi : i < t.length) : row t i ∈ t := by rw [row_eq, List.getD_eq_getElem?_getD, List.getElem?_eq_getElem hi]; exact List.getElem_mem hi
theorem BoxOne.newEE {B : Nat} {w : World} {v : Value} {T : TypeId} (h : B = w.heap.size) : BoxOne B (w.alloc (.cells #[v] T)) v := by subst h; exact BoxOne.new w v T

set_option maxRecDepth 100000 in
set_option maxHeartbeats 4000000 in
theorem l05Cycle_any (n : Nat) (L S : List (List Int)) (v y : Value) (w : World) (hv : Rows w v L) (hy : Rows w y S) (h1 : 1 ≤ n) (h12 : n ≤ 12) (hl : L.length = n) (hr : ∀ x, x < n → IsoOk n [] [] (row L x)) :
    Calls Tryz.prog 117 #[.agg #[v, y]] w (RetCy (fun m => m = n) w) := by
  obtain ⟨-, b, o, c, rfl, hvc⟩ := id hv
  obtain ⟨-, b2, o2, c2, rfl, -⟩ := id hy
  rw [hl]
  have hx0 : Ext w (w.alloc (.cells #[.slice (some ⟨b, o, none⟩) n c, .slice (some ⟨b2, o2, none⟩) S.length c2] 26)) := (Ext.refl _).alloc _
  have hx1 : Ext (w.alloc (.cells #[.slice (some ⟨b, o, none⟩) n c, .slice (some ⟨b2, o2, none⟩) S.length c2] 26)) (((w.alloc (.cells #[.slice (some ⟨b, o, none⟩) n c, .slice (some ⟨b2, o2, none⟩) S.length c2] 26)).alloc (.cells #[.slice none 0 0] 71)).alloc (.cells #[.slice none 0 0] 71)) := ((Ext.refl _).alloc _).alloc _
  have hR0 : BoxOne (w.heap.size + 1) (((w.alloc (.cells #[.slice (some ⟨b, o, none⟩) n c, .slice (some ⟨b2, o2, none⟩) S.length c2] 26)).alloc (.cells #[.slice none 0 0] 71)).alloc (.cells #[.slice none 0 0] 71)) (.slice none 0 0) := (BoxOne.newEE (by simp)).ext ((Ext.refl _).alloc _)
  have hB0 : BoxOne (w.heap.size + 1 + 1) (((w.alloc (.cells #[.slice (some ⟨b, o, none⟩) n c, .slice (some ⟨b2, o2, none⟩) S.length c2] 26)).alloc (.cells #[.slice none 0 0] 71)).alloc (.cells #[.slice none 0 0] 71)) (.slice none 0 0) := BoxOne.newEE (by simp)
  have hz1 : (w.alloc (.cells #[.slice (some ⟨b, o, none⟩) n c, .slice (some ⟨b2, o2, none⟩) S.length c2] 26)).heap.size ≤ w.heap.size + 1 := by simp
  have hz2 : w.heap.size + 3 ≤ (((w.alloc (.cells #[.slice (some ⟨b, o, none⟩) n c, .slice (some ⟨b2, o2, none⟩) S.length c2] 26)).alloc (.cells #[.slice none 0 0] 71)).alloc (.cells #[.slice none 0 0] 71)).heap.size := by simp
  have k0 := cell_new2a w (.slice (some ⟨b, o, none⟩) n c) (.slice (some ⟨b2, o2, none⟩) S.length c2) 26
  have HV := Lib.hid (hvc.ext hx0)
  have HR := Lib.hid hr
  have HL := Lib.hid hl
  have HX0 := Lib.hid hx0
  clear hv hy hvc hr hx0 hl
  go_enter Tryz.func117, Tryz.ntmps117
  go_wp2_with fail
  generalize (((w.alloc (.cells #[.slice (some ⟨b, o, none⟩) n c, .slice (some ⟨b2, o2, none⟩) S.length c2] 26)).alloc (.cells #[.slice none 0 0] 71)).alloc (.cells #[.slice none 0 0] 71)) = w3 at *
  generalize (w.alloc (.cells #[.slice (some ⟨b, o, none⟩) n c, .slice (some ⟨b2, o2, none⟩) S.length c2] 26)) = w1 at *
  have HP0 := Lib.hid (OneG.start (lo := w.heap.size + 3) (w0 := w1) 27 n hB0 hR0 hx1 hz2 (by omega) (by omega) (by omega) hz1 (by omega))
  clear hB0 hR0 hx1 hz2
  go_loopw [4] (fun i wr => ∃ (k : Nat) (v1 : Value) (xs : List Value) (t1 : List (List Int)), k ≤ n ∧ i = .int .i64 k ∧ OneG 27 (w.heap.size + 3) (w.heap.size + 1) (w.heap.size + 1 + 1) n k w1 wr v1 xs t1 ∧ ∀ r, r ∈ t1 → IsoOk n [] [] r) (fun i _ => n - (intOf i).toNat)
  case atStart => exact ⟨0, _, _, _, Nat.zero_le _, rfl, HP0.out, fun r h => by cases h⟩
  case round =>
    clear HP0
    obtain ⟨k, v1, xs, t1, hk, rfl, hg, hi⟩ := hrel
    obtain ⟨a1, c1, rfl⟩ := hg.sh1
    have HG := Lib.hid hg
    have HI := Lib.hid hi
    have hlo := hg.lo1
    have s0 := hg.x0.cell k0
    clear hg hi
    by_cases hlt : k < n
    case neg =>
      have hkk : k = n := by omega
      subst hkk
      have hki : ¬ (k : Int) < (k : Int) := by omega
      obtain ⟨-, q0, q1⟩ := HG.out.bb
      obtain ⟨-, p0, p1⟩ := HG.out.bc
      go_wp2
      obtain ⟨d1, d2, d3⟩ := HG.out.done h1 (by omega) (.slice a1 k c1)
      exact bodyPost_ret (v := .agg #[.slice a1 k c1]) (by simp [results, Tryz.results117, go_sem, q0]) rfl ⟨_, t1, rfl, d1.low (Ext.size HX0.out), d2, fun x hx => by rw [d2]; exact HI.out _ (row_memC hx), HX0.out.trans d3⟩
    case pos =>
      have hki : (k : Int) < (n : Int) := by omega
      obtain ⟨d1, s1, m1, r1, i1, n1⟩ := (HV.out.ext HG.out.x0).get (i := k) (by rw [HL.out]; exact hlt)
      have hrk := HR.out k hlt
      rw [hrk.1] at r1
      have HROW := Lib.hid (show ∀ W, Ext wr W → Ints W (.slice (some ⟨d1, s1, none⟩) n m1) (row L k) from fun W hW => by have := (i1.ext hW).ints n1 m1; rwa [hrk.1] at this)
      have HRK := Lib.hid hrk
      have hl1 := HG.out.lt1
      obtain ⟨hbl, p0, p1⟩ := HG.out.bc
      have pd : wr.drew.cell? ⟨w.heap.size + 1 + 1, 0, none⟩ = some (.slice a1 k c1) := p0
      clear hrk i1 n1
      obtain ⟨wk, rfl⟩ : ∃ z : World, z = wr := ⟨_, rfl⟩
      go_wp2_with fail
      go_region_law (first
        | (refine step_append_one (by rfl) _ _ 24 27 (by rfl) Tryz.underlying24 infoSl (w.heap.size + 3) _ k xs (by rfl) (ownsRow_ext HG.out.own1 (by (repeat first | (with_reducible exact Ext.refl _) | (with_reducible assumption) | (with_reducible apply Ext.drew) | (with_reducible apply kx_drewN) | (with_reducible apply kx_alloc) | ((with_reducible refine kx_set ?_ ?_); (first | (simp only []; omega) | (simp; omega) | (focus (simp; done)))) | (with_reducible refine Ext.trans ?_ hx3) ))) _ (.slice (some ⟨b3, 0, none⟩) n c3) (by rfl) (by (repeat first | (with_reducible assumption) |  (with_reducible exact kc_new) | ((with_reducible refine kc_newE ?_); (simp; done)) | ((with_reducible refine kc_newEa ?_); (simp; done)) | ((with_reducible refine kc_newEb ?_); (simp; done)) | (with_reducible apply kc_alloc) | (with_reducible apply kc_drewN) | (with_reducible apply kc_drew) | ((with_reducible refine kc_set ?_ ?_); (first | (simp only []; omega) | (simp; omega) | (focus (simp; done)))) | ((with_reducible refine kc_set2 ?_ ?_); (focus (simp; done))) | (with_reducible refine kc_same (v := .slice none 0 0) ?_))) rfl (by omega) (Nat.le_trans hlo (Ext.size (by (repeat first | (with_reducible exact Ext.refl _) | (with_reducible assumption) | (with_reducible apply Ext.drew) | (with_reducible apply kx_drewN) | (with_reducible apply kx_alloc) | ((with_reducible refine kx_set ?_ ?_); (first | (simp only []; omega) | (simp; omega) | (focus (simp; done)))) | (with_reducible refine Ext.trans ?_ hx3) )))) ?_; intro g' cap w4 ho4 hgr4 hat4; obtain ⟨hB4, hP4⟩ := HG.out.app1 (by (repeat first | (with_reducible exact Ext.refl _) | (with_reducible assumption) | (with_reducible apply Ext.drew) | (with_reducible apply kx_drewN) | (with_reducible apply kx_alloc) | ((with_reducible refine kx_set ?_ ?_); (first | (simp only []; omega) | (simp; omega) | (focus (simp; done)))) | (with_reducible refine Ext.trans ?_ hx3) )) (hr3.extS (by (repeat first | (with_reducible exact Ext.refl _) | (with_reducible assumption) | (with_reducible apply Ext.drew) | (with_reducible apply kx_drewN) | (with_reducible apply kx_alloc) | ((with_reducible refine kx_set ?_ ?_); (first | (simp only []; omega) | (simp; omega) | (focus (simp; done)))) ))) (fun e => by have := (hl1 _ e).2; omega) (Nat.le_trans hlo (Ext.size (by (repeat first | (with_reducible exact Ext.refl _) | (with_reducible assumption) | (with_reducible apply Ext.drew) | (with_reducible apply kx_drewN) | (with_reducible apply kx_alloc) | ((with_reducible refine kx_set ?_ ?_); (first | (simp only []; omega) | (simp; omega) | (focus (simp; done)))) )))) ho4 hgr4 hat4; obtain ⟨-, s2, s3⟩ := id hB4)
        | (refine step_callE (by rfl) 139 _ (by kernel_rfl) (l01Back_any n (row L k) _ _ (HROW.out _ (by (repeat first | (with_reducible exact Ext.refl _) | (with_reducible assumption) | (with_reducible apply Ext.drew) | (with_reducible apply kx_drewN) | (with_reducible apply kx_alloc) | ((with_reducible refine kx_set ?_ ?_); (first | (simp only []; omega) | (simp; omega) | (focus (simp; done)))) ))) HRK.out (by omega)) ?_; rintro _ w3 ⟨b3, c3, l3, rfl, hr3, -, hi3, hx3⟩; have hzb3 : wk.heap.size ≤ b3 := Nat.le_trans (Ext.size (show Ext wk _ from by (repeat first | (with_reducible exact Ext.refl _) | (with_reducible assumption) | (with_reducible apply Ext.drew) | (with_reducible apply kx_drewN) | (with_reducible apply kx_alloc) | ((with_reducible refine kx_set ?_ ?_); (first | (simp only []; omega) | (simp; omega) | (focus (simp; done)))) ))) hr3.atS.1; have p0' := hx3.cell (show _ = some (.slice a1 k c1) from (by first | exact pd | exact p0)); have p0a := (ext_box w3 (.slice (some ⟨b3, 0, none⟩) n c3) 27).cell p0'))
      all_goals
        have HI2 := Lib.hid (show ∀ r, r ∈ t1 ++ [l3] → IsoOk n [] [] r from fun r hr => by
          rcases List.mem_append.1 hr with e | e
          · exact HI.out r e
          · rw [List.mem_singleton.1 e]; exact hi3)
        go_wp2
        go_roundw
        case rel => exact ⟨k + 1, _, _, _, by omega, by go_num, hP4, HI2.out⟩
        case measure => simp [intOf]; omega
end Go.Proofs.YtjfjpngajboidaaGreat


namespace Go.Proofs.YtjfjpngajboidaaGreat
set_option linter.unusedVariables false
set_option linter.unusedSimpArgs false
open Go.RowKit
attribute [local go_sem ↓] Go.wp_at_zero Go.wp_at_succ
open Go.Deep

def RetSq (n : Nat) (w : World) (e : Ending) (w' : World) : Prop := ∃ v T, e = .returned (.agg #[v]) ∧ TabF w.heap.size w' v T ∧ T.length = n ∧ (∀ x, x < n → (row T x).length = n) ∧ Ext w w'

set_option maxRecDepth 100000 in
set_option maxHeartbeats 4000000 in
theorem l05Affine_any (n : Nat) (a b c : Int) (w : World) (h1 : 1 ≤ n) (h12 : n ≤ 12) :
    Calls Tryz.prog 115 #[.int .i64 n, .int .i64 a, .int .i64 b, .int .i64 c] w (RetSq n w) := by
  have hx0 : Ext w ((w.alloc (.cells #[.slice none 0 0] 71)).alloc (.cells #[.slice none 0 0] 71)) := ((Ext.refl _).alloc _).alloc _
  have hR0 : BoxOne w.heap.size ((w.alloc (.cells #[.slice none 0 0] 71)).alloc (.cells #[.slice none 0 0] 71)) (.slice none 0 0) := (BoxOne.new _ _ _).ext ((Ext.refl _).alloc _)
  have hB0 : BoxOne (w.heap.size + 1) ((w.alloc (.cells #[.slice none 0 0] 71)).alloc (.cells #[.slice none 0 0] 71)) (.slice none 0 0) := BoxOne.newEE (by simp)
  have HP0 := Lib.hid (OneG.start (lo := w.heap.size + 2) (w0 := w) 27 n hB0 hR0 hx0 (by simp) (by omega) (by omega) (by omega) (by omega) (by omega))
  have hn0 : (n : Int) ≠ 0 := by omega
  clear hx0 hR0 hB0
  go_enter Tryz.func115, Tryz.ntmps115
  go_wp2_with fail
  generalize ((w.alloc (.cells #[.slice none 0 0] 71)).alloc (.cells #[.slice none 0 0] 71)) = w0 at *
  go_loopw [10] (fun i wr => ∃ (k : Nat) (v1 : Value) (xs : List Value) (t1 : List (List Int)), k ≤ n ∧ i = .int .i64 k ∧ OneG 27 (w.heap.size + 2) w.heap.size (w.heap.size + 1) n k w wr v1 xs t1) (fun i _ => n - (intOf i).toNat)
  case atStart => exact ⟨0, _, _, _, Nat.zero_le _, rfl, HP0.out⟩
  case round =>
    clear HP0
    obtain ⟨k, v1, xs, t1, hk, rfl, hg⟩ := hrel
    obtain ⟨a1, c1, rfl⟩ := hg.sh1
    have HG := Lib.hid hg
    have hlo := hg.lo1
    clear hg
    by_cases hlt : k < n
    case neg =>
      have hkk : k = n := by omega
      subst hkk
      have hki : ¬ (k : Int) < (k : Int) := by omega
      obtain ⟨-, q0, q1⟩ := HG.out.bb
      obtain ⟨-, p0, p1⟩ := HG.out.bc
      go_wp2
      obtain ⟨d1, d2, d3⟩ := HG.out.done h1 (by omega) (.slice a1 k c1)
      exact bodyPost_ret (v := .agg #[.slice a1 k c1]) (by simp [results, Tryz.results115, go_sem, q0]) rfl ⟨_, t1, rfl, d1, d2, fun x hx => HG.out.rl _ (row_memC (by rw [d2]; exact hx)), d3⟩
    case pos =>
      have hki : (k : Int) < (n : Int) := by omega
      have hl1 := HG.out.lt1
      obtain ⟨wk, rfl⟩ : ∃ z : World, z = wr := ⟨_, rfl⟩
      go_wp2_with fail
      go_loopw [11, 12] (fun va vj wr => ∃ (j : Nat) (l1 : List Int), j ≤ n ∧ vj = .int .i64 j ∧ l1.length = j ∧ GrowI 2 wk.heap.size wr va l1 ∧ va ≠ .slice none 0 0 ∧ Ext wk wr) (fun _ vj _ => n - (intOf vj).toNat)
      case atStart => exact ⟨0, [], Nat.zero_le _, rfl, rfl, GrowI.lit (Nat.le_refl _), by simp, (Ext.refl _).alloc _⟩
      case round =>
        obtain ⟨j, l1, hj, rfl, hn1, hi, hva, hxj⟩ := hrel
        have HI := Lib.hid hi
        have HVA := Lib.hid hva
        have HXJ := Lib.hid hxj
        have HN1 := Lib.hid hn1
        have hzx : wk.heap.size ≤ wr.heap.size := Below.size hxj
        clear hi hva hxj hn1
        by_cases hjl : j < n
        case pos =>
          have hji : (j : Int) < (n : Int) := by omega
          go_wp2_with (at_builtin; refine wpList_append_int_at rfl _ _ 27 2 rfl Tryz.underlying27 infoInt wk.heap.size _ l1 rfl (HI.out.alloc _) _ _ rfl (cell_new _ _ _) (by rw [HN1.out]; omega) (by simp; omega) ?_)
          intro v' w3 hi3 hgr hv3 hbl
          have hx3 : Ext wk w3 := (HXJ.out.trans ((Ext.refl wr).alloc _)).grown hgr (HI.out.alloc _) (Nat.le_refl _)
          have HI3 := Lib.hid hi3
          have HX3 := Lib.hid hx3
          clear hi3 hgr hbl hx3 HI HXJ
          go_wp2
          go_roundw
          case rel => exact ⟨j + 1, _, by omega, by go_num, by rw [List.length_append, HN1.out]; rfl, HI3.out, hv3, HX3.out⟩
          case measure => simp [intOf]; omega
        case neg =>
          have hji : ¬ (j : Int) < (n : Int) := by omega
          have hjn : j = n := by omega
          rw [hjn] at HN1
          have hr1 := RF.of HI.out HVA.out (by rw [HN1.out]; omega)
          obtain ⟨ba, ca, rfl, -⟩ := HI.out.row HVA.out
          rw [HN1.out] at hr1
          have ha1 := hr1.atS
          have HR1 := Lib.hid hr1
          have HG2 := Lib.hid (HG.out.ext HXJ.out)
          rw [HN1.out]
          clear hr1 HG HI HN1 hjn
          obtain ⟨hblt, p0, p1⟩ := HG2.out.bc
          have hO1 := HG2.out.own1
          have hxb := ext_box wr (.slice (some ⟨ba, 0, none⟩) n ca) 27
          have hna1 : (Value.slice a1 k c1).ownBlock ≠ some ba := fun e => by have := (hl1 _ e).2; omega
          go_wp2_with (at_builtin; refine wpList_append_one rfl _ _ 24 27 rfl Tryz.underlying24 infoSl (w.heap.size + 2) _ k xs rfl (ownsRow_ext hO1 hxb) _ _ (show Value.oneCell' (.slice _ _ _) = true from rfl) rfl (cell_new _ _ _) (by omega) (by simp; omega) ?_)
          intro v' w8 hown8 hgr8 hv8 hbl8
          obtain ⟨g8, cap8, rfl⟩ : ∃ g8 cap8, v' = .slice (some ⟨g8, 0, none⟩) (k + 1) cap8 := by
            rcases hown8.2 with ⟨h, _⟩ | ⟨g8, cap8, cur, h, _⟩
            · exact absurd h hv8
            · exact ⟨g8, cap8, h⟩
          have hat8 := atZ (z := wr.heap.size + 1) (w := wr.alloc (.cells #[.slice (some ⟨ba, 0, none⟩) n ca] 27)) hbl8 (by simp)
          obtain ⟨hB8, hP8⟩ := HG2.out.app1 hxb (HR1.out.extS hxb) hna1 hlo hown8 hgr8 hat8
          have HP8 := Lib.hid hP8
          obtain ⟨-, s0, s1⟩ := id hB8
          clear hP8 hown8 hgr8 hbl8 hv8 hO1 hat8 hB8
          go_wp2
          go_roundw
          case rel => exact ⟨k + 1, _, _, _, by omega, by go_num, HP8.out⟩
          case measure => simp [intOf]; omega

def RetLn (n : Nat) (w : World) (e : Ending) (w' : World) : Prop := ∃ v l, e = .returned v ∧ Ints w' v l ∧ l.length = n ∧ Ext w w'
def RetAny (w : World) (e : Ending) (w' : World) : Prop := ∃ (a : Option Addr) (m c : Nat), e = .returned (.slice a m c) ∧ Ext w w'

set_option maxRecDepth 100000 in
set_option maxHeartbeats 2000000 in
theorem l05Squares_any (t : List (List Int)) (v : Value) (w : World) (hv : Rows w v t) (hT : TableOk t) :
    Calls Tryz.prog 137 #[v] w (RetLn t.length w) := by
  obtain ⟨-, b, o, c, rfl, hc⟩ := id hv
  have h12 := hT.2.1
  have HC := Lib.hid hc
  have HT := Lib.hid hT
  obtain ⟨n, hn⟩ : ∃ n, n = t.length := ⟨_, rfl⟩
  rw [← hn] at h12 ⊢
  have HN := Lib.hid hn
  clear hv hc hT hn
  go_enter Tryz.func137, Tryz.ntmps137
  go_wp2_with fail
  have hx0 : Ext w (w.alloc (.cells #[] 2)) := (Ext.refl _).alloc _
  have hg0 := GrowI.lit (e := 2) (base := w.heap.size) (w := w) (Nat.le_refl _)
  go_loopw [3, 4] (fun va vj wr => ∃ (j : Nat) (l : List Int), j ≤ n ∧ vj = .int .i64 j ∧ l.length = j ∧ GrowI 2 w.heap.size wr va l ∧ va ≠ .slice none 0 0 ∧ Ext w wr) (fun _ vj _ => n - (intOf vj).toNat)
  case atStart => exact ⟨0, [], Nat.zero_le _, rfl, rfl, hg0, by simp, hx0⟩
  case round =>
    clear hx0 hg0
    obtain ⟨j, l, hj, rfl, hl, hi, hva, hx⟩ := hrel
    have HI := Lib.hid hi
    have HVA := Lib.hid hva
    have HX := Lib.hid hx
    have HL := Lib.hid hl
    have hzx : w.heap.size ≤ wr.heap.size := Below.size hx
    clear hi hva hx hl
    by_cases hjl : j < n
    case pos =>
      have hji : (j : Int) < (n : Int) := by omega
      have hjt : j < t.length := by rw [← HN.out]; exact hjl
      obtain ⟨d1, s1, m1, r1, i1, n1⟩ := (HC.out.ext HX.out).get (i := j) hjt
      have e1 := i1.ent (HT.out.len hjt) (y := j) hjt
      rw [HT.out.len hjt, ← HN.out] at r1
      clear i1 n1 hjt
      go_wp2_with (at_builtin; refine wpList_append_int_at rfl _ _ 27 2 rfl Tryz.underlying27 infoInt w.heap.size _ l rfl (HI.out.alloc _) _ _ rfl (cell_new _ _ _) (by rw [HL.out]; omega) (by simp; omega) ?_)
      intro v' w3 hi3 hgr hv3 hbl
      have hx3 : Ext w w3 := (HX.out.trans ((Ext.refl wr).alloc _)).grown hgr (HI.out.alloc _) (Nat.le_refl _)
      have HI3 := Lib.hid hi3
      have HX3 := Lib.hid hx3
      clear hi3 hgr hbl hx3 HI HX
      go_wp2
      go_roundw
      case rel => exact ⟨j + 1, _, by omega, by go_num, by rw [List.length_append, HL.out]; rfl, HI3.out, hv3, HX3.out⟩
      case measure => simp [intOf]; omega
    case neg =>
      have hji : ¬ (j : Int) < (n : Int) := by omega
      have hjn : j = n := by omega
      have hints := HI.out.ints (by rw [HL.out]; omega) HVA.out
      obtain ⟨ba, ca, rfl, -⟩ := HI.out.row HVA.out
      have HV := Lib.hid hints
      clear hints HI
      go_wp2
      go_ret
      exact ⟨_, l, rfl, HV.out, by rw [HL.out, hjn], HX.out⟩

set_option maxRecDepth 100000 in
set_option maxHeartbeats 4000000 in
theorem l05Fault_any (t : List (List Int)) (v : Value) (w : World) (hv : Rows w v t) (hT : TableOk t) :
    Calls Tryz.prog 138 #[v] w (RetAny w) := by
  obtain ⟨-, b, o, c, rfl, hc⟩ := id hv
  obtain ⟨n, hn⟩ : ∃ n, n = t.length := ⟨_, rfl⟩
  have HF := Lib.hid (show ∀ W, Ext w W → ∀ x, x < n → ∃ d1 s1 m1, W.cell? ⟨b, o + x, none⟩ = some (.slice (some ⟨d1, s1, none⟩) n m1) ∧ ∀ y, y < n → W.cell? ⟨d1, s1 + y, none⟩ = some (.int .i64 ((mulN t x y : Nat) : Int)) ∧ mulN t x y < n from fun W hW x hx => by
    rw [hn] at hx ⊢
    obtain ⟨d1, s1, m1, r1, i1, -⟩ := (hc.ext hW).get (i := x) hx
    rw [hT.len hx] at r1
    refine ⟨d1, s1, m1, r1, fun y hy => ?_⟩
    have e := i1.ent (hT.len hx) (y := y) hy
    have hb := hT.bd hx hy
    have e2 : ent t x y = ((mulN t x y : Nat) : Int) := by unfold mulN; omega
    exact ⟨by rw [e, e2], by unfold mulN; omega⟩)
  have h12 := hT.2.1
  rw [← hn] at h12 ⊢
  clear hv hc hT hn
  go_enter Tryz.func138, Tryz.ntmps138
  go_wp2_with fail
  go_loopw [4] (fun i wr => ∃ x : Nat, x ≤ n ∧ i = .int .i64 x ∧ Ext w wr) (fun i _ => n - (intOf i).toNat)
  case atStart => exact ⟨0, Nat.zero_le _, rfl, Ext.refl _⟩
  case round =>
    obtain ⟨x, hx, rfl, hX⟩ := hrel
    have HX := Lib.hid hX
    clear hX
    by_cases hxl : x < n
    case neg =>
      have hxi : ¬ (x : Int) < (n : Int) := by omega
      go_wp2
      go_ret
      exact ⟨_, _, _, rfl, HX.out.trans ((Ext.refl _).alloc _)⟩
    case pos =>
      have hxi : (x : Int) < (n : Int) := by omega
      go_wp2_with fail
      obtain ⟨w2, rfl⟩ : ∃ z : World, z = wr := ⟨_, rfl⟩
      go_loopw [5] (fun i wr => ∃ x : Nat, x ≤ n ∧ i = .int .i64 x ∧ Ext w wr) (fun i _ => n - (intOf i).toNat)
      case atStart => exact ⟨0, Nat.zero_le _, rfl, HX.out⟩
      case round =>
        clear HX
        obtain ⟨y, hy, rfl, hX⟩ := hrel
        have HX := Lib.hid hX
        clear hX
        by_cases hyl : y < n
        case neg =>
          have hyi : ¬ (y : Int) < (n : Int) := by omega
          go_wp2
          go_roundw
          case rel => exact ⟨x + 1, by omega, by go_num, HX.out⟩
          case measure => simp [intOf]; omega
        case pos =>
          have hyi : (y : Int) < (n : Int) := by omega
          go_wp2_with fail
          obtain ⟨w3, rfl⟩ : ∃ z : World, z = wr := ⟨_, rfl⟩
          go_loopw [6] (fun i wr => ∃ x : Nat, x ≤ n ∧ i = .int .i64 x ∧ Ext w wr) (fun i _ => n - (intOf i).toNat)
          case atStart => exact ⟨0, Nat.zero_le _, rfl, HX.out⟩
          case round =>
            clear HX
            obtain ⟨z, hz, rfl, hX⟩ := hrel
            have HX := Lib.hid hX
            clear hX
            by_cases hzl : z < n
            case neg =>
              have hzi : ¬ (z : Int) < (n : Int) := by omega
              go_wp2
              go_roundw
              case rel => exact ⟨y + 1, by omega, by go_num, HX.out⟩
              case measure => simp [intOf]; omega
            case pos =>
              have hzi : (z : Int) < (n : Int) := by omega
              obtain ⟨d1, s1, m1, r1, f1⟩ := HF.out wr HX.out x hxl
              obtain ⟨d2, s2, m2, r2, f2⟩ := HF.out wr HX.out y hyl
              obtain ⟨e1, b1⟩ := f1 y hyl
              obtain ⟨e2, b2⟩ := f1 z hzl
              obtain ⟨e3, b3⟩ := f2 x hxl
              obtain ⟨e4, b4⟩ := f2 z hzl
              obtain ⟨A, hA⟩ : ∃ q, q = mulN t x y := ⟨_, rfl⟩
              obtain ⟨B, hB⟩ : ∃ q, q = mulN t x z := ⟨_, rfl⟩
              obtain ⟨C, hC⟩ : ∃ q, q = mulN t y x := ⟨_, rfl⟩
              obtain ⟨D, hD⟩ : ∃ q, q = mulN t y z := ⟨_, rfl⟩
              rw [← hA] at e1 b1
              rw [← hB] at e2 b2
              rw [← hC] at e3 b3
              rw [← hD] at e4 b4
              obtain ⟨d3, s3, m3, r3, f3⟩ := HF.out wr HX.out A b1
              obtain ⟨d4, s4, m4, r4, f4⟩ := HF.out wr HX.out C b3
              obtain ⟨e5, b5⟩ := f3 B b2
              obtain ⟨e6, b6⟩ := f4 D b4
              obtain ⟨P, hP⟩ : ∃ q, q = mulN t A B := ⟨_, rfl⟩
              obtain ⟨R, hR⟩ : ∃ q, q = mulN t C D := ⟨_, rfl⟩
              rw [← hP] at e5
              rw [← hR] at e6
              clear f1 f2 f3 f4 hA hB hC hD hP hR
              by_cases hPR : P = R
              · subst hPR
                go_wp2_with fail
                go_quiet (fail)
                go_wp2
                go_roundw
                case rel => exact ⟨z + 1, by omega, by go_num, HX.out.trans (by (repeat first | (with_reducible exact Ext.refl _) | (with_reducible assumption) | (with_reducible apply Ext.drew) | (with_reducible apply kx_drewN) | (with_reducible apply kx_alloc) | ((with_reducible refine kx_set ?_ ?_); (first | (simp only []; omega) | (simp; omega) | (focus (simp; done)))) ))⟩
                case measure => simp [intOf]; omega
              · have hpb : ((P : Int) != (R : Int)) = true := by simp; omega
                have hpn : (P : Int) ≠ (R : Int) := by omega
                go_wp2_with fail
                go_quiet (fail)
                go_wp2
                go_ret
                exact ⟨_, _, _, rfl, HX.out.trans (by (repeat first | (with_reducible exact Ext.refl _) | (with_reducible assumption) | (with_reducible apply Ext.drew) | (with_reducible apply kx_drewN) | (with_reducible apply kx_alloc) | ((with_reducible refine kx_set ?_ ?_); (first | (simp only []; omega) | (simp; omega) | (focus (simp; done)))) ))⟩

def RetIsCy (t : List (List Int)) (w : World) (e : Ending) (w' : World) : Prop := ∃ B : Bool, e = .returned (.bool B) ∧ (B = true → TableOk t ∧ ∀ x, x < t.length → IsoOk t.length [] [] (row t x)) ∧ Ext w w'

set_option maxRecDepth 100000 in
set_option maxHeartbeats 4000000 in
theorem l05Is_any (t : List (List Int)) (v : Value) (w : World) (hv : Rows w v t) :
    Calls Tryz.prog 116 #[.agg #[v]] w (RetIsCy t w) := by
  obtain ⟨-, b, o, c, rfl, -⟩ := id hv
  have hx0 : Ext w (w.alloc (.cells #[.slice (some ⟨b, o, none⟩) t.length c] 71)) := (Ext.refl _).alloc _
  have k0 : (w.alloc (.cells #[.slice (some ⟨b, o, none⟩) t.length c] 71)).cell? ⟨w.heap.size, 0, none⟩ = some (.slice (some ⟨b, o, none⟩) t.length c) := by simp [go_sem]
  have HV := Lib.hid (hv.ext hx0)
  clear hv
  go_enter Tryz.func116, Tryz.ntmps116
  go_wp2_with fail
  generalize (w.alloc (.cells #[.slice (some ⟨b, o, none⟩) t.length c] 71)) = w1 at *
  refine (l01Table_any t _ _ HV.out).mono ?_
  rintro e w2 ⟨rfl, rfl⟩
  cases hB : tableB t with
  | false =>
    go_wp2
    go_ret
    exact ⟨false, rfl, fun h => by simp at h, hx0⟩
  | true =>
    have HT := Lib.hid (tableB_iff.1 hB)
    have hr := Lib.hid (show ∀ x, x < t.length → 1 ≤ (row t x).length ∧ (row t x).length ≤ 12 from fun x hx => by rw [HT.out.len hx]; exact ⟨by omega, HT.out.2.1⟩)
    clear hB
    go_wp2_with fail
    refine (l01Rows_any t _ _ HV.out hr.out).mono ?_
    rintro e w2 ⟨rfl, rfl⟩
    cases hP : permRowsB t with
    | false =>
      go_wp2
      go_ret
      exact ⟨false, rfl, fun h => by simp at h, hx0⟩
    | true =>
      have HI := Lib.hid (show TableOk t ∧ ∀ x, x < t.length → IsoOk t.length [] [] (row t x) from ⟨HT.out, fun x hx => isoOk_plain.2 ⟨HT.out.len hx, permRowsB_iff.1 hP x hx⟩⟩)
      clear hP
      go_wp2_with fail
      refine (l05Squares_any t _ _ HV.out HT.out).mono ?_
      rintro e w3 ⟨v3, l3, rfl, hi3, hl3, hx3⟩
      have HI3 := Lib.hid hi3
      have HL3 := Lib.hid hl3
      have k3 := hx3.cell k0
      obtain ⟨-, b3, o3, c3, rfl, -⟩ := id hi3
      clear hi3 hl3
      go_wp2_with fail
      refine (l01Perm_any l3 _ _ HI3.out (by rw [HL3.out]; exact HT.out.1) (by rw [HL3.out]; exact HT.out.2.1)).mono ?_
      rintro e w4 ⟨rfl, rfl⟩
      cases hQ : permB l3 with
      | false =>
        go_wp2
        go_ret
        exact ⟨false, rfl, fun h => by simp at h, hx0.trans hx3⟩
      | true =>
        go_wp2_with fail
        refine (l05Fault_any t _ _ (HV.out.ext hx3) HT.out).mono ?_
        rintro e w5 ⟨a5, m5, c5, rfl, hx5⟩
        go_wp2
        go_ret
        exact ⟨_, rfl, fun _ => HI.out, (hx0.trans hx3).trans hx5⟩
end Go.Proofs.YtjfjpngajboidaaGreat


namespace Go.Proofs.YtjfjpngajboidaaGreat
set_option linter.unusedVariables false
set_option linter.unusedSimpArgs false
open Go.RowKit
attribute [local go_sem ↓] Go.wp_at_zero Go.wp_at_succ
open Go.Deep

set_option maxRecDepth 100000 in
set_option maxHeartbeats 8000000 in
theorem l02Collision_any (L S : List (List Int)) (v y : Value) (w : World) (hv : Rows w v L) (hy : Rows w y S) (hO : PairOk L S) :
    Calls Tryz.prog 94 #[.agg #[v, y]] w (RetF (injB L S) 4 false w) := by
  obtain ⟨-, b, o, c, rfl, hvc⟩ := id hv
  obtain ⟨-, b2, o2, c2, rfl, hyc⟩ := id hy
  have h12 := hO.l.2.1
  have h1n := hO.l.1
  have HSL := Lib.hid hO.len
  have HLR := Lib.hid (fun x (hx : x < L.length) => hO.rowL hx)
  have HSR := Lib.hid (fun x (hx : x < L.length) => hO.rowS hx)
  rw [hO.len]
  have HLN := Lib.hid (fun x y (hx : x < L.length) (hy : y < L.length) => hO.ln hx hy)
  have HSN := Lib.hid (fun x y (hx : x < L.length) (hy : y < L.length) => hO.sn hx hy)
  have HB := Lib.hid (show injB L S = true ↔ _ from injB_iff.trans (ybi_at (by omega)))
  have hx0 : Ext w (w.alloc (.cells #[.slice (some ⟨b, o, none⟩) L.length c, .slice (some ⟨b2, o2, none⟩) L.length c2] 26)) := (Ext.refl _).alloc _
  have k0 := cell_new2a w (.slice (some ⟨b, o, none⟩) L.length c) (.slice (some ⟨b2, o2, none⟩) L.length c2) 26
  have k1 := cell_new2b w (.slice (some ⟨b, o, none⟩) L.length c) (.slice (some ⟨b2, o2, none⟩) L.length c2) 26
  have HV := Lib.hid (hvc.ext hx0)
  have HY := Lib.hid (hyc.ext hx0)
  clear hv hy hvc hyc hO
  obtain ⟨J, hJ⟩ : ∃ q, q = injB L S := ⟨_, rfl⟩
  rw [← hJ] at HB ⊢
  clear hJ
  obtain ⟨n, hn⟩ : ∃ n, n = L.length := ⟨_, rfl⟩
  rw [← hn] at h12 h1n HSL HLR HSR HLN HSN HB hx0 k0 k1 HV HY ⊢
  have HN := Lib.hid hn
  clear hn
  obtain ⟨N, hNe⟩ : ∃ N : Nat, N = n * n := ⟨_, rfl⟩
  have hnm := cast_mul' n n N hNe
  have hN144 : N ≤ 144 := by rw [hNe]; exact Nat.mul_le_mul h12 h12
  have hn0 : ¬ (n : Int) = 0 := by omega
  have hn0b : ((n : Int) == 0) = false := by simp; omega
  have HK := Lib.hid (fun k (hk : k < N) => show k < n * n by omega)
  rw [← hNe] at HB
  clear hNe
  go_enter Tryz.func94, Tryz.ntmps94
  go_wp2_with fail
  generalize (w.alloc (.cells #[.slice (some ⟨b, o, none⟩) n c, .slice (some ⟨b2, o2, none⟩) n c2] 26)) = w1 at *
  go_loopw [4] (fun i wr => ∃ k : Nat, k ≤ N ∧ i = .int .i64 k ∧ (∀ a, a < k → ∀ b, b < N → ¬ colAt n (mulN L) (mulN S) a b) ∧ Drawn w1 wr) (fun i _ => N - (intOf i).toNat)
  case atStart => exact ⟨0, Nat.zero_le _, rfl, fun a ha => by omega, Drawn.refl _⟩
  case round =>
    obtain ⟨k, hk, rfl, hno, hd⟩ := hrel
    have HD := Lib.hid hd
    have HNO := Lib.hid hno
    clear hd hno
    by_cases hkl : k < N
    case neg =>
      have hki : ¬ (k : Int) < (N : Int) := by omega
      go_wp2
      go_ret
      exact ⟨.inl ⟨HB.out.2 fun a ha => HNO.out a (by omega), _, rfl, fun h => by cases h⟩, hx0.trans (HD.out.ext.alloc _)⟩
    case pos =>
      have hki : (k : Int) < (N : Int) := by omega
      go_wp2_with fail
      go_loopw [5] (fun i wr => ∃ j : Nat, j ≤ N ∧ i = .int .i64 j ∧ (∀ b, b < j → ¬ colAt n (mulN L) (mulN S) k b) ∧ Drawn w1 wr) (fun i _ => N - (intOf i).toNat)
      case atStart => exact ⟨0, Nat.zero_le _, rfl, fun b hb => by omega, HD.out⟩
      case round =>
        clear HD
        obtain ⟨j, hj, rfl, hnj, hd⟩ := hrel
        have HD := Lib.hid hd
        have HNJ := Lib.hid hnj
        clear hd hnj
        by_cases hjl : j < N
        case neg =>
          have hji : ¬ (j : Int) < (N : Int) := by omega
          go_wp2
          go_roundw
          case rel => exact ⟨k + 1, by omega, by go_num, fun a ha => by
            by_cases e : a = k
            · subst e; exact fun b hb => HNJ.out b (by omega)
            · exact HNO.out a (by omega), HD.out⟩
          case measure => simp [intOf]; omega
        case pos =>
          have hji : (j : Int) < (N : Int) := by omega
          obtain ⟨q1, z1, hq1, hz1, lq1, lz1, dq1, dz1⟩ := divs (HK.out k hkl)
          obtain ⟨tq1, tz1⟩ := tdivs hq1 hz1
          have wq1 : IntKind.i64.wrap (q1 : Int) = (q1 : Int) := IntWalk.i64_in _ (by omega)
          have wz1 : IntKind.i64.wrap (z1 : Int) = (z1 : Int) := IntWalk.i64_in _ (by omega)
          have D1 := Lib.hid (And.intro dq1 dz1)
          clear hq1 hz1 dq1 dz1
          obtain ⟨q2, z2, hq2, hz2, lq2, lz2, dq2, dz2⟩ := divs (HK.out j hjl)
          obtain ⟨tq2, tz2⟩ := tdivs hq2 hz2
          have wq2 : IntKind.i64.wrap (q2 : Int) = (q2 : Int) := IntWalk.i64_in _ (by omega)
          have wz2 : IntKind.i64.wrap (z2 : Int) = (z2 : Int) := IntWalk.i64_in _ (by omega)
          have D2 := Lib.hid (And.intro dq2 dz2)
          clear hq2 hz2 dq2 dz2
          go_wp2
          go_quiet (fail)
          go_wp2_with fail
          generalize hw3 : World.drewN _ _ = w3
          have HD3 := Lib.hid (show Drawn w1 w3 from HD.out.trans ⟨_, hw3.symm⟩)
          clear hw3 tq2 tz2 wq2 wz2 tq1 tz1 wq1 wz1
          by_cases hkj : k = j
          case pos =>
            subst hkj
            have hkb : ((k : Int) != (k : Int)) = false := by simp
            go_wp2
            go_quiet (fail)
            go_wp2
            go_roundw
            case rel => exact ⟨k + 1, by omega, by go_num, fun b hb => by
              by_cases e : b = k
              · subst e; exact fun h => h.1 rfl
              · exact HNJ.out b (by omega), HD3.out.drewN _⟩
            case measure => simp [intOf]; omega
          case neg =>
            have hkb : ((k : Int) != (j : Int)) = true := by simp; omega
            have hki2 : ¬ (k : Int) = (j : Int) := by omega
            have HC := Lib.hid (show colAt n (mulN L) (mulN S) k j ↔ (mulN L q1 z1 = mulN L q2 z2 ∧ mulN S q1 z1 = mulN S q2 z2) by
              unfold colAt
              rw [D1.out.1, D1.out.2, D2.out.1, D2.out.2]
              exact ⟨fun h => h.2, fun h => ⟨hkj, h⟩⟩)
            have hL1 := HLN.out q1 z1 lq1 lz1
            have hL2 := HLN.out q2 z2 lq2 lz2
            have hS1 := HSN.out q1 z1 lq1 lz1
            have hS2 := HSN.out q2 z2 lq2 lz2
            obtain ⟨d1, s1, m1, r1, i1, -⟩ := (HV.out.ext HD3.out.ext).get (i := q1) (by rw [← HN.out]; exact lq1)
            obtain ⟨d2, s2, m2, r2, i2, -⟩ := (HV.out.ext HD3.out.ext).get (i := q2) (by rw [← HN.out]; exact lq2)
            obtain ⟨f1, g1, j1, t1, u1, -⟩ := (HY.out.ext HD3.out.ext).get (i := q1) (by rw [HSL.out]; exact lq1)
            obtain ⟨f2, g2, j2, t2, u2, -⟩ := (HY.out.ext HD3.out.ext).get (i := q2) (by rw [HSL.out]; exact lq2)
            have e1 := i1.ent (HLR.out q1 lq1) (y := z1) lz1
            have e2 := i2.ent (HLR.out q2 lq2) (y := z2) lz2
            have e3 := u1.ent (HSR.out q1 lq1) (y := z1) lz1
            have e4 := u2.ent (HSR.out q2 lq2) (y := z2) lz2
            rw [HLR.out q1 lq1] at r1
            rw [HLR.out q2 lq2] at r2
            rw [HSR.out q1 lq1] at t1
            rw [HSR.out q2 lq2] at t2
            rw [hL1.1] at e1
            rw [hL2.1] at e2
            rw [hS1.1] at e3
            rw [hS2.1] at e4
            obtain ⟨A1, hA1⟩ : ∃ q, q = mulN L q1 z1 := ⟨_, rfl⟩
            obtain ⟨A2, hA2⟩ : ∃ q, q = mulN L q2 z2 := ⟨_, rfl⟩
            obtain ⟨B1, hB1⟩ : ∃ q, q = mulN S q1 z1 := ⟨_, rfl⟩
            obtain ⟨B2, hB2⟩ : ∃ q, q = mulN S q2 z2 := ⟨_, rfl⟩
            rw [← hA1] at e1 HC
            rw [← hA2] at e2 HC
            rw [← hB1] at e3 HC
            rw [← hB2] at e4 HC
            have b0 := HD3.out.ext.cell k0
            have b1 := HD3.out.ext.cell k1
            have HRJ := Lib.hid (show ¬ (A1 = A2 ∧ B1 = B2) → ∀ b, b < j + 1 → ¬ colAt n (mulN L) (mulN S) k b from fun hne b hb => by
              by_cases e : b = j
              · subst e; exact fun h => hne (HC.out.1 h)
              · exact HNJ.out b (by omega))
            clear hA1 hA2 hB1 hB2 hL1 hL2 hS1 hS2 i1 i2 u1 u2
            by_cases hA : A1 = A2
            case neg =>
              have hAb : ((A1 : Int) == (A2 : Int)) = false := by simp; omega
              go_wp2
              go_quiet (fail)
              go_wp2
              go_roundw
              case rel => exact ⟨j + 1, by omega, by go_num, HRJ.out (fun h => hA h.1), HD3.out.drewN _⟩
              case measure => simp [intOf]; omega
            case pos =>
              subst hA
              have hAb : ((A1 : Int) == (A1 : Int)) = true := by simp
              by_cases hB : B1 = B2
              case neg =>
                have hBb : ((B1 : Int) == (B2 : Int)) = false := by simp; omega
                go_wp2
                go_quiet (fail)
                go_wp2
                go_roundw
                case rel => exact ⟨j + 1, by omega, by go_num, HRJ.out (fun h => hB h.2), HD3.out.drewN _⟩
                case measure => simp [intOf]; omega
              case pos =>
                subst hB
                have hBb : ((B1 : Int) == (B1 : Int)) = true := by simp
                go_wp2
                go_quiet (fail)
                go_wp2
                go_ret
                exact ⟨.inr ⟨by
                  cases hJ : J with
                  | false => rfl
                  | true => exact absurd (HC.out.2 (by simp)) (HB.out.1 hJ k hkl j hjl), _, rfl⟩, hx0.trans ((HD3.out.ext.drewN _).alloc _)⟩

end Go.Proofs.YtjfjpngajboidaaGreat


namespace Go.Proofs.YtjfjpngajboidaaGreat
set_option linter.unusedVariables false
set_option linter.unusedSimpArgs false
open Go.RowKit
attribute [local go_sem ↓] Go.wp_at_zero Go.wp_at_succ
open Go.Deep

theorem at_args {P : Program} {F : FuncId} {a b c : Value} {w : World} {Q : Ending → World → Prop} (h : Calls P F #[a, b, c] w Q) : Calls P F #[a, b, c] w Q := h
def New3 (A : List Int) (w : World) (e : Ending) (w' : World) : Prop := ∃ b c, e = .returned (.slice (some ⟨b, 0, none⟩) 3 c) ∧ Ints w' (.slice (some ⟨b, 0, none⟩) 3 c) A ∧ Ext w w'
theorem New3.of {A : List Int} {w : World} (hl : A.length = 3) {e : Ending} {w' : World} (h : NewI A w e w') : New3 A w e w' := by
  obtain ⟨b, c, rfl, ho, hx⟩ := h
  exact ⟨b, c, by rw [hl], ⟨by omega, b, 0, c, by rw [hl], ho.2.2.1⟩, hx⟩
theorem l02Do_3 (L S : List (List Int)) (p : List Int) (k : Nat) (q : Int) (hq : (k : Int) = q) (hP : PairOk L S) (hp : WordOk L.length p) (hk : k + 1 < p.length) (hl : p.length = 3) (v y u : Value) (w : World) (hv : Rows w v L) (hy : Rows w y S) (hu : Ints w u p) :
    Calls Tryz.prog 66 #[.agg #[v, y], u, .int .i64 q] w (New3 (moveL (mulN L) (mulN S) p k) w) := by
  subst hq
  exact (l02Do_any L S p k v y u w hv hy hu hP hp hk).mono fun _ _ h => New3.of (by rw [length_moveL, hl]) h

set_option maxRecDepth 100000 in
set_option maxHeartbeats 8000000 in
theorem l02Fault_any (L S : List (List Int)) (v y : Value) (w : World) (hv : Rows w v L) (hy : Rows w y S) (hO : PairOk L S) :
    Calls Tryz.prog 95 #[.agg #[v, y]] w (RetF (ybeB L S) 3 false w) := by
  obtain ⟨-, b, o, c, rfl, hvc⟩ := id hv
  obtain ⟨-, b2, o2, c2, rfl, hyc⟩ := id hy
  have h12 := hO.l.2.1
  have HP := Lib.hid hO
  have HB := Lib.hid (show ybeB L S = true ↔ _ from ybeB_iff.trans ybe_at)
  rw [hO.len] at hy ⊢
  have hx0 : Ext w (w.alloc (.cells #[.slice (some ⟨b, o, none⟩) L.length c, .slice (some ⟨b2, o2, none⟩) L.length c2] 26)) := (Ext.refl _).alloc _
  have k0 := cell_new2a w (.slice (some ⟨b, o, none⟩) L.length c) (.slice (some ⟨b2, o2, none⟩) L.length c2) 26
  have k1 := cell_new2b w (.slice (some ⟨b, o, none⟩) L.length c) (.slice (some ⟨b2, o2, none⟩) L.length c2) 26
  have HV := Lib.hid (hv.ext hx0)
  have HY := Lib.hid (hy.ext hx0)
  clear hv hy hvc hyc hO
  obtain ⟨J, hJ⟩ : ∃ q, q = ybeB L S := ⟨_, rfl⟩
  rw [← hJ] at HB ⊢
  clear hJ
  obtain ⟨n, hn⟩ : ∃ n, n = L.length := ⟨_, rfl⟩
  rw [← hn] at h12 HB hx0 k0 k1 HV HY ⊢
  have HN := Lib.hid hn
  clear hn
  go_enter Tryz.func95, Tryz.ntmps95
  go_wp2_with fail
  generalize (w.alloc (.cells #[.slice (some ⟨b, o, none⟩) n c, .slice (some ⟨b2, o2, none⟩) n c2] 26)) = w1 at *
  have HK0 := Lib.hid k0
  have HK1 := Lib.hid k1
  clear k0 k1
  go_loopw [4] (fun i wr => ∃ x : Nat, x ≤ n ∧ i = .int .i64 x ∧ (∀ a, a < x → ∀ b, b < n → ∀ c, c < n → eqT (mulN L) (mulN S) a b c) ∧ Ext w1 wr) (fun i _ => n - (intOf i).toNat)
  case atStart => exact ⟨0, Nat.zero_le _, rfl, fun a ha => by omega, Ext.refl _⟩
  case round =>
    obtain ⟨x, hx, rfl, hnx, hd⟩ := hrel
    have HD := Lib.hid hd
    have HNX := Lib.hid hnx
    clear hd hnx
    by_cases hxl : x < n
    case neg =>
      have hxi : ¬ (x : Int) < (n : Int) := by omega
      go_wp2
      go_ret
      exact ⟨.inl ⟨HB.out.2 fun a ha => HNX.out a (by omega), _, rfl, fun h => by cases h⟩, hx0.trans (HD.out.alloc _)⟩
    case pos =>
      have hxi : (x : Int) < (n : Int) := by omega
      go_wp2_with fail
      go_loopw [5] (fun i wr => ∃ y : Nat, y ≤ n ∧ i = .int .i64 y ∧ (∀ b, b < y → ∀ c, c < n → eqT (mulN L) (mulN S) x b c) ∧ Ext w1 wr) (fun i _ => n - (intOf i).toNat)
      case atStart => exact ⟨0, Nat.zero_le _, rfl, fun a ha => by omega, HD.out⟩
      case round =>
        clear HD
        obtain ⟨y, hy, rfl, hny, hd⟩ := hrel
        have HD := Lib.hid hd
        have HNY := Lib.hid hny
        clear hd hny
        by_cases hyl : y < n
        case neg =>
          have hyi : ¬ (y : Int) < (n : Int) := by omega
          go_wp2
          go_roundw
          case rel => exact ⟨x + 1, by omega, by go_num, fun a ha => by
            by_cases e : a = x
            · subst e; exact fun b hb => HNY.out b (by omega)
            · exact HNX.out a (by omega), HD.out⟩
          case measure => simp [intOf]; omega
        case pos =>
          have hyi : (y : Int) < (n : Int) := by omega
          go_wp2_with fail
          go_loopw [6] (fun i wr => ∃ z : Nat, z ≤ n ∧ i = .int .i64 z ∧ (∀ c, c < z → eqT (mulN L) (mulN S) x y c) ∧ Ext w1 wr) (fun i _ => n - (intOf i).toNat)
          case atStart => exact ⟨0, Nat.zero_le _, rfl, fun a ha => by omega, HD.out⟩
          case round =>
            clear HD
            obtain ⟨z, hz, rfl, hnz, hd⟩ := hrel
            have HD := Lib.hid hd
            have HNZ := Lib.hid hnz
            clear hd hnz
            by_cases hzl : z < n
            case neg =>
              have hzi : ¬ (z : Int) < (n : Int) := by omega
              go_wp2
              go_roundw
              case rel => exact ⟨y + 1, by omega, by go_num, fun a ha => by
                by_cases e : a = y
                · subst e; exact fun b hb => HNZ.out b (by omega)
                · exact HNY.out a (by omega), HD.out⟩
              case measure => simp [intOf]; omega
            case pos =>
              have hzi : (z : Int) < (n : Int) := by omega
              have HEQ := Lib.hid (eqT_moves (mulN L) (mulN S) x y z)
              have W0 := Lib.hid (show WordOk L.length [(x : Int), (y : Int), (z : Int)] from word3 (by rw [← HN.out]; exact hxl) (by rw [← HN.out]; exact hyl) (by rw [← HN.out]; exact hzl))
              have WA := Lib.hid (HP.out.move (k := 0) W0.out (by simp))
              have WA2 := Lib.hid (HP.out.move (k := 1) WA.out (by simp [length_moveL]))
              have WB := Lib.hid (HP.out.move (k := 1) W0.out (by simp))
              have WB2 := Lib.hid (HP.out.move (k := 0) WB.out (by simp [length_moveL]))
              have CA := Lib.hid (l02Do_3 L S _ 0 0 rfl HP.out W0.out (by simp [length_moveL]) (by simp [length_moveL]))
              have CB := Lib.hid (l02Do_3 L S _ 1 1 rfl HP.out W0.out (by simp [length_moveL]) (by simp [length_moveL]))
              have CA2 := Lib.hid (l02Do_3 L S _ 1 1 rfl HP.out WA.out (by simp [length_moveL]) (by simp [length_moveL]))
              have CB2 := Lib.hid (l02Do_3 L S _ 0 0 rfl HP.out WB.out (by simp [length_moveL]) (by simp [length_moveL]))
              have CA3 := Lib.hid (l02Do_3 L S _ 0 0 rfl HP.out WA2.out (by simp [length_moveL]) (by simp [length_moveL]))
              have CB3 := Lib.hid (l02Do_3 L S _ 1 1 rfl HP.out WB2.out (by simp [length_moveL]) (by simp [length_moveL]))
              have HL3 := Lib.hid (show (moveL (mulN L) (mulN S) (moveL (mulN L) (mulN S) (moveL (mulN L) (mulN S) [(x : Int), (y : Int), (z : Int)] 0) 1) 0).length ≤ 1048576 by simp [length_moveL])
              obtain ⟨A, hA⟩ : ∃ q, q = moveL (mulN L) (mulN S) [(x : Int), (y : Int), (z : Int)] 0 := ⟨_, rfl⟩
              obtain ⟨B, hB⟩ : ∃ q, q = moveL (mulN L) (mulN S) [(x : Int), (y : Int), (z : Int)] 1 := ⟨_, rfl⟩
              rw [← hA] at CA CA2 CA3 HEQ HL3
              rw [← hB] at CB CB2 CB3 HEQ
              obtain ⟨A2, hA2⟩ : ∃ q, q = moveL (mulN L) (mulN S) A 1 := ⟨_, rfl⟩
              obtain ⟨B2, hB2⟩ : ∃ q, q = moveL (mulN L) (mulN S) B 0 := ⟨_, rfl⟩
              rw [← hA2] at CA2 CA3 HEQ HL3
              rw [← hB2] at CB2 CB3 HEQ
              obtain ⟨A3, hA3⟩ : ∃ q, q = moveL (mulN L) (mulN S) A2 0 := ⟨_, rfl⟩
              obtain ⟨B3, hB3⟩ : ∃ q, q = moveL (mulN L) (mulN S) B2 1 := ⟨_, rfl⟩
              rw [← hA3] at CA3 HEQ HL3
              rw [← hB3] at CB3 HEQ
              clear hA hB hA2 hB2 hA3 hB3 WA WA2 WB WB2 W0
              have i0 : Ints (wr.alloc (.cells #[.int .i64 (x : Int), .int .i64 (y : Int), .int .i64 (z : Int)] 2)) (.slice (some ⟨wr.heap.size, 0, none⟩) 3 3) [(x : Int), (y : Int), (z : Int)] := by
                refine ⟨by simp, wr.heap.size, 0, 3, rfl, fun i hi => ?_⟩
                match i, hi with
                | 0, _ => simp [ix]
                | 1, _ => simp [ix]
                | 2, _ => simp [ix]
              have hxw : Ext w1 (wr.alloc (.cells #[.int .i64 (x : Int), .int .i64 (y : Int), .int .i64 (z : Int)] 2)) := HD.out.alloc _
              go_wp2_with fail
              generalize (wr.alloc (.cells #[.int .i64 (x : Int), .int .i64 (y : Int), .int .i64 (z : Int)] 2)) = w5 at *
              have k0 := hxw.cell HK0.out
              have k1 := hxw.cell HK1.out
              obtain ⟨bq, hbq⟩ : ∃ bq : Bool, bq = eqIB A3 B3 := ⟨_, rfl⟩
              have HBQ := Lib.hid hbq
              have I0 := Lib.hid i0
              clear hbq i0
              go_cut [45] (fun v wx => v = .bool (!bq) ∧ Ext w5 wx)
              case first =>
                go_region_held3 (fun w' => w'.cell? ⟨w.heap.size, 0, none⟩ = some (.slice (some ⟨b, o, none⟩) n c) ∧ w'.cell? ⟨w.heap.size, 1, none⟩ = some (.slice (some ⟨b2, o2, none⟩) n c2))
                  ((refine ⟨?_, ?_⟩ <;> (repeat first | (with_reducible assumption) | (with_reducible refine Ext.cell xE ?_) | (with_reducible refine Ext.cell xA ?_) | (with_reducible refine Ext.cell xA2 ?_) | (with_reducible refine Ext.cell xA3 ?_) | (with_reducible refine Ext.cell xB ?_) | (with_reducible refine Ext.cell xB2 ?_) | (with_reducible refine Ext.cell xB3 ?_) |  (with_reducible exact kc_new) | ((with_reducible refine kc_newE ?_); (simp; done)) | ((with_reducible refine kc_newEa ?_); (simp; done)) | ((with_reducible refine kc_newEb ?_); (simp; done)) | (with_reducible apply kc_alloc) | (with_reducible apply kc_drewN) | (with_reducible apply kc_drew) | ((with_reducible refine kc_set ?_ ?_); (first | (simp only []; omega) | (simp; omega) | (focus (simp; done)))) | ((with_reducible refine kc_set2 ?_ ?_); (focus (simp; done))) | (with_reducible refine kc_same (v := .slice none 0 0) ?_))))
                  (first
                    | (go_at_call 77; refine (l01Same_any A3 B3 _ _ _ (iA3.toR.ext (by (repeat first | (with_reducible exact Ext.refl _) | (with_reducible assumption) | (with_reducible apply Ext.drew) | (with_reducible apply kx_drewN) | (with_reducible apply kx_alloc) | ((with_reducible refine kx_set ?_ ?_); (first | (simp only []; omega) | (simp; omega) | (focus (simp; done)))) | (with_reducible refine Ext.trans ?_ xA) | (with_reducible refine Ext.trans ?_ xA2) | (with_reducible refine Ext.trans ?_ xA3) | (with_reducible refine Ext.trans ?_ xB) | (with_reducible refine Ext.trans ?_ xB2) | (with_reducible refine Ext.trans ?_ xB3) ))) (iB3.toR.ext (by (repeat first | (with_reducible exact Ext.refl _) | (with_reducible assumption) | (with_reducible apply Ext.drew) | (with_reducible apply kx_drewN) | (with_reducible apply kx_alloc) | ((with_reducible refine kx_set ?_ ?_); (first | (simp only []; omega) | (simp; omega) | (focus (simp; done)))) | (with_reducible refine Ext.trans ?_ xA) | (with_reducible refine Ext.trans ?_ xA2) | (with_reducible refine Ext.trans ?_ xA3) | (with_reducible refine Ext.trans ?_ xB) | (with_reducible refine Ext.trans ?_ xB2) | (with_reducible refine Ext.trans ?_ xB3) ))) HL3.out).mono ?_; rintro e wE ⟨rfl, hdE⟩; have xE := hdE.ext) 
                    | (go_at_call 66; (with_reducible refine at_args (b := .slice (some ⟨bA2, 0, none⟩) 3 bA2c) (c := .int .i64 0) ?_); refine (CA3.out _ _ _ _ (HV.out.ext (by (repeat first | (with_reducible exact Ext.refl _) | (with_reducible assumption) | (with_reducible apply Ext.drew) | (with_reducible apply kx_drewN) | (with_reducible apply kx_alloc) | ((with_reducible refine kx_set ?_ ?_); (first | (simp only []; omega) | (simp; omega) | (focus (simp; done)))) | (with_reducible refine Ext.trans ?_ xA) | (with_reducible refine Ext.trans ?_ xA2) | (with_reducible refine Ext.trans ?_ xA3) | (with_reducible refine Ext.trans ?_ xB) | (with_reducible refine Ext.trans ?_ xB2) | (with_reducible refine Ext.trans ?_ xB3) ))) (HY.out.ext (by (repeat first | (with_reducible exact Ext.refl _) | (with_reducible assumption) | (with_reducible apply Ext.drew) | (with_reducible apply kx_drewN) | (with_reducible apply kx_alloc) | ((with_reducible refine kx_set ?_ ?_); (first | (simp only []; omega) | (simp; omega) | (focus (simp; done)))) | (with_reducible refine Ext.trans ?_ xA) | (with_reducible refine Ext.trans ?_ xA2) | (with_reducible refine Ext.trans ?_ xA3) | (with_reducible refine Ext.trans ?_ xB) | (with_reducible refine Ext.trans ?_ xB2) | (with_reducible refine Ext.trans ?_ xB3) ))) (iA2.ext (by (repeat first | (with_reducible exact Ext.refl _) | (with_reducible assumption) | (with_reducible apply Ext.drew) | (with_reducible apply kx_drewN) | (with_reducible apply kx_alloc) | ((with_reducible refine kx_set ?_ ?_); (first | (simp only []; omega) | (simp; omega) | (focus (simp; done)))) | (with_reducible refine Ext.trans ?_ xA) | (with_reducible refine Ext.trans ?_ xA2) | (with_reducible refine Ext.trans ?_ xA3) | (with_reducible refine Ext.trans ?_ xB) | (with_reducible refine Ext.trans ?_ xB2) | (with_reducible refine Ext.trans ?_ xB3) )))).mono ?_; rintro e wA3 ⟨bA3, bA3c, rfl, iA3, xA3⟩) 
                    | (go_at_call 66; (with_reducible refine at_args (b := .slice (some ⟨bB2, 0, none⟩) 3 bB2c) (c := .int .i64 1) ?_); refine (CB3.out _ _ _ _ (HV.out.ext (by (repeat first | (with_reducible exact Ext.refl _) | (with_reducible assumption) | (with_reducible apply Ext.drew) | (with_reducible apply kx_drewN) | (with_reducible apply kx_alloc) | ((with_reducible refine kx_set ?_ ?_); (first | (simp only []; omega) | (simp; omega) | (focus (simp; done)))) | (with_reducible refine Ext.trans ?_ xA) | (with_reducible refine Ext.trans ?_ xA2) | (with_reducible refine Ext.trans ?_ xA3) | (with_reducible refine Ext.trans ?_ xB) | (with_reducible refine Ext.trans ?_ xB2) | (with_reducible refine Ext.trans ?_ xB3) ))) (HY.out.ext (by (repeat first | (with_reducible exact Ext.refl _) | (with_reducible assumption) | (with_reducible apply Ext.drew) | (with_reducible apply kx_drewN) | (with_reducible apply kx_alloc) | ((with_reducible refine kx_set ?_ ?_); (first | (simp only []; omega) | (simp; omega) | (focus (simp; done)))) | (with_reducible refine Ext.trans ?_ xA) | (with_reducible refine Ext.trans ?_ xA2) | (with_reducible refine Ext.trans ?_ xA3) | (with_reducible refine Ext.trans ?_ xB) | (with_reducible refine Ext.trans ?_ xB2) | (with_reducible refine Ext.trans ?_ xB3) ))) (iB2.ext (by (repeat first | (with_reducible exact Ext.refl _) | (with_reducible assumption) | (with_reducible apply Ext.drew) | (with_reducible apply kx_drewN) | (with_reducible apply kx_alloc) | ((with_reducible refine kx_set ?_ ?_); (first | (simp only []; omega) | (simp; omega) | (focus (simp; done)))) | (with_reducible refine Ext.trans ?_ xA) | (with_reducible refine Ext.trans ?_ xA2) | (with_reducible refine Ext.trans ?_ xA3) | (with_reducible refine Ext.trans ?_ xB) | (with_reducible refine Ext.trans ?_ xB2) | (with_reducible refine Ext.trans ?_ xB3) )))).mono ?_; rintro e wB3 ⟨bB3, bB3c, rfl, iB3, xB3⟩) 
                    | (go_at_call 66; (with_reducible refine at_args (b := .slice (some ⟨bA, 0, none⟩) 3 bAc) (c := .int .i64 1) ?_); refine (CA2.out _ _ _ _ (HV.out.ext (by (repeat first | (with_reducible exact Ext.refl _) | (with_reducible assumption) | (with_reducible apply Ext.drew) | (with_reducible apply kx_drewN) | (with_reducible apply kx_alloc) | ((with_reducible refine kx_set ?_ ?_); (first | (simp only []; omega) | (simp; omega) | (focus (simp; done)))) | (with_reducible refine Ext.trans ?_ xA) | (with_reducible refine Ext.trans ?_ xA2) | (with_reducible refine Ext.trans ?_ xA3) | (with_reducible refine Ext.trans ?_ xB) | (with_reducible refine Ext.trans ?_ xB2) | (with_reducible refine Ext.trans ?_ xB3) ))) (HY.out.ext (by (repeat first | (with_reducible exact Ext.refl _) | (with_reducible assumption) | (with_reducible apply Ext.drew) | (with_reducible apply kx_drewN) | (with_reducible apply kx_alloc) | ((with_reducible refine kx_set ?_ ?_); (first | (simp only []; omega) | (simp; omega) | (focus (simp; done)))) | (with_reducible refine Ext.trans ?_ xA) | (with_reducible refine Ext.trans ?_ xA2) | (with_reducible refine Ext.trans ?_ xA3) | (with_reducible refine Ext.trans ?_ xB) | (with_reducible refine Ext.trans ?_ xB2) | (with_reducible refine Ext.trans ?_ xB3) ))) (iA.ext (by (repeat first | (with_reducible exact Ext.refl _) | (with_reducible assumption) | (with_reducible apply Ext.drew) | (with_reducible apply kx_drewN) | (with_reducible apply kx_alloc) | ((with_reducible refine kx_set ?_ ?_); (first | (simp only []; omega) | (simp; omega) | (focus (simp; done)))) | (with_reducible refine Ext.trans ?_ xA) | (with_reducible refine Ext.trans ?_ xA2) | (with_reducible refine Ext.trans ?_ xA3) | (with_reducible refine Ext.trans ?_ xB) | (with_reducible refine Ext.trans ?_ xB2) | (with_reducible refine Ext.trans ?_ xB3) )))).mono ?_; rintro e wA2 ⟨bA2, bA2c, rfl, iA2, xA2⟩) 
                    | (go_at_call 66; (with_reducible refine at_args (b := .slice (some ⟨bB, 0, none⟩) 3 bBc) (c := .int .i64 0) ?_); refine (CB2.out _ _ _ _ (HV.out.ext (by (repeat first | (with_reducible exact Ext.refl _) | (with_reducible assumption) | (with_reducible apply Ext.drew) | (with_reducible apply kx_drewN) | (with_reducible apply kx_alloc) | ((with_reducible refine kx_set ?_ ?_); (first | (simp only []; omega) | (simp; omega) | (focus (simp; done)))) | (with_reducible refine Ext.trans ?_ xA) | (with_reducible refine Ext.trans ?_ xA2) | (with_reducible refine Ext.trans ?_ xA3) | (with_reducible refine Ext.trans ?_ xB) | (with_reducible refine Ext.trans ?_ xB2) | (with_reducible refine Ext.trans ?_ xB3) ))) (HY.out.ext (by (repeat first | (with_reducible exact Ext.refl _) | (with_reducible assumption) | (with_reducible apply Ext.drew) | (with_reducible apply kx_drewN) | (with_reducible apply kx_alloc) | ((with_reducible refine kx_set ?_ ?_); (first | (simp only []; omega) | (simp; omega) | (focus (simp; done)))) | (with_reducible refine Ext.trans ?_ xA) | (with_reducible refine Ext.trans ?_ xA2) | (with_reducible refine Ext.trans ?_ xA3) | (with_reducible refine Ext.trans ?_ xB) | (with_reducible refine Ext.trans ?_ xB2) | (with_reducible refine Ext.trans ?_ xB3) ))) (iB.ext (by (repeat first | (with_reducible exact Ext.refl _) | (with_reducible assumption) | (with_reducible apply Ext.drew) | (with_reducible apply kx_drewN) | (with_reducible apply kx_alloc) | ((with_reducible refine kx_set ?_ ?_); (first | (simp only []; omega) | (simp; omega) | (focus (simp; done)))) | (with_reducible refine Ext.trans ?_ xA) | (with_reducible refine Ext.trans ?_ xA2) | (with_reducible refine Ext.trans ?_ xA3) | (with_reducible refine Ext.trans ?_ xB) | (with_reducible refine Ext.trans ?_ xB2) | (with_reducible refine Ext.trans ?_ xB3) )))).mono ?_; rintro e wB2 ⟨bB2, bB2c, rfl, iB2, xB2⟩) 
                    | (go_at_call 66; (with_reducible refine at_args (b := .slice (some ⟨wr.heap.size, 0, none⟩) 3 3) (c := .int .i64 0) ?_); refine (CA.out _ _ _ _ (HV.out.ext (by (repeat first | (with_reducible exact Ext.refl _) | (with_reducible assumption) | (with_reducible apply Ext.drew) | (with_reducible apply kx_drewN) | (with_reducible apply kx_alloc) | ((with_reducible refine kx_set ?_ ?_); (first | (simp only []; omega) | (simp; omega) | (focus (simp; done)))) | (with_reducible refine Ext.trans ?_ xA) | (with_reducible refine Ext.trans ?_ xA2) | (with_reducible refine Ext.trans ?_ xA3) | (with_reducible refine Ext.trans ?_ xB) | (with_reducible refine Ext.trans ?_ xB2) | (with_reducible refine Ext.trans ?_ xB3) ))) (HY.out.ext (by (repeat first | (with_reducible exact Ext.refl _) | (with_reducible assumption) | (with_reducible apply Ext.drew) | (with_reducible apply kx_drewN) | (with_reducible apply kx_alloc) | ((with_reducible refine kx_set ?_ ?_); (first | (simp only []; omega) | (simp; omega) | (focus (simp; done)))) | (with_reducible refine Ext.trans ?_ xA) | (with_reducible refine Ext.trans ?_ xA2) | (with_reducible refine Ext.trans ?_ xA3) | (with_reducible refine Ext.trans ?_ xB) | (with_reducible refine Ext.trans ?_ xB2) | (with_reducible refine Ext.trans ?_ xB3) ))) (I0.out.ext (by (repeat first | (with_reducible exact Ext.refl _) | (with_reducible assumption) | (with_reducible apply Ext.drew) | (with_reducible apply kx_drewN) | (with_reducible apply kx_alloc) | ((with_reducible refine kx_set ?_ ?_); (first | (simp only []; omega) | (simp; omega) | (focus (simp; done)))) | (with_reducible refine Ext.trans ?_ xA) | (with_reducible refine Ext.trans ?_ xA2) | (with_reducible refine Ext.trans ?_ xA3) | (with_reducible refine Ext.trans ?_ xB) | (with_reducible refine Ext.trans ?_ xB2) | (with_reducible refine Ext.trans ?_ xB3) )))).mono ?_; rintro e wA ⟨bA, bAc, rfl, iA, xA⟩) 
                    | (go_at_call 66; (with_reducible refine at_args (b := .slice (some ⟨wr.heap.size, 0, none⟩) 3 3) (c := .int .i64 1) ?_); refine (CB.out _ _ _ _ (HV.out.ext (by (repeat first | (with_reducible exact Ext.refl _) | (with_reducible assumption) | (with_reducible apply Ext.drew) | (with_reducible apply kx_drewN) | (with_reducible apply kx_alloc) | ((with_reducible refine kx_set ?_ ?_); (first | (simp only []; omega) | (simp; omega) | (focus (simp; done)))) | (with_reducible refine Ext.trans ?_ xA) | (with_reducible refine Ext.trans ?_ xA2) | (with_reducible refine Ext.trans ?_ xA3) | (with_reducible refine Ext.trans ?_ xB) | (with_reducible refine Ext.trans ?_ xB2) | (with_reducible refine Ext.trans ?_ xB3) ))) (HY.out.ext (by (repeat first | (with_reducible exact Ext.refl _) | (with_reducible assumption) | (with_reducible apply Ext.drew) | (with_reducible apply kx_drewN) | (with_reducible apply kx_alloc) | ((with_reducible refine kx_set ?_ ?_); (first | (simp only []; omega) | (simp; omega) | (focus (simp; done)))) | (with_reducible refine Ext.trans ?_ xA) | (with_reducible refine Ext.trans ?_ xA2) | (with_reducible refine Ext.trans ?_ xA3) | (with_reducible refine Ext.trans ?_ xB) | (with_reducible refine Ext.trans ?_ xB2) | (with_reducible refine Ext.trans ?_ xB3) ))) (I0.out.ext (by (repeat first | (with_reducible exact Ext.refl _) | (with_reducible assumption) | (with_reducible apply Ext.drew) | (with_reducible apply kx_drewN) | (with_reducible apply kx_alloc) | ((with_reducible refine kx_set ?_ ?_); (first | (simp only []; omega) | (simp; omega) | (focus (simp; done)))) | (with_reducible refine Ext.trans ?_ xA) | (with_reducible refine Ext.trans ?_ xA2) | (with_reducible refine Ext.trans ?_ xA3) | (with_reducible refine Ext.trans ?_ xB) | (with_reducible refine Ext.trans ?_ xB2) | (with_reducible refine Ext.trans ?_ xB3) )))).mono ?_; rintro e wB ⟨bB, bBc, rfl, iB, xB⟩))
                all_goals
                  go_wp2
                  go_meet
                  case rel => exact ⟨by rw [HBQ.out], by (repeat first | (with_reducible exact Ext.refl _) | (with_reducible assumption) | (with_reducible apply Ext.drew) | (with_reducible apply kx_drewN) | (with_reducible apply kx_alloc) | ((with_reducible refine kx_set ?_ ?_); (first | (simp only []; omega) | (simp; omega) | (focus (simp; done)))) | (with_reducible refine Ext.trans ?_ xE) | (with_reducible refine Ext.trans ?_ xA) | (with_reducible refine Ext.trans ?_ xA2) | (with_reducible refine Ext.trans ?_ xA3) | (with_reducible refine Ext.trans ?_ xB) | (with_reducible refine Ext.trans ?_ xB2) | (with_reducible refine Ext.trans ?_ xB3) )⟩
              case rest =>
                obtain ⟨rfl, hcx⟩ := hcut
                have HDX := Lib.hid (hxw.trans hcx)
                clear hcx hxw k0 k1 I0
                cases bq with
                | true =>
                  go_wp2
                  go_roundw
                  case rel => exact ⟨z + 1, by omega, by go_num, fun c hc => by
                    by_cases e : c = z
                    · subst e; exact HEQ.out.1 (eqIB_iff.1 HBQ.out.symm)
                    · exact HNZ.out c (by omega), HDX.out⟩
                  case measure => simp [intOf]; omega
                | false =>
                  go_wp2
                  go_ret
                  exact ⟨.inr ⟨by
                    cases hJ : J with
                    | false => rfl
                    | true => exact absurd (eqIB_iff.2 (HEQ.out.2 (HB.out.1 hJ x hxl y hyl z hzl))) (by rw [← HBQ.out]; simp), _, rfl⟩, hx0.trans HDX.out⟩

end Go.Proofs.YtjfjpngajboidaaGreat


namespace Go.Proofs.YtjfjpngajboidaaGreat
set_option linter.unusedVariables false
set_option linter.unusedSimpArgs false
open Go.RowKit
attribute [local go_sem ↓] Go.wp_at_zero Go.wp_at_succ
open Go.Deep

set_option maxRecDepth 100000 in
set_option maxHeartbeats 1000000 in
theorem l02Is_any (L S : List (List Int)) (v y : Value) (w : World) (hv : Rows w v L) (hy : Rows w y S) :
    Calls Tryz.prog 52 #[.agg #[v, y]] w fun e w' => e = .returned (.bool (solB L S)) ∧ Ext w w' := by
  obtain ⟨-, b, o, c, rfl, -⟩ := id hv
  obtain ⟨-, b2, o2, c2, rfl, -⟩ := id hy
  have hx0 : Ext w (w.alloc (.cells #[.slice (some ⟨b, o, none⟩) L.length c, .slice (some ⟨b2, o2, none⟩) S.length c2] 26)) := (Ext.refl _).alloc _
  have k0 := cell_new2a w (.slice (some ⟨b, o, none⟩) L.length c) (.slice (some ⟨b2, o2, none⟩) S.length c2) 26
  have k1 := cell_new2b w (.slice (some ⟨b, o, none⟩) L.length c) (.slice (some ⟨b2, o2, none⟩) S.length c2) 26
  have HV := Lib.hid hv
  have HY := Lib.hid hy
  rw [solB_def]
  clear hv hy
  go_enter Tryz.func52, Tryz.ntmps52
  go_wp2_with fail
  generalize (w.alloc (.cells #[.slice (some ⟨b, o, none⟩) L.length c, .slice (some ⟨b2, o2, none⟩) S.length c2] 26)) = w1 at *
  refine (l02Map_any L S _ _ _ (HV.out.ext hx0) (HY.out.ext hx0)).mono ?_
  rintro e w2 ⟨rfl, hx⟩
  have hx2 := hx0.trans hx
  replace k0 := hx.cell k0
  replace k1 := hx.cell k1
  clear hx hx0
  cases hp : pairB L S with
  | false =>
    go_wp2_with fail
    go_ret
    exact ⟨by rw [hp]; rfl, hx2⟩
  | true =>
    have hP := Lib.hid (pairB_iff.1 hp)
    go_wp2_with fail
    refine (l02Collision_any L S _ _ _ (HV.out.ext hx2) (HY.out.ext hx2) hP.out).mono ?_
    rintro e w3 ⟨h | h, hx⟩
    · obtain ⟨hj, a, rfl, -⟩ := h
      have hx3 := hx2.trans hx
      replace k0 := hx.cell k0
      replace k1 := hx.cell k1
      clear hx hx2
      go_wp2_with fail
      refine (l02Fault_any L S _ _ _ (HV.out.ext hx3) (HY.out.ext hx3) hP.out).mono ?_
      rintro e w4 ⟨h | h, hx⟩
      · obtain ⟨he, a, rfl, -⟩ := h
        go_wp2_with fail
        go_ret
        exact ⟨by rw [hp, hj, he]; rfl, hx3.trans hx⟩
      · obtain ⟨he, a, rfl⟩ := h
        go_wp2_with fail
        go_ret
        exact ⟨by rw [hp, hj, he]; rfl, hx3.trans hx⟩
    · obtain ⟨hj, a, rfl⟩ := h
      go_wp2_with fail
      go_ret
      exact ⟨by rw [hp, hj]; rfl, hx2.trans hx⟩

end Go.Proofs.YtjfjpngajboidaaGreat
