/-
  Contracts of OppositeGroup, IsAbelianGroup, CenterOf: reference and program.
-/
import Derived.Test.YtnkbdnimpcipfaaProg
import Derived.Deep.DeepCutAuto
import Derived.Deep.RegionWith
import Derived.Test.YtnkbdnimpcipfaaBase
import Derived.Test.YtnkbdnimpcipfaaBase2
import Derived.Test.YtnkbdnimpcipfaaRet
import Derived.Test.YtnkbdnimpcipfaaPure1
import Derived.Test.YtnkbdnimpcipfaaPureOrd
import Derived.Test.YtnkbdnimpcipfaaPureInv
import Derived.Test.YtnkbdnimpcipfaaPureTurn
import Derived.Test.YtnkbdnimpcipfaaW1
import Derived.Test.YtnkbdnimpcipfaaW3
import Derived.Test.YtnkbdnimpcipfaaW6
import Derived.Test.YtnkbdnimpcipfaaW7
import Derived.Test.YtnkbdnimpcipfaaW8
import Derived.Test.YtnkbdnimpcipfaaW10
import Derived.Test.YtnkbdnimpcipfaaW11
import Derived.Test.YtnkbdnimpcipfaaW12
import Derived.Test.YtnkbdnimpcipfaaW21
import Derived.Test.YtnkbdnimpcipfaaW22
import Derived.Test.YtnkbdnimpcipfaaW23
namespace Go.Proofs.Ytnkbdnimpcipfaa
set_option linter.unusedVariables false
set_option linter.unusedSimpArgs false
open Go.RowKit

theorem OppositeGroup_spec (t : List (List Int)) (v : Value) (w : World) (hv : Rows w v t) :
    Calls Try.prog 29 #[.agg #[v]] w (RetG (ifG t (turnT t) []) (codeG t) w) := by
  obtain ⟨hlen, b, o, c, rfl, hc⟩ := id hv
  have hx0 := ext_box2 w (.slice (some ⟨b, o, none⟩) t.length c) (.slice none 0 0) 28 28
  have b0 : ((w.alloc (.cells #[.slice (some ⟨b, o, none⟩) t.length c] 28)).alloc (.cells #[.slice none 0 0] 28)).cell? ⟨w.heap.size, 0, none⟩ = some (.slice (some ⟨b, o, none⟩) t.length c) := by simp [go_sem]
  have r0 : ((w.alloc (.cells #[.slice (some ⟨b, o, none⟩) t.length c] 28)).alloc (.cells #[.slice none 0 0] 28)).cell? ⟨w.heap.size + 1, 0, none⟩ = some (.slice none 0 0) := by simp [go_sem]
  have q0 : ((w.alloc (.cells #[.slice (some ⟨b, o, none⟩) t.length c] 28)).alloc (.cells #[.slice none 0 0] 28)).frozen? ⟨w.heap.size + 1, 0, none⟩ = false := by simp [go_sem]
  have z0 : w.heap.size + 2 = ((w.alloc (.cells #[.slice (some ⟨b, o, none⟩) t.length c] 28)).alloc (.cells #[.slice none 0 0] 28)).heap.size := by simp
  cases hg : groupB t with
  | false =>
    rw [ifG_no hg, codeG_no hg]
    go_enter Try.func29, Try.ntmps29
    go_wp2_with fail
    generalize (w.alloc (.cells #[.slice (some ⟨b, o, none⟩) t.length c] 28)).alloc (.cells #[.slice none 0 0] 28) = A at *
    refine (l10Is_any t _ _ (hv.ext hx0)).mono ?_
    rintro e w1 ⟨rfl, hx1⟩
    rw [hg]
    have f1 := hx1.cell r0
    have f2 := hx1.free q0 (by simp only []; omega)
    go_wp2
    refine bodyPost_ret (v := .tuple #[.agg #[.slice none 0 0], .int .i64 1]) (by simp [results, Try.results29, go_sem, f1]) rfl ⟨_, rfl, RowsR.nil _ _, (hx0.trans hx1).setNew (by simp only []; omega) _⟩
  | true =>
    have hG := groupB_iff.1 hg
    rw [ifG_yes hg, codeG_yes hg]
    go_enter Try.func29, Try.ntmps29
    go_wp2_with fail
    generalize (w.alloc (.cells #[.slice (some ⟨b, o, none⟩) t.length c] 28)).alloc (.cells #[.slice none 0 0] 28) = A at *
    refine (l10Is_any t _ _ (hv.ext hx0)).mono ?_
    rintro e w1 ⟨rfl, hx1⟩
    rw [hg]
    have f1 := hx1.cell r0
    have f2 := hx1.free q0 (by simp only []; omega)
    have b1 := hx1.cell b0
    have zz := hx1.size
    go_wp2_with fail
    refine (l01Turn_any t _ _ (hv.ext (hx0.trans hx1)) hG.1).mono ?_
    rintro e w2 ⟨v, rfl, hr, hx2⟩
    obtain ⟨-, rb, ro, rc, rfl, -⟩ := id hr
    have f3 := hx2.cell f1
    have f4 := hx2.free f2 (by simp only []; omega)
    go_wp2
    refine bodyPost_ret (v := .tuple #[.agg #[.slice (some ⟨rb, ro, none⟩) (turnT t).length rc], .int .i64 0]) (by simp [results, Try.results29, go_sem, f3]) rfl ⟨_, rfl, ?_, ((hx0.trans hx1).trans hx2).setNew (by simp only []; omega) _⟩
    exact Rows.toR (hr.setNil f3 _)

theorem OppositeGroup_impl (t : List (List Int)) (v : Value) (w : World) (hv : Rows w v t) :
    Calls Try.prog 30 #[.agg #[v]] w (NewGC (ifG t (turnT t) []) (codeG t) w) := by
  obtain ⟨hlen, b, o, c, rfl, hc⟩ := id hv
  have hx0 := ext_box2 w (.slice (some ⟨b, o, none⟩) t.length c) (.slice none 0 0) 28 28
  have b0 : ((w.alloc (.cells #[.slice (some ⟨b, o, none⟩) t.length c] 28)).alloc (.cells #[.slice none 0 0] 28)).cell? ⟨w.heap.size, 0, none⟩ = some (.slice (some ⟨b, o, none⟩) t.length c) := by simp [go_sem]
  have r0 : ((w.alloc (.cells #[.slice (some ⟨b, o, none⟩) t.length c] 28)).alloc (.cells #[.slice none 0 0] 28)).cell? ⟨w.heap.size + 1, 0, none⟩ = some (.slice none 0 0) := by simp [go_sem]
  have q0 : ((w.alloc (.cells #[.slice (some ⟨b, o, none⟩) t.length c] 28)).alloc (.cells #[.slice none 0 0] 28)).frozen? ⟨w.heap.size + 1, 0, none⟩ = false := by simp [go_sem]
  have z0 : w.heap.size + 2 = ((w.alloc (.cells #[.slice (some ⟨b, o, none⟩) t.length c] 28)).alloc (.cells #[.slice none 0 0] 28)).heap.size := by simp
  cases hg : groupB t with
  | false =>
    rw [ifG_no hg, codeG_no hg]
    go_enter Try.func30, Try.ntmps30
    go_wp2_with fail
    generalize (w.alloc (.cells #[.slice (some ⟨b, o, none⟩) t.length c] 28)).alloc (.cells #[.slice none 0 0] 28) = A at *
    refine (IsGroup_impl t _ _ (hv.ext hx0)).mono ?_
    rintro e w1 ⟨rfl, hx1⟩
    rw [hg]
    have f1 := hx1.cell r0
    have f2 := hx1.free q0 (by simp only []; omega)
    go_wp2
    refine bodyPost_ret (v := .tuple #[.agg #[.slice none 0 0], .int .i64 1]) (by simp [results, Try.results30, go_sem, f1]) rfl ⟨_, rfl, OwnV.nil _ _ _, (hx0.trans hx1).setNew (by simp only []; omega) _⟩
  | true =>
    have hG := groupB_iff.1 hg
    rw [ifG_yes hg, codeG_yes hg]
    go_enter Try.func30, Try.ntmps30
    go_wp2_with fail
    generalize (w.alloc (.cells #[.slice (some ⟨b, o, none⟩) t.length c] 28)).alloc (.cells #[.slice none 0 0] 28) = A at *
    refine (IsGroup_impl t _ _ (hv.ext hx0)).mono ?_
    rintro e w1 ⟨rfl, hx1⟩
    rw [hg]
    have f1 := hx1.cell r0
    have f2 := hx1.free q0 (by simp only []; omega)
    have b1 := hx1.cell b0
    have zz := hx1.size
    go_wp2_with fail
    refine (transposed_any t _ _ (hv.ext (hx0.trans hx1)) hG.1).mono ?_
    rintro e w2 ⟨rb, rc, rfl, ho, hx2⟩
    have f3 := hx2.cell f1
    have f4 := hx2.free f2 (by simp only []; omega)
    have zz2 := hx2.size
    go_wp2
    refine bodyPost_ret (v := .tuple #[.agg #[.slice (some ⟨rb, 0, none⟩) (turnT t).length rc], .int .i64 0]) (by simp [results, Try.results30, go_sem, f3]) rfl ⟨_, rfl, ?_, ((hx0.trans hx1).trans hx2).setNew (by simp only []; omega) _⟩
    have := ((ho.setOther (a := ⟨w.heap.size + 1, 0, none⟩) (.inl (by simp only []; omega)) (.slice (some ⟨rb, 0, none⟩) (turnT t).length rc)).mono (lo' := w.heap.size) (hi' := w2.heap.size) (by omega) (Nat.le_refl _)).v (small_turnT (by omega)) rc
    simpa using this

theorem IsAbelianGroup_spec (t : List (List Int)) (v : Value) (w : World) (hv : Rows w v t) :
    Calls Try.prog 40 #[.agg #[v]] w (RetBI (ifG t (abelB t) false) (codeG t) w) := by
  obtain ⟨hlen, b, o, c, rfl, hc⟩ := id hv
  have hx0 := ext_box w (.slice (some ⟨b, o, none⟩) t.length c) 28
  have b0 := cell_new w (.slice (some ⟨b, o, none⟩) t.length c) 28
  cases hg : groupB t with
  | false =>
    rw [ifG_no hg, codeG_no hg]
    go_enter Try.func40, Try.ntmps40
    go_wp2_with fail
    refine (l10Is_any t _ _ (hv.ext hx0)).mono ?_
    rintro e w1 ⟨rfl, hx1⟩
    rw [hg]
    go_wp2
    go_ret2
    exact ⟨rfl, hx0.trans hx1⟩
  | true =>
    have hG := groupB_iff.1 hg
    rw [ifG_yes hg, codeG_yes hg]
    go_enter Try.func40, Try.ntmps40
    go_wp2_with fail
    refine (l10Is_any t _ _ (hv.ext hx0)).mono ?_
    rintro e w1 ⟨rfl, hx1⟩
    rw [hg]
    have b1 := hx1.cell b0
    go_wp2_with fail
    refine (l10Abelian_any t _ _ (hv.ext (hx0.trans hx1)) hG.1).mono ?_
    rintro e w2 ⟨rfl, hx2⟩
    go_wp2
    go_ret2
    exact ⟨rfl, (hx0.trans hx1).trans hx2⟩

theorem IsAbelianGroup_impl (t : List (List Int)) (v : Value) (w : World) (hv : Rows w v t) :
    Calls Try.prog 41 #[.agg #[v]] w (RetBI (ifG t (abelB t) false) (codeG t) w) := by
  obtain ⟨hlen, b, o, c, rfl, hc⟩ := id hv
  have hx0 := ext_box w (.slice (some ⟨b, o, none⟩) t.length c) 28
  have b0 := cell_new w (.slice (some ⟨b, o, none⟩) t.length c) 28
  cases hg : groupB t with
  | false =>
    rw [ifG_no hg, codeG_no hg]
    go_enter Try.func41, Try.ntmps41
    go_wp2_with fail
    refine (IsGroup_impl t _ _ (hv.ext hx0)).mono ?_
    rintro e w1 ⟨rfl, hx1⟩
    rw [hg]
    go_wp2
    go_ret2
    exact ⟨rfl, hx0.trans hx1⟩
  | true =>
    have hG := groupB_iff.1 hg
    have hab := abelB_def t
    rw [ifG_yes hg, codeG_yes hg]
    go_enter Try.func41, Try.ntmps41
    go_wp2_with fail
    refine (IsGroup_impl t _ _ (hv.ext hx0)).mono ?_
    rintro e w1 ⟨rfl, hx1⟩
    rw [hg]
    have b1 := hx1.cell b0
    have hX := hx0.trans hx1
    go_wp2
    go_region_with (first
      | (go_at_call 65; refine (transposed_any t _ _ (hv.ext hX.drew) hG.1).mono ?_; rintro e w2 ⟨rb, rc, rfl, ho, hx2⟩; have d2 := hx2.cell (show w1.drew.cell? _ = some _ from b1))
      | (go_at_call 79; refine (equalTables_any t (turnT t) _ _ _ (hv.ext (hX.drew.trans hx2)) ((ho.rowsAt (small_turnT (by omega))).rows (by rw [length_turnT]; omega) rc)).mono ?_; rintro e w3 ⟨rfl, rfl⟩; rw [hab]))
    all_goals
      go_wp2
      go_ret2
      exact ⟨rfl, hX.drew.trans hx2⟩

theorem CenterOf_spec (t : List (List Int)) (v : Value) (w : World) (hv : Rows w v t) :
    Calls Try.prog 20 #[.agg #[v]] w (RetII (ifG t (centerI t) 0) (codeG t) w) := by
  obtain ⟨hlen, b, o, c, rfl, hc⟩ := id hv
  have hx0 := ext_box w (.slice (some ⟨b, o, none⟩) t.length c) 28
  have b0 := cell_new w (.slice (some ⟨b, o, none⟩) t.length c) 28
  cases hg : groupB t with
  | false =>
    rw [ifG_no hg, codeG_no hg]
    go_enter Try.func20, Try.ntmps20
    go_wp2_with fail
    refine (l10Is_any t _ _ (hv.ext hx0)).mono ?_
    rintro e w1 ⟨rfl, hx1⟩
    rw [hg]
    go_wp2
    go_ret2
    exact ⟨rfl, hx0.trans hx1⟩
  | true =>
    have hG := groupB_iff.1 hg
    rw [ifG_yes hg, codeG_yes hg]
    go_enter Try.func20, Try.ntmps20
    go_wp2_with fail
    refine (l10Is_any t _ _ (hv.ext hx0)).mono ?_
    rintro e w1 ⟨rfl, hx1⟩
    rw [hg]
    have b1 := hx1.cell b0
    go_wp2_with fail
    refine (l10Center_any t _ _ (hv.ext (hx0.trans hx1)) hG.1).mono ?_
    rintro e w2 ⟨rfl, hx2⟩
    go_wp2
    go_ret2
    exact ⟨rfl, (hx0.trans hx1).trans hx2⟩

set_option maxRecDepth 100000 in
theorem CenterOf_impl (t : List (List Int)) (v : Value) (w : World) (hv : Rows w v t) :
    Calls Try.prog 21 #[.agg #[v]] w (RetII (ifG t (centerI t) 0) (codeG t) w) := by
  obtain ⟨hlen, b, o, c, rfl, hc⟩ := id hv
  have hx0 := ext_box w (.slice (some ⟨b, o, none⟩) t.length c) 28
  have b0 := cell_new w (.slice (some ⟨b, o, none⟩) t.length c) 28
  cases hg : groupB t with
  | false =>
    rw [ifG_no hg, codeG_no hg]
    go_enter Try.func21, Try.ntmps21
    go_wp2_with fail
    refine (IsGroup_impl t _ _ (hv.ext hx0)).mono ?_
    rintro e w1 ⟨rfl, hx1⟩
    rw [hg]
    go_wp2
    go_ret2
    exact ⟨rfl, hx0.trans hx1⟩
  | true =>
    have hG := groupB_iff.1 hg
    have HT := Lib.hid hG.1
    have h12 := hG.1.2.1
    have hcr := fun x (hx : x < t.length) => comB_row hG.1 hx
    have HCR := Lib.hid hcr
    rw [ifG_yes hg, codeG_yes hg, centerI_def]
    clear hcr hG
    generalize hp : (fun x => comB t x t.length) = p
    have HP := Lib.hid (fun x => congrFun hp x)
    clear hp
    go_enter Try.func21, Try.ntmps21
    go_wp2_with fail
    refine (IsGroup_impl t _ _ (hv.ext hx0)).mono ?_
    rintro e w1 ⟨rfl, hx1⟩
    rw [hg]
    have b1 := hx1.cell b0
    have hX := hx0.trans hx1
    clear b0 hx0
    go_wp2_with fail
    refine (transposed_any t _ _ (hv.ext hX) HT.out).mono ?_
    rintro e w2 ⟨rb, rc, rfl, ho, hx2⟩
    have b2 := hx2.cell b1
    have hX2 := hX.trans hx2
    have hra := ho.rowsAt (small_turnT (by omega))
    rw [length_turnT]
    clear b1 hX ho hx1
    go_wp2
    go_loopw [5, 17] (fun s i wr => ∃ k : Nat, k ≤ t.length ∧ i = .int .i64 k ∧ s = .int .i64 (setOf p k) ∧ Ext w2 wr) (fun _ i _ => t.length - (intOf i).toNat)
    case atStart => exact ⟨0, Nat.zero_le _, rfl, by rw [setOf_zero], Ext.refl _⟩
    case round =>
      obtain ⟨k, hk, rfl, rfl, hx⟩ := hrel
      by_cases hlt : k < t.length
      · obtain ⟨b4, o4, c4, r4, i4, m4⟩ := ((hc.ext hX2).ext hx).get hlt
        obtain ⟨b5, o5, c5, r5, i5, m5⟩ := (hra.ext hx).get (i := k) (by rw [length_turnT]; exact hlt)
        rw [Nat.zero_add] at r5
        have e4 := i4.ints m4 c4
        have e5 := i5.ints m5 c5
        have hpk := HP.out k
        have hrow := HCR.out k hlt
        clear i4 i5
        cases hcb : comB t k t.length with
        | true =>
          have hy := setOf_yes (p := p) (k := k) (by rw [← hpk]; exact hcb)
          have HY := Lib.hid hy
          clear hy hpk
          go_wp2_with fail
          refine (slicesEqual_any _ _ _ _ _ e4 e5).mono ?_
          rintro e w5 ⟨rfl, hx5⟩
          rw [hrow, hcb]
          go_wp2
          go_roundw
          case rel => exact ⟨k + 1, by omega, by go_num, by rw [HY.out], hx.trans hx5⟩
          case measure => simp [intOf]; omega
        | false =>
          have hy := setOf_no (p := p) (k := k) (by rw [← hpk]; exact hcb)
          have HY := Lib.hid hy
          clear hy hpk
          go_wp2_with fail
          refine (slicesEqual_any _ _ _ _ _ e4 e5).mono ?_
          rintro e w5 ⟨rfl, hx5⟩
          rw [hrow, hcb]
          go_wp2
          go_roundw
          case rel => exact ⟨k + 1, by omega, by go_num, by rw [HY.out], hx.trans hx5⟩
          case measure => simp [intOf]; omega
      · go_wp2
        go_ret2
        have hkk : k = t.length := by omega
        exact ⟨ret_two (by rw [hkk]) rfl, hX2.trans hx⟩
end Go.Proofs.Ytnkbdnimpcipfaa
