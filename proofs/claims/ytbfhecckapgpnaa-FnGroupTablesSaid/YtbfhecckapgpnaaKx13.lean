/-
  Contracts: copies of lists and tables; the trivial brace.
-/
import Derived.Test.YtbfhecckapgpnaaProg
import Derived.Deep.DeepCutAuto
import Derived.Deep.RegionWith
import Derived.Test.YtbfhecckapgpnaaKx0
import Derived.Test.YtbfhecckapgpnaaKx1
import Derived.Test.YtbfhecckapgpnaaKx2
import Derived.Test.YtbfhecckapgpnaaKx8
import Derived.Test.YtbfhecckapgpnaaKx7
import Derived.Test.YtbfhecckapgpnaaKx5
import Derived.Test.YtbfhecckapgpnaaKx12
import Derived.Test.YtbfhecckapgpnaaKx10
import Derived.Test.YtbfhecckapgpnaaKx6
namespace Go.Proofs.Ytbfhecckapgpnaa
set_option linter.unusedVariables false
set_option linter.unusedSimpArgs false
open Go.RowKit

set_option maxRecDepth 100000 in
theorem slicesClone_any (l : List Int) (v : Value) (w : World) (hv : Ints w v l) :
    Calls Try.prog 77 #[v] w (NewI l w) := by
  obtain ⟨hlen, b, o, c, rfl, hc⟩ := hv
  have hx0 : Ext w (w.alloc (.cells #[] 2)) := (Ext.refl _).alloc _
  have hi0 := GrowI.lit (e := 2) (base := w.heap.size) (w := w) (Nat.le_refl _)
  have he : ∀ w : World, (binOp .eql 45 (.slice (some ⟨b, o, none⟩) l.length c) (.slice none 0 0)).run Try.prog w = .ok (.bool false) w := fun _ => rfl
  go_enter Try.func77, Try.ntmps77
  go_wp2_with (at_builtin; refine wpList_append_ints rfl _ _ 45 2 rfl Try.underlying45 infoInt w.heap.size _ _ rfl hi0 b o c l rfl (hc.ext hx0) (by simp) hlen (by simp) ?_)
  intro v' w3 hi3 hgr hv3
  have hx3 : Ext w w3 := hx0.grown hgr hi0 (Nat.le_refl _)
  obtain ⟨b3, c3, rfl, ho⟩ := hi3.own (fun h => by first | exact hv3 h | simpa using (hv3.1 h).1)
  go_wp2
  go_ret
  exact ⟨b3, c3, rfl, ho, hx3⟩

theorem l01Own_any (l : List Int) (v : Value) (w : World) (hv : Ints w v l) :
    Calls Try.prog 126 #[v] w (NewI l w) := by
  obtain ⟨hlen, b, o, c, rfl, hc⟩ := hv
  have hx0 : Ext w (w.alloc (.cells #[] 2)) := (Ext.refl _).alloc _
  have hi0 := GrowI.lit (e := 2) (base := w.heap.size) (w := w) (Nat.le_refl _)
  go_enter Try.func126, Try.ntmps126
  go_wp2_with (at_builtin; refine wpList_append_ints rfl _ _ 45 2 rfl Try.underlying45 infoInt w.heap.size _ _ rfl hi0 b o c l rfl (hc.ext hx0) (by simp) hlen (by simp) ?_)
  intro v' w3 hi3 hgr hv3
  have hx3 : Ext w w3 := hx0.grown hgr hi0 (Nat.le_refl _)
  obtain ⟨b3, c3, rfl, ho⟩ := hi3.own (fun h => by first | exact hv3 h | simpa using (hv3.1 h).1)
  go_wp2
  go_ret
  exact ⟨b3, c3, rfl, ho, hx3⟩

theorem Rows.small {w : World} {v : Value} {t : List (List Int)} (h : Rows w v t) : Small t := by
  obtain ⟨hl, b, o, c, rfl, hc⟩ := h
  refine ⟨hl, fun i => ?_⟩
  by_cases hi : i < t.length
  · obtain ⟨_, _, h2, _⟩ := hc i hi; exact h2
  · rw [row_out (by omega)]; simp

theorem l01Own2_any (t : List (List Int)) (v : Value) (w : World) (hv : Rows w v t) :
    Calls Try.prog 120 #[v] w fun e w' => ∃ v, e = .returned v ∧ Rows w' v t ∧ Ext w w' := by
  obtain ⟨hlen, b, o, c, rfl, hc⟩ := id hv
  go_enter Try.func120, Try.ntmps120
  go_wp2
  have hx0 : Ext w (w.alloc (.cells #[] 45)) := (Ext.refl _).alloc _
  have hg0 := GrowT.lit (e := 45) (base := w.heap.size) (w := w) (Nat.le_refl _)
  go_loopw [3, 4] (fun v x wr => ∃ k : Nat, k ≤ t.length ∧ x = .int .i64 k ∧ GrowT 45 w.heap.size wr v (t.take k) ∧ v ≠ .slice none 0 0 ∧ Ext w wr) (fun _ x _ => t.length - (intOf x).toNat)
  case atStart => exact ⟨0, Nat.zero_le _, rfl, hg0, by simp, hx0⟩
  case round =>
    clear hx0 hg0
    obtain ⟨k, hk, rfl, hg, hv', hx⟩ := hrel
    have HV := Lib.hid hv'
    clear hv'
    by_cases hkl : k < t.length
    case neg =>
      go_wp2
      go_ret
      refine ⟨u3, rfl, ?_, hx⟩
      have : t.take k = t := List.take_of_length_le (by omega)
      rw [this] at hg
      exact hg.rows hlen HV.out
    case pos =>
      have HO := Lib.hid hg.lt
      obtain ⟨w2, rfl⟩ : ∃ w2 : World, w2 = wr := ⟨_, rfl⟩
      obtain ⟨b4, o4, c4, r4, i4, m4⟩ := (hc.ext hx).get hkl
      have e4 := i4.ints m4 c4
      clear i4
      go_wp2_with fail
      refine (l01Own_any (row t k) _ _ e4).mono ?_
      rintro e w3 ⟨br, cr, rfl, ho, hx2⟩
      have hri := ho.2.2.1
      have hrb := ho.1
      clear ho
      have hgw := hg.ext hx2
      have hne : some br ≠ u3.ownBlock := fun e => by have := HO.out br e.symm; omega
      have htl : (t.take k).length = k := by rw [List.length_take]; omega
      have HTL := Lib.hid htl
      clear htl hg
      go_wp2_with (at_builtin; refine wpList_append_row rfl _ _ 25 45 rfl Try.underlying25 infoSl w.heap.size _ _ rfl (hgw.ext (ext_box _ _ _)) _ br cr (row t k) rfl (cell_new _ _ _) (hri.ext (ext_box _ _ _)) m4 hne (by rw [HTL.out]; omega) (by have := hx.size; have := hx2.size; simp; omega) ?_)
      intro v' w4 hg3 hgr hv3
      have hx3 : Ext w w4 := (hx.trans (hx2.trans (ext_box _ _ _))).grown hgr (hgw.ext (ext_box _ _ _)).own.choose_spec (Nat.le_refl _)
      clear hgr hne hgw
      go_wp2
      go_roundw
      case rel => exact ⟨k + 1, by omega, by go_num, by rw [take_row _ _ hkl]; exact hg3, hv3, hx3⟩
      case measure => simp [intOf]; omega
end Go.Proofs.Ytbfhecckapgpnaa

/-
  Contracts: abelian, center, the opposite group.
-/
namespace Go.Proofs.Ytbfhecckapgpnaa
set_option linter.unusedVariables false
set_option linter.unusedSimpArgs false
open Go.RowKit

end Go.Proofs.Ytbfhecckapgpnaa

/-
  Contracts of OppositeGroup, IsAbelianGroup, CenterOf: reference and program.
-/
namespace Go.Proofs.Ytbfhecckapgpnaa
set_option linter.unusedVariables false
set_option linter.unusedSimpArgs false
open Go.RowKit

theorem OppositeGroup_impl (t : List (List Int)) (v : Value) (w : World) (hv : Rows w v t) :
    Calls Try.prog 33 #[.agg #[v]] w (NewGC (ifG t (turnT t) []) (codeG t) w) := by
  obtain ⟨hlen, b, o, c, rfl, hc⟩ := id hv
  have hx0 := ext_box2 w (.slice (some ⟨b, o, none⟩) t.length c) (.slice none 0 0) 32 32
  have b0 : ((w.alloc (.cells #[.slice (some ⟨b, o, none⟩) t.length c] 32)).alloc (.cells #[.slice none 0 0] 32)).cell? ⟨w.heap.size, 0, none⟩ = some (.slice (some ⟨b, o, none⟩) t.length c) := by simp [go_sem]
  have r0 : ((w.alloc (.cells #[.slice (some ⟨b, o, none⟩) t.length c] 32)).alloc (.cells #[.slice none 0 0] 32)).cell? ⟨w.heap.size + 1, 0, none⟩ = some (.slice none 0 0) := by simp [go_sem]
  have q0 : ((w.alloc (.cells #[.slice (some ⟨b, o, none⟩) t.length c] 32)).alloc (.cells #[.slice none 0 0] 32)).frozen? ⟨w.heap.size + 1, 0, none⟩ = false := by simp [go_sem]
  have z0 : w.heap.size + 2 = ((w.alloc (.cells #[.slice (some ⟨b, o, none⟩) t.length c] 32)).alloc (.cells #[.slice none 0 0] 32)).heap.size := by simp
  cases hg : groupB t with
  | false =>
    rw [ifG_no hg, codeG_no hg]
    go_enter Try.func33, Try.ntmps33
    go_wp2_with fail
    generalize (w.alloc (.cells #[.slice (some ⟨b, o, none⟩) t.length c] 32)).alloc (.cells #[.slice none 0 0] 32) = A at *
    refine (IsGroup_impl t _ _ (hv.ext hx0)).mono ?_
    rintro e w1 ⟨rfl, hx1⟩
    rw [hg]
    have f1 := hx1.cell r0
    have f2 := hx1.free q0 (by simp only []; omega)
    go_wp2
    refine bodyPost_ret (v := .tuple #[.agg #[.slice none 0 0], .int .i64 1]) (by simp [results, Try.results33, go_sem, f1]) rfl ⟨_, rfl, OwnV.nil _ _ _, (hx0.trans hx1).setNew (by simp only []; omega) _⟩
  | true =>
    have hG := groupB_iff.1 hg
    rw [ifG_yes hg, codeG_yes hg]
    go_enter Try.func33, Try.ntmps33
    go_wp2_with fail
    generalize (w.alloc (.cells #[.slice (some ⟨b, o, none⟩) t.length c] 32)).alloc (.cells #[.slice none 0 0] 32) = A at *
    refine (IsGroup_impl t _ _ (hv.ext hx0)).mono ?_
    rintro e w1 ⟨rfl, hx1⟩
    rw [hg]
    have f1 := hx1.cell r0
    have f2 := hx1.free q0 (by simp only []; omega)
    have b1 := hx1.cell b0
    have zz := hx1.size
    go_wp2_with fail
    refine (transposed_any t _ _ (hv.ext (hx0.trans hx1)) hG.1).mono ?_
    rintro e w2 ⟨rb, rc, rfl, ho, hx2⟩
    have f3 := hx2.cell f1
    have f4 := hx2.free f2 (by simp only []; omega)
    have zz2 := hx2.size
    go_wp2
    refine bodyPost_ret (v := .tuple #[.agg #[.slice (some ⟨rb, 0, none⟩) (turnT t).length rc], .int .i64 0]) (by simp [results, Try.results33, go_sem, f3]) rfl ⟨_, rfl, ?_, ((hx0.trans hx1).trans hx2).setNew (by simp only []; omega) _⟩
    have := ((ho.setOther (a := ⟨w.heap.size + 1, 0, none⟩) (.inl (by simp only []; omega)) (.slice (some ⟨rb, 0, none⟩) (turnT t).length rc)).mono (lo' := w.heap.size) (hi' := w2.heap.size) (by omega) (Nat.le_refl _)).v (small_turnT (by omega)) rc
    simpa using this

theorem IsAbelianGroup_impl (t : List (List Int)) (v : Value) (w : World) (hv : Rows w v t) :
    Calls Try.prog 20 #[.agg #[v]] w (RetBI (ifG t (abelB t) false) (codeG t) w) := by
  obtain ⟨hlen, b, o, c, rfl, hc⟩ := id hv
  have hx0 := ext_box w (.slice (some ⟨b, o, none⟩) t.length c) 32
  have b0 := cell_new w (.slice (some ⟨b, o, none⟩) t.length c) 32
  cases hg : groupB t with
  | false =>
    rw [ifG_no hg, codeG_no hg]
    go_enter Try.func20, Try.ntmps20
    go_wp2_with fail
    refine (IsGroup_impl t _ _ (hv.ext hx0)).mono ?_
    rintro e w1 ⟨rfl, hx1⟩
    rw [hg]
    go_wp2
    go_ret2
    exact ⟨rfl, hx0.trans hx1⟩
  | true =>
    have hG := groupB_iff.1 hg
    have hab := abelB_def t
    rw [ifG_yes hg, codeG_yes hg]
    go_enter Try.func20, Try.ntmps20
    go_wp2_with fail
    refine (IsGroup_impl t _ _ (hv.ext hx0)).mono ?_
    rintro e w1 ⟨rfl, hx1⟩
    rw [hg]
    have b1 := hx1.cell b0
    have hX := hx0.trans hx1
    go_wp2
    go_region_with (first
      | (go_at_call 60; refine (transposed_any t _ _ (hv.ext hX.drew) hG.1).mono ?_; rintro e w2 ⟨rb, rc, rfl, ho, hx2⟩; have d2 := hx2.cell (show w1.drew.cell? _ = some _ from b1))
      | (go_at_call 59; refine (equalTables_any t (turnT t) _ _ _ (hv.ext (hX.drew.trans hx2)) ((ho.rowsAt (small_turnT (by omega))).rows (by rw [length_turnT]; omega) rc)).mono ?_; rintro e w3 ⟨rfl, rfl⟩; rw [hab]))
    all_goals
      go_wp2
      go_ret2
      exact ⟨rfl, hX.drew.trans hx2⟩

set_option maxRecDepth 100000 in
theorem CenterOf_impl (t : List (List Int)) (v : Value) (w : World) (hv : Rows w v t) :
    Calls Try.prog 29 #[.agg #[v]] w (RetII (ifG t (centerI t) 0) (codeG t) w) := by
  obtain ⟨hlen, b, o, c, rfl, hc⟩ := id hv
  have hx0 := ext_box w (.slice (some ⟨b, o, none⟩) t.length c) 32
  have b0 := cell_new w (.slice (some ⟨b, o, none⟩) t.length c) 32
  cases hg : groupB t with
  | false =>
    rw [ifG_no hg, codeG_no hg]
    go_enter Try.func29, Try.ntmps29
    go_wp2_with fail
    refine (IsGroup_impl t _ _ (hv.ext hx0)).mono ?_
    rintro e w1 ⟨rfl, hx1⟩
    rw [hg]
    go_wp2
    go_ret2
    exact ⟨rfl, hx0.trans hx1⟩
  | true =>
    have hG := groupB_iff.1 hg
    have HT := Lib.hid hG.1
    have h12 := hG.1.2.1
    have hcr := fun x (hx : x < t.length) => comB_row hG.1 hx
    have HCR := Lib.hid hcr
    rw [ifG_yes hg, codeG_yes hg, centerI_def]
    clear hcr hG
    generalize hp : (fun x => comB t x t.length) = p
    have HP := Lib.hid (fun x => congrFun hp x)
    clear hp
    go_enter Try.func29, Try.ntmps29
    go_wp2_with fail
    refine (IsGroup_impl t _ _ (hv.ext hx0)).mono ?_
    rintro e w1 ⟨rfl, hx1⟩
    rw [hg]
    have b1 := hx1.cell b0
    have hX := hx0.trans hx1
    clear b0 hx0
    go_wp2_with fail
    refine (transposed_any t _ _ (hv.ext hX) HT.out).mono ?_
    rintro e w2 ⟨rb, rc, rfl, ho, hx2⟩
    have b2 := hx2.cell b1
    have hX2 := hX.trans hx2
    have hra := ho.rowsAt (small_turnT (by omega))
    rw [length_turnT]
    clear b1 hX ho hx1
    go_wp2
    go_loopw [5, 17] (fun s i wr => ∃ k : Nat, k ≤ t.length ∧ i = .int .i64 k ∧ s = .int .i64 (setOf p k) ∧ Ext w2 wr) (fun _ i _ => t.length - (intOf i).toNat)
    case atStart => exact ⟨0, Nat.zero_le _, rfl, by rw [setOf_zero], Ext.refl _⟩
    case round =>
      obtain ⟨k, hk, rfl, rfl, hx⟩ := hrel
      by_cases hlt : k < t.length
      · obtain ⟨b4, o4, c4, r4, i4, m4⟩ := ((hc.ext hX2).ext hx).get hlt
        obtain ⟨b5, o5, c5, r5, i5, m5⟩ := (hra.ext hx).get (i := k) (by rw [length_turnT]; exact hlt)
        rw [Nat.zero_add] at r5
        have e4 := i4.ints m4 c4
        have e5 := i5.ints m5 c5
        have hpk := HP.out k
        have hrow := HCR.out k hlt
        clear i4 i5
        cases hcb : comB t k t.length with
        | true =>
          have hy := setOf_yes (p := p) (k := k) (by rw [← hpk]; exact hcb)
          have HY := Lib.hid hy
          clear hy hpk
          go_wp2_with fail
          refine (slicesEqual_any _ _ _ _ _ e4 e5).mono ?_
          rintro e w5 ⟨rfl, hx5⟩
          rw [hrow, hcb]
          go_wp2
          go_roundw
          case rel => exact ⟨k + 1, by omega, by go_num, by rw [HY.out], hx.trans hx5⟩
          case measure => simp [intOf]; omega
        | false =>
          have hy := setOf_no (p := p) (k := k) (by rw [← hpk]; exact hcb)
          have HY := Lib.hid hy
          clear hy hpk
          go_wp2_with fail
          refine (slicesEqual_any _ _ _ _ _ e4 e5).mono ?_
          rintro e w5 ⟨rfl, hx5⟩
          rw [hrow, hcb]
          go_wp2
          go_roundw
          case rel => exact ⟨k + 1, by omega, by go_num, by rw [HY.out], hx.trans hx5⟩
          case measure => simp [intOf]; omega
      · go_wp2
        go_ret2
        have hkk : k = t.length := by omega
        exact ⟨ret_two (by rw [hkk]) rfl, hX2.trans hx⟩
end Go.Proofs.Ytbfhecckapgpnaa

/-
  Contracts of TrivialBrace: reference and program.
-/
namespace Go.Proofs.Ytbfhecckapgpnaa
set_option linter.unusedVariables false
set_option linter.unusedSimpArgs false
open Go.RowKit

end Go.Proofs.Ytbfhecckapgpnaa
