/-
  Contracts: equality (reference), the socle, trivial and classical braces, the annihilator.
-/
import Derived.Test.YtjfjpngajboidaaGreatKx19
namespace Go.Proofs.YtjfjpngajboidaaGreat
set_option linter.unusedVariables false
set_option linter.unusedSimpArgs false
open Go.RowKit
attribute [local go_sem ↓] Go.wp_at_zero Go.wp_at_succ

theorem l01Same_any (l m : List Int) (v u : Value) (w : World) (hv : IntsR w v l) (hu : IntsR w u m) (hs : l.length ≤ 1048576) :
    Calls Tryz.prog 77 #[v, u] w fun e w' => e = .returned (.bool (eqIB l m)) ∧ Drawn w w' := by
  obtain ⟨a1, c1, rfl, h1⟩ := hv
  obtain ⟨a2, c2, rfl, h2⟩ := hu
  have H1 := Lib.hid h1
  have H2 := Lib.hid h2
  clear h1 h2
  by_cases hl : l.length = m.length
  case neg =>
    have hb : ((l.length : Int) != (m.length : Int)) = true := by simp; omega
    go_enter Tryz.func77, Tryz.ntmps77
    go_wp2
    go_ret
    exact ⟨ret_bool (eqIB_no (fun e => hl (by rw [e]))).symm, Drawn.refl _⟩
  case pos =>
    rw [← hl]
    have Hl := Lib.hid hl
    clear hl
    go_enter Tryz.func77, Tryz.ntmps77
    go_wp2
    go_loopw [5] (fun i wr => ∃ k : Nat, k ≤ l.length ∧ i = .int .i64 k ∧ SameTo l m k ∧ Drawn w wr) (fun i _ => l.length - (intOf i).toNat)
    case atStart => exact ⟨0, Nat.zero_le _, rfl, fun i hi => by omega, Drawn.refl _⟩
    case round =>
      obtain ⟨k, hk, rfl, hto, hx⟩ := hrel
      by_cases hlt : k < l.length
      · obtain ⟨b1, o1, rfl, hc1⟩ := H1.out (ne_nil_of_lt hlt)
        obtain ⟨b2, o2, rfl, hc2⟩ := H2.out (ne_nil_of_lt (k := k) (by have := Hl.out; omega))
        have e1 := hc1.ext hx.ext k hlt
        have e2 := hc2.ext hx.ext k (by have := Hl.out; omega)
        cases he : (ix l k != ix m k) with
        | true =>
          go_wp2
          go_quiet (fail)
          go_wp2
          go_ret
          exact ⟨ret_bool (eqIB_no (fun e => by rw [e] at he; simp at he)).symm, hx.drewN _⟩
        | false =>
          go_wp2
          go_quiet (fail)
          go_wp2
          go_roundw
          case rel => exact ⟨k + 1, by omega, by go_num, fun i hi => by
            by_cases e : i = k
            · rw [e]; simpa using he
            · exact hto i (by omega), hx.drewN _⟩
          case measure => simp [intOf]; omega
      · go_wp2
        go_ret
        exact ⟨ret_bool (eqIB_yes (ix_ext Hl.out (fun i hi => hto i (by omega)))).symm, hx⟩

end Go.Proofs.YtjfjpngajboidaaGreat


namespace Go.Proofs.YtjfjpngajboidaaGreat
set_option linter.unusedVariables false
set_option linter.unusedSimpArgs false
open Go.RowKit
attribute [local go_sem ↓] Go.wp_at_zero Go.wp_at_succ
open Go.Deep

theorem take_ixL (l : List Int) (k : Nat) (h : k < l.length) : l.take (k + 1) = l.take k ++ [ix l k] := by
  rw [List.take_succ_eq_append_getElem h, ix_eq]; simp [List.getD, h]

set_option maxRecDepth 100000 in
set_option maxHeartbeats 1000000 in
theorem l01Then_any (n : Nat) (p q : List Int) (v u : Value) (w : World) (hv : Ints w v p) (hu : Ints w u q) (hp : IsoOk n [] [] p) (hq : q.length = n) (h12 : n ≤ 12) :
    Calls Tryz.prog 148 #[v, u] w (NewI (thenL p q) w) := by
  obtain ⟨-, b, o, c, rfl, hc⟩ := id hv
  obtain ⟨-, b2, o2, c2, rfl, hc2⟩ := id hu
  have HP := Lib.hid hp
  have HPL := Lib.hid hp.1
  have HQL := Lib.hid hq
  rw [hp.1, hq]
  clear hp hq hv hu
  have HLT := Lib.hid (show (thenL p q).length = n by rw [length_thenL, HPL.out])
  go_enter Tryz.func148, Tryz.ntmps148
  go_wp2_with fail
  have hx0 : Ext w (w.alloc (.cells #[] 2)) := (Ext.refl _).alloc _
  have hi0 := GrowI.lit (e := 2) (base := w.heap.size) (w := w) (Nat.le_refl _)
  go_loopw [5, 6] (fun v x wr => ∃ k : Nat, k ≤ n ∧ x = .int .i64 k ∧ GrowI 2 w.heap.size wr v ((thenL p q).take k) ∧ v ≠ .slice none 0 0 ∧ Ext w wr) (fun _ x _ => n - (intOf x).toNat)
  case atStart => exact ⟨0, Nat.zero_le _, rfl, hi0, by simp, hx0⟩
  case round =>
    clear hx0 hi0
    obtain ⟨k, hk, rfl, hg, hv, hx⟩ := hrel
    have HG := Lib.hid hg
    have HV := Lib.hid hv
    have HX := Lib.hid hx
    by_cases hlt : k < n
    · have hb := HP.out.bd hlt
      obtain ⟨z, hz⟩ : ∃ z : Nat, ix p k = (z : Int) := ⟨_, (Int.toNat_of_nonneg hb.1).symm⟩
      have hzn : z < n := by omega
      have e1 := (hc.ext hx) k (by rw [HPL.out]; exact hlt)
      rw [hz] at e1
      have e4 := (hc2.ext hx) z (by rw [HQL.out]; exact hzn)
      have HE := Lib.hid (show (thenL p q).take (k + 1) = (thenL p q).take k ++ [ix q z] by rw [take_ixL _ _ (by rw [HLT.out]; exact hlt), ix_thenL _ _ (by rw [HPL.out]; exact hlt), hz, Int.toNat_natCast])
      have HL := Lib.hid (show ((thenL p q).take k).length ≤ 1048576 by rw [List.length_take, HLT.out]; omega)
      have zx := hx.size
      clear hb hz hg hv hx
      go_wp2_with (at_builtin; refine wpList_append_int rfl _ _ 27 2 rfl Tryz.underlying27 infoInt w.heap.size _ _ rfl (HG.out.alloc _) _ _ rfl (cell_new _ _ _) HL.out (by simp; omega) ?_)
      intro v' w3 hi3 hgr hv3
      have HX3 := Lib.hid (Ext.grown (HX.out.trans (ext_box _ _ _)) hgr (HG.out.alloc _) (Nat.le_refl _))
      clear hgr
      go_wp2_with fail
      go_roundw
      case rel => exact ⟨k + 1, by omega, by go_num, by rw [HE.out]; exact hi3, hv3, HX3.out⟩
      case measure => simp [intOf]; omega
    · have hta : (thenL p q).take k = thenL p q := List.take_of_length_le (by rw [HLT.out]; omega)
      rw [hta] at hg
      obtain ⟨b3, c3, rfl, ho⟩ := hg.own hv
      clear hg hv hx HG
      go_wp2_with fail
      go_ret
      exact ⟨b3, c3, rfl, ho, HX.out⟩

end Go.Proofs.YtjfjpngajboidaaGreat


namespace Go.Proofs.YtjfjpngajboidaaGreat
set_option linter.unusedVariables false
set_option linter.unusedSimpArgs false
open Go.RowKit
attribute [local go_sem ↓] Go.wp_at_zero Go.wp_at_succ
open Go.Deep

theorem listIndex1_any (l p : List Int) (r u : Value) (B : Nat) (w : World) (hr : Ints w r l) (hu : Ints w u p) (hB : w.cell? ⟨B, 0, none⟩ = some u) :
    Calls Tryz.prog 72 #[r, .pointer (some ⟨B, 0, none⟩)] w fun e w' => e = .returned (.bool (eqIB l p)) ∧ Ext w w' := by
  obtain ⟨-, b2, o2, c2, rfl, -⟩ := id hu
  go_enter Tryz.func72, Tryz.ntmps72
  go_wp2_with fail
  refine (slicesEqual_any l p _ _ _ hr hu).mono ?_
  rintro e w1 ⟨rfl, hx⟩
  go_wp2_with fail
  go_ret
  exact ⟨rfl, hx⟩
theorem callListIndex1 (args : Array Value) (w : World) : (callFunc 72 args).run Tryz.prog w = .ok (.enter 72 args) w :=
  callFunc_enter Tryz.func72 (by kernel_rfl) rfl args w
set_option maxRecDepth 100000 in
theorem listIndex_any (S : List (List Int)) (p : List Int) (v u : Value) (w : World) (hv : Rows w v S) (hu : Ints w u p) :
    Calls Tryz.prog 32 #[v, u] w fun e w' => e = .returned (.int .i64 (findL S p)) ∧ Ext w w' := by
  obtain ⟨hlen, b, o, c, rfl, -⟩ := id hv
  obtain ⟨hlen2, b2, o2, c2, rfl, -⟩ := id hu
  have HX := Lib.hid (ext_box w (.slice (some ⟨b2, o2, none⟩) p.length c2) 27)
  have bB := cell_new w (.slice (some ⟨b2, o2, none⟩) p.length c2) 27
  have HV := Lib.hid hv
  have HU := Lib.hid hu
  clear hv hu
  go_enter Tryz.func32, Tryz.ntmps32
  go_wp2_with fail
  refine (IndexFunc_any S (fun r => eqIB r p) 72 #[.pointer (some ⟨w.heap.size, 0, none⟩)] _ _ (HV.out.ext HX.out) callListIndex1 (fun w3 r i h3 hi hr => by
    exact listIndex1_any (row S i) p r _ w.heap.size w3 hr (HU.out.ext (HX.out.trans h3)) (h3.cell bB))).mono ?_
  rintro e w2 ⟨rfl, hx2⟩
  go_wp2_with fail
  go_ret
  exact ⟨rfl, HX.out.trans hx2⟩
end Go.Proofs.YtjfjpngajboidaaGreat
