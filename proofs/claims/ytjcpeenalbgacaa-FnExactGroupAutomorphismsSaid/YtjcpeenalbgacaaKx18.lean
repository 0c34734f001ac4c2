/-
  Contract of the program: is it the table of a group.
-/
import Derived.Test.YtjcpeenalbgacaaProg
import Derived.Test.YtjcpeenalbgacaaKx0
import Derived.Test.YtjcpeenalbgacaaKx5
import Derived.Test.YtjcpeenalbgacaaKx7
import Derived.Test.YtjcpeenalbgacaaKx17
import Derived.Test.YtjcpeenalbgacaaKx1
import Derived.Test.YtjcpeenalbgacaaKx10
import Derived.Test.YtjcpeenalbgacaaKx3
import Derived.Test.YtjcpeenalbgacaaKx2
import Derived.Test.YtjcpeenalbgacaaKx9
import Derived.Test.YtjcpeenalbgacaaKx6
import Derived.Test.YtjcpeenalbgacaaKx8
import Derived.Test.YtjcpeenalbgacaaKx14
import Derived.Test.YtjcpeenalbgacaaKx16
namespace Go.Proofs.Ytjcpeenalbgacaa
set_option linter.unusedVariables false
set_option linter.unusedSimpArgs false
open Go.RowKit

set_option maxRecDepth 100000 in
theorem isGroupTable_any (t : List (List Int)) (v : Value) (w : World) (hv : Rows w v t) :
    Calls Try.prog 132 #[v] w fun e w' => e = .returned (.bool (groupB t)) ∧ Ext w w' := by
  by_cases hT : TableOk t
  case neg =>
    have hB := tableB_no hT
    go_enter Try.func132, Try.ntmps132
    go_wp2_with fail
    refine (IsTable_any t _ _ hv).mono ?_
    rintro e w1 ⟨rfl, hx1⟩
    go_wp2
    go_ret
    exact ⟨ret_bool (groupB_no (fun h => hT h.1)).symm, hx1⟩
  case pos =>
    have hB := tableB_yes hT
    cases hP : permRowsB t with
    | false =>
      go_enter Try.func132, Try.ntmps132
      go_wp2_with fail
      refine (IsTable_any t _ _ hv).mono ?_
      rintro e w1 ⟨rfl, hx1⟩
      go_wp2_with fail
      refine (permutationRows_any t _ _ (hv.ext hx1)).mono ?_
      rintro e w2 ⟨rfl, hx2⟩
      go_wp2
      go_ret
      exact ⟨ret_bool (groupB_no (fun h => absurd (permRowsB_iff.2 h.2.1) (by rw [hP]; simp))).symm, hx1.trans hx2⟩
    | true =>
    have hv' := hv
    obtain ⟨hlen, b, o, c, rfl, hc⟩ := hv
    have HT := Lib.hid hT
    have h1 := hT.1
    have h2 := hT.2.1
    clear hT
    have HP := Lib.hid (permRowsB_iff.1 hP)
    go_enter Try.func132, Try.ntmps132
    go_wp2_with fail
    refine (IsTable_any t _ _ hv').mono ?_
    rintro e w1 ⟨rfl, hx1⟩
    go_wp2_with fail
    refine (permutationRows_any t _ _ (hv'.ext hx1)).mono ?_
    rintro e w2 ⟨rfl, hx2⟩
    have hx := hx1.trans hx2
    clear hx1 hx2
    go_wp2
    clear hB hP
    go_loopw [16] (fun x wr => ∃ k : Nat, k ≤ t.length ∧ x = .int .i64 k ∧ UnitAssocTo t t.length k ∧ Ext w wr) (fun x _ => t.length - (intOf x).toNat)
    case atStart => exact ⟨0, Nat.zero_le _, rfl, UnitAssocTo.zero _ _, hx⟩
    case round =>
      clear hx
      obtain ⟨k, hk, rfl, hua, hx⟩ := hrel
      by_cases hlt : k < t.length
      case neg =>
        go_wp2
        go_ret
        exact ⟨ret_bool (groupB_yes ⟨HT.out, HP.out, hua.mono (by omega)⟩).symm, hx⟩
      case pos =>
        obtain ⟨b0, o0, c0, hr0, hc0, -⟩ := (hc.ext hx).head (by omega)
        obtain ⟨b1, o1, c1, hr, hc1, hl⟩ := (hc.ext hx).get hlt
        have hl0 := HT.out.len (x := 0) (by omega)
        have hl1 := HT.out.len hlt
        have e0 := hc0.ent hl0 hlt
        have e1 := hc1.ent0 hl1 (by omega)
        rw [hl0] at hr0
        rw [hl1] at hr
        clear hl0 hc0
        cases hu0 : (ent t 0 k != (k : Int)) with
        | true =>
          go_wp2
          go_ret
          exact ⟨ret_bool (groupB_no (fun h => absurd (h.2.2 k hlt).1.1 (by simpa using hu0))).symm, hx⟩
        | false =>
          cases hu1 : (ent t k 0 != (k : Int)) with
          | true =>
            go_wp2
            go_ret
            exact ⟨ret_bool (groupB_no (fun h => absurd (h.2.2 k hlt).1.2 (by simpa using hu1))).symm, hx⟩
          | false =>
            have hun : UnitAt t k := ⟨by simpa using hu0, by simpa using hu1⟩
            go_wp2
            clear hu0 hu1 e0 e1 hr0 hr hc1
            obtain ⟨w3, rfl⟩ : ∃ w1 : World, w1 = wr := ⟨_, rfl⟩
            go_loopw [39] (fun y wr => ∃ m : Nat, m ≤ t.length ∧ y = .int .i64 m ∧ AssocY t t.length k m ∧ Ext w wr) (fun y _ => t.length - (intOf y).toNat)
            case atStart => exact ⟨0, Nat.zero_le _, rfl, AssocY.zero _ _ _, hx⟩
            case round =>
              clear hx
              obtain ⟨m, hm, rfl, hay, hx⟩ := hrel
              by_cases hml : m < t.length
              case neg =>
                go_wp2
                go_roundw
                case rel => exact ⟨k + 1, by omega, by go_num, hua.succ hun (hay.mono (by omega)), hx⟩
                case measure => simp [intOf]; omega
              case pos =>
                go_wp2
                obtain ⟨w4, rfl⟩ : ∃ w1 : World, w1 = wr := ⟨_, rfl⟩
                go_loopw [44] (fun z wr => ∃ j : Nat, j ≤ t.length ∧ z = .int .i64 j ∧ AssocTo t k m j ∧ Ext w wr) (fun z _ => t.length - (intOf z).toNat)
                case atStart => exact ⟨0, Nat.zero_le _, rfl, AssocTo.zero _ _ _, hx⟩
                case round =>
                  clear hx
                  obtain ⟨j, hj, rfl, hato, hx⟩ := hrel
                  by_cases hjl : j < t.length
                  case neg =>
                    go_wp2
                    go_roundw
                    case rel => exact ⟨m + 1, by omega, by go_num, hay.succ (hato.mono (by omega)), hx⟩
                    case measure => simp [intOf]; omega
                  case pos =>
                    have bxy := HT.out.bd hlt hml
                    have byz := HT.out.bd hml hjl
                    have hcw := hc.ext hx
                    obtain ⟨b1, o1, c1, hr, hc1, -⟩ := hcw.get hlt
                    obtain ⟨b2, o2, c2, hrm, hc2, -⟩ := hcw.get hml
                    obtain ⟨b3, o3, c3, hrx, hc3, -⟩ := hcw.get (i := (ent t k m).toNat) (by omega)
                    have f1 := hc1.ent hl1 hml
                    have f2 := hc2.ent (HT.out.len hml) hjl
                    have f3 := hc1.ent (y := (ent t m j).toNat) hl1 (by omega)
                    have f4 := hc3.ent (HT.out.len (by omega)) hjl
                    clear hc1 hc2 hc3 hcw
                    rw [HT.out.len hml] at hrm
                    rw [HT.out.len hlt] at hr
                    rw [HT.out.len (x := (ent t k m).toNat) (by omega)] at hrx
                    cases ha : (ent t (ent t k m).toNat j != ent t k (ent t m j).toNat) with
                    | true =>
                      go_wp2
                      go_quiet (fail)
                      go_wp2
                      go_ret
                      exact ⟨ret_bool (groupB_no (fun h => absurd ((h.2.2 k hlt).2 m hml j hjl) (by simpa using ha))).symm, hx.drewN _⟩
                    | false =>
                      go_wp2
                      go_quiet (fail)
                      go_wp2
                      go_roundw
                      case rel => exact ⟨j + 1, by omega, by go_num, hato.succ (by simpa using ha), hx.drewN _⟩
                      case measure => simp [intOf]; omega

end Go.Proofs.Ytjcpeenalbgacaa

/-
  Contracts of IsGroup, reference and program.
-/
namespace Go.Proofs.Ytjcpeenalbgacaa
set_option linter.unusedVariables false
set_option linter.unusedSimpArgs false
open Go.RowKit

theorem IsGroup_impl (t : List (List Int)) (v : Value) (w : World) (hv : Rows w v t) :
    Calls Try.prog 95 #[.agg #[v]] w fun e w' => e = .returned (.bool (groupB t)) ∧ Ext w w' := by
  obtain ⟨hlen, b, o, c, rfl, hc⟩ := id hv
  clear hc
  have hx0 := ext_box w (.slice (some ⟨b, o, none⟩) t.length c) 53
  go_enter Try.func95, Try.ntmps95
  go_wp2_with fail
  refine (isGroupTable_any t _ _ (hv.ext hx0)).mono ?_
  rintro e w1 ⟨rfl, hx1⟩
  go_wp2
  go_ret
  exact ⟨rfl, hx0.trans hx1⟩

end Go.Proofs.Ytjcpeenalbgacaa

/-
  Contracts of OrderIn: reference and program.
-/
namespace Go.Proofs.Ytjcpeenalbgacaa
set_option linter.unusedVariables false
set_option linter.unusedSimpArgs false
open Go.RowKit

theorem allInB_one (a lo hi : Int) : allInB [a] lo hi = inR a lo hi := by
  rw [Bool.eq_iff_iff, allInB_iff, inR_iff]
  have h0 : ix [a] 0 = a := by rw [ix_eq]; rfl
  constructor
  · intro h; have := h 0 (by simp); rwa [h0] at this
  · intro h i hi
    have : i = 0 := by simp at hi; omega
    subst this; rw [h0]; exact h

end Go.Proofs.Ytjcpeenalbgacaa

/-
  Contracts: the index of a number, inverses.
-/
namespace Go.Proofs.Ytjcpeenalbgacaa
set_option linter.unusedVariables false
set_option linter.unusedSimpArgs false
open Go.RowKit

theorem slicesIndex_any (l : List Int) (v : Value) (n : Int) (w : World) (hv : Ints w v l) :
    Calls Try.prog 144 #[v, .int .i64 n] w fun e w' => e = .returned (.int .i64 (indexOf l n)) ∧ w = w' := by
  obtain ⟨hlen, b, o, c, rfl, hc⟩ := hv
  go_enter Try.func144, Try.ntmps144
  go_wp2
  go_loop [8] (fun i => ∃ k : Nat, k ≤ l.length ∧ i = .int .i64 k ∧ indexOf l n = indexFrom n (l.drop k) k) (fun i => l.length - (intOf i).toNat)
  case atStart => exact ⟨0, Nat.zero_le _, rfl, by unfold indexOf; rfl⟩
  case round =>
    obtain ⟨k, hk, rfl, hr⟩ := hrel
    have Hr := Lib.hid hr
    clear hr
    by_cases hlt : k < l.length
    · have hcell := hc k hlt
      by_cases he : (n == ix l k) = true
      · go_wp2
        go_ret
        exact ⟨ret_int (by rw [Hr.out, indexFrom_hit l n k hlt (eq_of_beq he).symm]), rfl⟩
      · have he' : (n == ix l k) = false := by simpa using he
        have hne : ¬ ix l k = n := fun h => he (by rw [h]; exact beq_self_eq_true n)
        have HN := Lib.hid hne
        clear he hne
        go_wp2
        go_round
        case rel => exact ⟨k + 1, by omega, by go_num, by rw [Hr.out, indexFrom_miss l n k hlt HN.out]⟩
        case measure => simp [intOf]; omega
    · go_wp2
      go_ret
      exact ⟨ret_int (by rw [Hr.out, indexFrom_end l n k (by omega)]), rfl⟩

theorem indexIn_any (l : List Int) (v : Value) (n : Int) (w : World) (hv : Ints w v l) :
    Calls Try.prog 140 #[v, .int .i64 n] w fun e w' => e = .returned (.int .i64 (indexOf l n)) ∧ w = w' := by
  go_enter Try.func140, Try.ntmps140
  go_wp2_with (go_at_call 144; refine (slicesIndex_any l _ _ _ hv).mono ?_; rintro e w' ⟨rfl, rfl⟩)
  go_ret
  exact ⟨rfl, rfl⟩

theorem l10Back_any (t : List (List Int)) (v : Value) (x : Nat) (w : World) (hv : Rows w v t) (hx : x < t.length) :
    Calls Try.prog 135 #[v, .int .i64 x] w fun e w' => e = .returned (.int .i64 (backF t x)) ∧ w = w' := by
  obtain ⟨hlen, b, o, c, rfl, hc⟩ := id hv
  obtain ⟨b1, o1, c1, hr, hc1, hl1⟩ := hc.get hx
  go_enter Try.func135, Try.ntmps135
  go_wp2_with (go_at_call 116; refine (l01Index_any (row t x) _ _ _ (hc1.ints hl1 c1)).mono ?_; rintro e w' ⟨rfl, rfl⟩; rw [backF_def])
  go_ret
  exact ⟨rfl, rfl⟩

theorem groupInverses_any (t : List (List Int)) (v : Value) (w : World) (hv : Rows w v t) :
    Calls Try.prog 117 #[v] w fun e w' => ∃ b c, e = .returned (.slice (some ⟨b, 0, none⟩) t.length c) ∧ IntsAt w' b 0 (backs t) ∧ Ext w w' := by
  obtain ⟨hlen, b, o, c, rfl, hc⟩ := id hv
  have hmk := run_make_row' (P := Try.prog) 26 2 (.int .i64 0) 8 Try.underlying26 infoInt rfl .i64 .i64 t.length (by omega) (by omega)
  go_enter Try.func117, Try.ntmps117
  go_wp2_with fail
  clear hmk
  have hx0 : Ext w (w.alloc (.cells (madeCells #[Value.int .i64 0] t.length) 2)) := (Ext.refl _).alloc _
  have hr0 := World.rowIs_made w (.int .i64 0) t.length 2
  go_loopw [11] (fun i wr => ∃ k : Nat, k ≤ t.length ∧ i = .int .i64 k ∧ wr.rowIs w.heap.size 2 t.length (fun i => .int .i64 (copyTo (backs t) k i)) ∧ Ext w wr) (fun i _ => t.length - (intOf i).toNat)
  case atStart => exact ⟨0, Nat.zero_le _, rfl, hr0.congr (fun i hi => by rw [copyTo_zero]), hx0⟩
  case round =>
    clear hx0 hr0
    obtain ⟨k, hk, rfl, hrow, hx⟩ := hrel
    by_cases hlt : k < t.length
    · obtain ⟨b1, o1, c1, hr, hc1, hl1⟩ := (hc.ext hx).get hlt
      have e2 := hrow.cell hlt
      have e3 := hrow.frozen k
      go_wp2_with (go_at_call 140; refine (indexIn_any (row t k) _ _ _ (hc1.ints hl1 c1)).mono ?_; rintro e w' ⟨rfl, rfl⟩; rw [backF_def])
      go_roundw
      case rel => exact ⟨k + 1, by omega, by go_num, (hrow.set k (.int .i64 (backF t k))).congr (fun i hi => by rw [copyTo_succ, ix_backs _ _ hlt]; split <;> rfl), hx.setNew (Nat.le_refl _) _⟩
      case measure => simp [intOf]; omega
    · go_wp2
      go_ret
      have hkk : k = t.length := by omega
      exact ⟨w.heap.size, t.length, rfl, fun i hi => by
        rw [length_backs] at hi
        rw [Nat.zero_add, hrow.cell hi, copyTo_all _ _ _ (by omega)], hx⟩

end Go.Proofs.Ytjcpeenalbgacaa

/-
  Contracts: the table the other way round.
-/
namespace Go.Proofs.Ytjcpeenalbgacaa
set_option linter.unusedVariables false
set_option linter.unusedSimpArgs false
open Go.RowKit

theorem transposed1_any (t : List (List Int)) (v : Value) (x y B : Nat) (w : World) (hB : w.cell? ⟨B, 0, none⟩ = some v) (hv : Rows w v t) (hT : TableOk t) (hx : x < t.length) (hy : y < t.length) :
    Calls Try.prog 111 #[.int .i64 x, .int .i64 y, .pointer (some ⟨B, 0, none⟩)] w fun e w' => e = .returned (.int .i64 (turnF t x y)) ∧ Ext w w' := by
  obtain ⟨hlen, b, o, c, rfl, hc⟩ := id hv
  obtain ⟨b1, o1, c1, hr, hc1, hl1⟩ := hc.get hy
  have f1 := hc1.ent (hT.len hy) hx
  rw [hT.len hy] at hr
  rw [turnF_def]
  go_enter Try.func111, Try.ntmps111
  go_wp2
  go_ret
  exact ⟨rfl, Ext.refl _⟩

theorem callTransposed1 (args : Array Value) (w : World) : (callFunc 111 args).run Try.prog w = .ok (.enter 111 args) w :=
  callFunc_enter Try.func111 (by kernel_rfl) rfl args w

theorem transposed_any (t : List (List Int)) (v : Value) (w : World) (hv : Rows w v t) (hT : TableOk t) :
    Calls Try.prog 69 #[v] w (NewT (turnT t) w) := by
  obtain ⟨hlen, b, o, c, rfl, hc⟩ := id hv
  have hx0 := ext_box w (.slice (some ⟨b, o, none⟩) t.length c) 22
  have b0 := cell_new w (.slice (some ⟨b, o, none⟩) t.length c) 22
  go_enter Try.func69, Try.ntmps69
  go_wp2_with fail
  refine (tableBy_any t.length (turnF t) 111 #[.pointer (some ⟨w.heap.size, 0, none⟩)] _ (by omega) callTransposed1 (fun w1 x y h1 hx hy => by
    rw [app21]
    exact transposed1_any t _ x y w.heap.size w1 (h1.cell b0) (hv.ext (hx0.trans h1)) hT hx hy)).mono ?_
  rintro e w1 ⟨b1, c1, rfl, ho, hx1⟩
  rw [← turnT_def] at ho ⊢
  go_wp2
  go_ret
  exact ⟨b1, c1, rfl, ho.mono (by simp) (Nat.le_refl _), hx0.trans hx1⟩

theorem l01Column_any (t : List (List Int)) (v : Value) (x : Nat) (w : World) (hv : Rows w v t) (hT : TableOk t) (hx : x < t.length) :
    Calls Try.prog 108 #[v, .int .i64 x] w fun e w' => ∃ b c, e = .returned (.slice (some ⟨b, 0, none⟩) t.length c) ∧ IntsAt w' b 0 (row (turnT t) x) ∧ w.heap.size ≤ b ∧ b < w'.heap.size ∧ Ext w w' := by
  obtain ⟨hlen, b, o, c, rfl, hc⟩ := id hv
  have hrl := length_row_turnT t x hx
  have HRL := Lib.hid hrl
  clear hrl
  go_enter Try.func108, Try.ntmps108
  go_wp2
  have hx0 : Ext w (w.alloc (.cells #[] 2)) := (Ext.refl _).alloc _
  have hg0 := GrowI.lit (e := 2) (base := w.heap.size) (w := w) (Nat.le_refl _)
  go_loopw [5, 6] (fun v y wr => ∃ j : Nat, j ≤ t.length ∧ y = .int .i64 j ∧ GrowI 2 w.heap.size wr v ((row (turnT t) x).take j) ∧ v ≠ .slice none 0 0 ∧ Ext w wr) (fun _ y _ => t.length - (intOf y).toNat)
  case atStart => exact ⟨0, Nat.zero_le _, rfl, hg0, by simp, hx0⟩
  case round =>
    clear hx0 hg0
    obtain ⟨j, hj, rfl, hi, hvr, hx2⟩ := hrel
    have HVR := Lib.hid hvr
    clear hvr
    by_cases hjl : j < t.length
    case neg =>
      have hta : (row (turnT t) x).take j = row (turnT t) x := List.take_of_length_le (by rw [HRL.out]; omega)
      rw [hta] at hi
      obtain ⟨br, cr, rfl, hri, hrb, hrb2⟩ := hi.row HVR.out
      rw [HRL.out]
      go_wp2
      go_ret
      exact ⟨br, cr, rfl, hri, hrb, hrb2, hx2⟩
    case pos =>
      obtain ⟨b1, o1, c1, hr, hc1, hl1⟩ := (hc.ext hx2).get hjl
      have f1 := hc1.ent (hT.len hjl) hx
      rw [hT.len hjl] at hr
      clear hc1
      have hlj : ((row (turnT t) x).take j).length = j := by rw [List.length_take, HRL.out]; omega
      have HLJ := Lib.hid hlj
      clear hlj
      go_wp2_with (at_builtin; refine wpList_append_int rfl _ _ 26 2 rfl Try.underlying26 infoInt w.heap.size _ _ rfl (hi.alloc _) _ _ rfl (cell_new _ _ _) (by rw [HLJ.out]; omega) (by have := hx2.size; simp; omega) ?_)
      intro v' w3 hi3 hgr hv3
      have hx3 : Ext w w3 := (hx2.trans (ext_box _ _ _)).grown hgr (hi.alloc _) (Nat.le_refl _)
      clear hgr
      go_wp2
      go_roundw
      case rel => exact ⟨j + 1, by omega, by go_num, by
        rw [take_ix _ _ (by rw [HRL.out]; exact hjl), ent_def, ent_turnT t x j hx hjl]; exact hi3, hv3, hx3⟩
      case measure => simp [intOf]; omega

theorem l01Turn_any (t : List (List Int)) (v : Value) (w : World) (hv : Rows w v t) (hT : TableOk t) :
    Calls Try.prog 67 #[v] w fun e w' => ∃ v, e = .returned v ∧ Rows w' v (turnT t) ∧ Ext w w' := by
  obtain ⟨hlen, b, o, c, rfl, hc⟩ := id hv
  have HLT := Lib.hid (length_turnT t)
  go_enter Try.func67, Try.ntmps67
  go_wp2
  have hx0 : Ext w (w.alloc (.cells #[] 26)) := (Ext.refl _).alloc _
  have hg0 := GrowT.lit (e := 26) (base := w.heap.size) (w := w) (Nat.le_refl _)
  go_loopw [3, 4] (fun v x wr => ∃ k : Nat, k ≤ t.length ∧ x = .int .i64 k ∧ GrowT 26 w.heap.size wr v ((turnT t).take k) ∧ v ≠ .slice none 0 0 ∧ Ext w wr) (fun _ x _ => t.length - (intOf x).toNat)
  case atStart => exact ⟨0, Nat.zero_le _, rfl, hg0, by simp, hx0⟩
  case round =>
    clear hx0 hg0
    obtain ⟨k, hk, rfl, hg, hv', hx⟩ := hrel
    have HV := Lib.hid hv'
    clear hv'
    by_cases hkl : k < t.length
    case neg =>
      go_wp2
      go_ret
      refine ⟨u3, rfl, ?_, hx⟩
      have : (turnT t).take k = turnT t := List.take_of_length_le (by rw [HLT.out]; omega)
      rw [this] at hg
      exact hg.rows (by rw [HLT.out]; omega) HV.out
    case pos =>
      have HO := Lib.hid hg.lt
      have HRL := Lib.hid (length_row_turnT t k hkl)
      obtain ⟨w2, rfl⟩ : ∃ w2 : World, w2 = wr := ⟨_, rfl⟩
      go_wp2_with fail
      refine (l01Column_any t _ k _ (hv.ext hx) hT hkl).mono ?_
      rintro e w3 ⟨br, cr, rfl, hri, hrb, hrb2, hx2⟩
      have hgw := hg.ext hx2
      have hne : some br ≠ u3.ownBlock := fun e => by have := HO.out br e.symm; omega
      have htl : ((turnT t).take k).length = k := by rw [List.length_take, HLT.out]; omega
      have HTL := Lib.hid htl
      clear htl hg
      go_wp2_with (at_builtin; refine wpList_append_row rfl _ _ 22 26 rfl Try.underlying22 infoSl w.heap.size _ _ rfl (hgw.ext (ext_box _ _ _)) _ br cr (row (turnT t) k) rfl (by rw [HRL.out]; exact cell_new _ _ _) (hri.ext (ext_box _ _ _)) (by rw [HRL.out]; omega) hne (by rw [HTL.out]; omega) (by have := hx.size; have := hx2.size; simp; omega) ?_)
      intro v' w4 hg3 hgr hv3
      have hx3 : Ext w w4 := (hx.trans (hx2.trans (ext_box _ _ _))).grown hgr (hgw.ext (ext_box _ _ _)).own.choose_spec (Nat.le_refl _)
      clear hgr hne hgw
      go_wp2
      go_roundw
      case rel => exact ⟨k + 1, by omega, by go_num, by rw [take_row _ _ (by rw [HLT.out]; exact hkl)]; exact hg3, hv3, hx3⟩
      case measure => simp [intOf]; omega
end Go.Proofs.Ytjcpeenalbgacaa

/-
  Contracts: comparing lists and tables.
-/
namespace Go.Proofs.Ytjcpeenalbgacaa
set_option linter.unusedVariables false
set_option linter.unusedSimpArgs false
open Go.RowKit

end Go.Proofs.Ytjcpeenalbgacaa

/-
  Contracts: faults of braces.
-/
namespace Go.Proofs.Ytjcpeenalbgacaa
set_option linter.unusedVariables false
set_option linter.unusedSimpArgs false
open Go.RowKit

/-- three numbers just made -/
theorem ints3 (w : World) (x y z : Int) (T : Nat) : IntsAt (w.alloc (.cells #[.int .i64 x, .int .i64 y, .int .i64 z] T)) w.heap.size 0 [x, y, z] := fun i hi => by
  rw [ix_eq]
  match i, hi with
  | 0, _ => simp [go_sem]
  | 1, _ => simp [go_sem]
  | 2, _ => simp [go_sem]
theorem own3 (w : World) (x y z : Int) (T : Nat) : OwnI w.heap.size (w.heap.size + 1) (w.alloc (.cells #[.int .i64 x, .int .i64 y, .int .i64 z] T)) w.heap.size 0 [x, y, z] :=
  ⟨Nat.le_refl _, by omega, ints3 w x y z T, fun i _ => by simp [go_sem]⟩

set_option maxRecDepth 100000 in
set_option maxHeartbeats 1000000 in
theorem l11Fault_any (t u : List (List Int)) (v y : Value) (w : World) (hv : Rows w v t) (hy : Rows w y u) (hG : GroupOk t) (hU : GroupOk u) (hl : t.length = u.length) :
    Calls Try.prog 102 #[.agg #[v, y]] w fun e w' => ∃ v, e = .returned v ∧ (∃ a c, v = .slice a (faultL t u).length c) ∧ IntsR w' v (faultL t u) ∧ Ext w w' := by
  obtain ⟨hlen, b, o, c, rfl, hc⟩ := id hv
  obtain ⟨hlen2, b2, o2, c2, rfl, hc2⟩ := id hy
  have h12 := hG.1.2.1
  have HT := Lib.hid hG
  have HU := Lib.hid hU
  have HB := Lib.hid (fun x (hx : x < t.length) => backF_ok hG hx)
  clear hG hU
  rw [← hl]
  have HL := Lib.hid hl
  clear hl
  have hx0 := ext_boxB w (.slice (some ⟨b, o, none⟩) t.length c) (.slice (some ⟨b2, o2, none⟩) t.length c2) 29
  have k0 := cell_new2a w (.slice (some ⟨b, o, none⟩) t.length c) (.slice (some ⟨b2, o2, none⟩) t.length c2) 29
  have k1 := cell_new2b w (.slice (some ⟨b, o, none⟩) t.length c) (.slice (some ⟨b2, o2, none⟩) t.length c2) 29
  go_enter Try.func102, Try.ntmps102
  go_wp2
  generalize (w.alloc (.cells #[.slice (some ⟨b, o, none⟩) t.length c, .slice (some ⟨b2, o2, none⟩) t.length c2] 29)) = A at *
  go_loopw [4] (fun i wr => ∃ x : Nat, x ≤ t.length ∧ i = .int .i64 x ∧ NoX t u x ∧ Ext A wr) (fun i _ => t.length - (intOf i).toNat)
  case atStart => exact ⟨0, Nat.zero_le _, rfl, NoX.zero t u, Ext.refl _⟩
  case round =>
    obtain ⟨x, hx, rfl, hno, hxA⟩ := hrel
    have HX := Lib.hid hno
    clear hno
    have j0 := hxA.cell k0
    have j1 := hxA.cell k1
    by_cases hxl : x < t.length
    case neg =>
      go_wp2
      go_ret
      have hxx : x = t.length := by omega
      subst hxx
      rw [faultL_none HX.out]
      exact ⟨_, rfl, ⟨none, 0, rfl⟩, IntsR.nil _ _, hx0.trans hxA⟩
    case pos =>
      obtain ⟨w2, rfl⟩ : ∃ w2 : World, w2 = wr := ⟨_, rfl⟩
      have hb := HB.out x hxl
      go_wp2_with (go_at_call 135; refine (l10Back_any t _ x _ (hv.ext (hx0.trans hxA)) hxl).mono ?_; rintro e w' ⟨rfl, rfl⟩)
      go_loopw [6] (fun i wr => ∃ y : Nat, y ≤ t.length ∧ i = .int .i64 y ∧ NoY t u x y ∧ Ext w2 wr) (fun i _ => t.length - (intOf i).toNat)
      case atStart => exact ⟨0, Nat.zero_le _, rfl, NoY.zero t u x, Ext.refl _⟩
      case round =>
        obtain ⟨y, hyy, rfl, hno, hxB⟩ := hrel
        have HY := Lib.hid hno
        clear hno
        by_cases hyl : y < t.length
        case neg =>
          go_wp2
          go_roundw
          case rel =>
            have hyy : y = t.length := by omega
            subst hyy
            exact ⟨x + 1, by omega, by go_num, HX.out.succ HY.out, hxA.trans hxB⟩
          case measure => simp [intOf]; omega
        case pos =>
          obtain ⟨w3, rfl⟩ : ∃ w3 : World, w3 = wr := ⟨_, rfl⟩
          go_wp2
          go_loopw [7] (fun i wr => ∃ z : Nat, z ≤ t.length ∧ i = .int .i64 z ∧ NoZ t u x y z ∧ Ext w3 wr) (fun i _ => t.length - (intOf i).toNat)
          case atStart => exact ⟨0, Nat.zero_le _, rfl, NoZ.zero t u x y, Ext.refl _⟩
          case round =>
            obtain ⟨z, hzz, rfl, hno, hxC⟩ := hrel
            have HZ := Lib.hid hno
            clear hno
            by_cases hzl : z < t.length
            case neg =>
              go_wp2
              go_roundw
              case rel =>
                have hzz : z = t.length := by omega
                subst hzz
                exact ⟨y + 1, by omega, by go_num, HY.out.succ HZ.out, hxB.trans hxC⟩
              case measure => simp [intOf]; omega
            case pos =>
              have hXC := (hx0.trans hxA).trans (hxB.trans hxC)
              have i0 := (hxB.trans hxC).cell j0
              have i1 := (hxB.trans hxC).cell j1
              have p := HT.out.1.bd hyl hzl
              have q := HU.out.1.bd (x := x) (y := y) (by have := HL.out; omega) (by have := HL.out; omega)
              rw [← HL.out] at q
              obtain ⟨d1, s1, m1, r1, l1, -⟩ := (hc2.ext hXC).get (i := x) (by have := HL.out; omega)
              obtain ⟨d2, s2, m2, r2, l2, -⟩ := (hc.ext hXC).get (i := y) (by omega)
              obtain ⟨d3, s3, m3, r3, l3, -⟩ := (hc.ext hXC).get (i := (ent u x y).toNat) (by omega)
              have g := HT.out.1.bd (x := (ent u x y).toNat) (y := (backF t x).toNat) (by omega) (by omega)
              obtain ⟨d4, s4, m4, r4, l4, -⟩ := (hc.ext hXC).get (i := (ent t (ent u x y).toNat (backF t x).toNat).toNat) (by omega)
              have qz := HU.out.1.bd (x := x) (y := z) (by have := HL.out; omega) (by have := HL.out; omega)
              rw [← HL.out] at qz
              have lx := HU.out.1.len (x := x) (by have := HL.out; omega)
              rw [← HL.out] at lx
              have f1 := l1.ent lx (y := y) (by omega)
              have f2 := l1.ent lx (y := z) (by omega)
              have f3 := l2.ent (HT.out.1.len (x := y) (by omega)) (y := z) (by omega)
              have f4 := l1.ent lx (y := (ent t y z).toNat) (by omega)
              have f5 := l3.ent (HT.out.1.len (x := (ent u x y).toNat) (by omega)) (y := (backF t x).toNat) (by omega)
              have f6 := l4.ent (HT.out.1.len (x := (ent t (ent u x y).toNat (backF t x).toNat).toNat) (by omega)) (y := (ent u x z).toNat) (by omega)
              rw [lx] at r1
              rw [HT.out.1.len (x := y) (by omega)] at r2
              rw [HT.out.1.len (x := (ent u x y).toNat) (by omega)] at r3
              rw [HT.out.1.len (x := (ent t (ent u x y).toNat (backF t x).toNat).toNat) (by omega)] at r4
              rw [leftF_def] at f4
              rw [rightF_def] at f6
              clear l1 l2 l3 l4 lx
              cases hne : (leftF t u x y z != rightF t u x y z) with
              | true =>
                go_wp2
                go_quiet (fail)
                go_wp2
                go_quiet (fail)
                go_wp2
                go_ret
                rw [faultL_at hxl hyl hzl (by simpa using hne) HX.out HY.out HZ.out]
                exact ⟨_, rfl, ⟨_, _, rfl⟩, ⟨_, _, rfl, fun _ => ⟨_, _, rfl, ints3 _ _ _ _ _⟩⟩, (hXC.drewN _).alloc _⟩
              | false =>
                go_wp2
                go_quiet (fail)
                go_wp2
                go_quiet (fail)
                go_wp2
                go_roundw
                case rel => exact ⟨z + 1, by omega, by go_num, HZ.out.succ (by simpa using hne), hxC.drewN _⟩
                case measure => simp [intOf]; omega

/-- what braceFault returns: nil or three numbers, in new memory -/
def FaultV (t u : List (List Int)) (w : World) (e : Ending) (w' : World) : Prop :=
  ∃ v, e = .returned v ∧ OwnIV w.heap.size w'.heap.size w' v (faultL t u) ∧ ((faultL t u = [] ∧ v = .slice none 0 0) ∨ ((faultL t u).length = 3 ∧ ∃ b c, v = .slice (some ⟨b, 0, none⟩) 3 c)) ∧ Ext w w'

set_option maxRecDepth 100000 in
set_option maxHeartbeats 1000000 in
theorem braceFault_any (t u : List (List Int)) (v y : Value) (w : World) (hv : Rows w v t) (hy : Rows w y u) (hG : GroupOk t) (hU : GroupOk u) (hl : t.length = u.length) :
    Calls Try.prog 105 #[.agg #[v, y]] w (FaultV t u w) := by
  obtain ⟨hlen, b, o, c, rfl, hc⟩ := id hv
  obtain ⟨hlen2, b2, o2, c2, rfl, hc2⟩ := id hy
  have h12 := hG.1.2.1
  have HT := Lib.hid hG
  have HU := Lib.hid hU
  have HB := Lib.hid (fun x (hx : x < t.length) => backF_ok hG hx)
  clear hG hU
  rw [← hl]
  have HL := Lib.hid hl
  clear hl
  have hx0 := ext_boxB w (.slice (some ⟨b, o, none⟩) t.length c) (.slice (some ⟨b2, o2, none⟩) t.length c2) 29
  have k0 := cell_new2a w (.slice (some ⟨b, o, none⟩) t.length c) (.slice (some ⟨b2, o2, none⟩) t.length c2) 29
  have k1 := cell_new2b w (.slice (some ⟨b, o, none⟩) t.length c) (.slice (some ⟨b2, o2, none⟩) t.length c2) 29
  go_enter Try.func105, Try.ntmps105
  go_wp2_with fail
  generalize (w.alloc (.cells #[.slice (some ⟨b, o, none⟩) t.length c, .slice (some ⟨b2, o2, none⟩) t.length c2] 29)) = A0 at *
  refine (groupInverses_any t _ _ (hv.ext hx0)).mono ?_
  rintro e A ⟨bb, cb, rfl, hib, hxb⟩
  replace k0 := hxb.cell k0
  replace k1 := hxb.cell k1
  replace hx0 := hx0.trans hxb
  clear hxb
  go_wp2
  go_loopw [15] (fun i wr => ∃ x : Nat, x ≤ t.length ∧ i = .int .i64 x ∧ NoX t u x ∧ Ext A wr) (fun i _ => t.length - (intOf i).toNat)
  case atStart => exact ⟨0, Nat.zero_le _, rfl, NoX.zero t u, Ext.refl _⟩
  case round =>
    obtain ⟨x, hx, rfl, hno, hxA⟩ := hrel
    have HX := Lib.hid hno
    clear hno
    have j0 := hxA.cell k0
    have j1 := hxA.cell k1
    by_cases hxl : x < t.length
    case neg =>
      go_wp2
      go_ret
      have hxx : x = t.length := by omega
      subst hxx
      have hf := faultL_none HX.out
      refine ⟨_, rfl, ?_, .inl ⟨hf, rfl⟩, hx0.trans hxA⟩
      rw [hf]; exact OwnIV.nil _ _ _
    case pos =>
      obtain ⟨w2, rfl⟩ : ∃ w2 : World, w2 = wr := ⟨_, rfl⟩
      have hb := HB.out x hxl
      go_wp2
      go_loopw [19] (fun i wr => ∃ y : Nat, y ≤ t.length ∧ i = .int .i64 y ∧ NoY t u x y ∧ Ext w2 wr) (fun i _ => t.length - (intOf i).toNat)
      case atStart => exact ⟨0, Nat.zero_le _, rfl, NoY.zero t u x, Ext.refl _⟩
      case round =>
        obtain ⟨y, hyy, rfl, hno, hxB⟩ := hrel
        have HY := Lib.hid hno
        clear hno
        by_cases hyl : y < t.length
        case neg =>
          go_wp2
          go_roundw
          case rel =>
            have hyy : y = t.length := by omega
            subst hyy
            exact ⟨x + 1, by omega, by go_num, HX.out.succ HY.out, hxA.trans hxB⟩
          case measure => simp [intOf]; omega
        case pos =>
          obtain ⟨w3, rfl⟩ : ∃ w3 : World, w3 = wr := ⟨_, rfl⟩
          go_wp2
          go_loopw [23] (fun i wr => ∃ z : Nat, z ≤ t.length ∧ i = .int .i64 z ∧ NoZ t u x y z ∧ Ext w3 wr) (fun i _ => t.length - (intOf i).toNat)
          case atStart => exact ⟨0, Nat.zero_le _, rfl, NoZ.zero t u x y, Ext.refl _⟩
          case round =>
            obtain ⟨z, hzz, rfl, hno, hxC⟩ := hrel
            have HZ := Lib.hid hno
            clear hno
            by_cases hzl : z < t.length
            case neg =>
              go_wp2
              go_roundw
              case rel =>
                have hzz : z = t.length := by omega
                subst hzz
                exact ⟨y + 1, by omega, by go_num, HY.out.succ HZ.out, hxB.trans hxC⟩
              case measure => simp [intOf]; omega
            case pos =>
              have hXC := (hx0.trans hxA).trans (hxB.trans hxC)
              have i0 := (hxB.trans hxC).cell j0
              have i1 := (hxB.trans hxC).cell j1
              have ib := (hib.ext (hxA.trans (hxB.trans hxC))) x (by rw [length_backs]; exact hxl)
              rw [ix_backs _ _ hxl, Nat.zero_add] at ib
              have p := HT.out.1.bd hyl hzl
              have q := HU.out.1.bd (x := x) (y := y) (by have := HL.out; omega) (by have := HL.out; omega)
              rw [← HL.out] at q
              obtain ⟨d1, s1, m1, r1, l1, -⟩ := (hc2.ext hXC).get (i := x) (by have := HL.out; omega)
              obtain ⟨d2, s2, m2, r2, l2, -⟩ := (hc.ext hXC).get (i := y) (by omega)
              obtain ⟨d3, s3, m3, r3, l3, -⟩ := (hc.ext hXC).get (i := (ent u x y).toNat) (by omega)
              have g := HT.out.1.bd (x := (ent u x y).toNat) (y := (backF t x).toNat) (by omega) (by omega)
              obtain ⟨d4, s4, m4, r4, l4, -⟩ := (hc.ext hXC).get (i := (ent t (ent u x y).toNat (backF t x).toNat).toNat) (by omega)
              have qz := HU.out.1.bd (x := x) (y := z) (by have := HL.out; omega) (by have := HL.out; omega)
              rw [← HL.out] at qz
              have lx := HU.out.1.len (x := x) (by have := HL.out; omega)
              rw [← HL.out] at lx
              have f1 := l1.ent lx (y := y) (by omega)
              have f2 := l1.ent lx (y := z) (by omega)
              have f3 := l2.ent (HT.out.1.len (x := y) (by omega)) (y := z) (by omega)
              have f4 := l1.ent lx (y := (ent t y z).toNat) (by omega)
              have f5 := l3.ent (HT.out.1.len (x := (ent u x y).toNat) (by omega)) (y := (backF t x).toNat) (by omega)
              have f6 := l4.ent (HT.out.1.len (x := (ent t (ent u x y).toNat (backF t x).toNat).toNat) (by omega)) (y := (ent u x z).toNat) (by omega)
              rw [lx] at r1
              rw [HT.out.1.len (x := y) (by omega)] at r2
              rw [HT.out.1.len (x := (ent u x y).toNat) (by omega)] at r3
              rw [HT.out.1.len (x := (ent t (ent u x y).toNat (backF t x).toNat).toNat) (by omega)] at r4
              rw [leftF_def] at f4
              rw [rightF_def] at f6
              clear l1 l2 l3 l4 lx
              cases hne : (leftF t u x y z != rightF t u x y z) with
              | true =>
                go_wp2
                go_quiet (fail)
                go_wp2
                go_ret
                have hf := faultL_at hxl hyl hzl (by simpa using hne) HX.out HY.out HZ.out
                have hsz := hXC.size
                refine ⟨_, rfl, ?_, .inr ⟨by rw [hf]; rfl, _, _, rfl⟩, (hXC.drewN _).alloc _⟩
                rw [hf]
                exact ⟨by simp, _, _, rfl, fun _ => ⟨_, _, rfl, (own3 _ _ _ _ _).mono (by simpa using hsz) (by simp)⟩⟩
              | false =>
                go_wp2
                go_quiet (fail)
                go_wp2
                go_roundw
                case rel => exact ⟨z + 1, by omega, by go_num, HZ.out.succ (by simpa using hne), hxC.drewN _⟩
                case measure => simp [intOf]; omega
end Go.Proofs.Ytjcpeenalbgacaa

/-
  Contracts of IsBrace, BraceFault, IsBiSkewBrace: reference and program.
-/
namespace Go.Proofs.Ytjcpeenalbgacaa
set_option linter.unusedVariables false
set_option linter.unusedSimpArgs false
open Go.RowKit

/-- what BraceFault returns -/
@[irreducible] noncomputable def bfL (t u : List (List Int)) : List Int := if twoB t u = true then faultL t u else []
@[irreducible] noncomputable def bfC (t u : List (List Int)) : Int := if twoB t u = true then (if faultL t u = [] then 4 else 0) else 1
theorem bf_no {t u} (h : twoB t u = false) : bfL t u = [] ∧ bfC t u = 1 := by unfold bfL bfC; rw [if_neg (by rw [h]; simp), if_neg (by rw [h]; simp)]; exact ⟨rfl, rfl⟩
theorem bf_none {t u} (h : twoB t u = true) (h2 : faultL t u = []) : bfL t u = [] ∧ bfC t u = 4 := by unfold bfL bfC; rw [if_pos h, if_pos h, if_pos h2]; exact ⟨h2, rfl⟩
theorem bf_yes {t u} (h : twoB t u = true) (h2 : faultL t u ≠ []) : bfL t u = faultL t u ∧ bfC t u = 0 := by unfold bfL bfC; rw [if_pos h, if_pos h, if_neg h2]; exact ⟨rfl, rfl⟩
@[irreducible] noncomputable def noFaultB (t u : List (List Int)) : Bool := (faultL t u).isEmpty
theorem noFault_yes {t u} (h : faultL t u = []) : noFaultB t u = true := by unfold noFaultB; simp [h]
theorem noFault_no {t u} (h : faultL t u ≠ []) : noFaultB t u = false := by unfold noFaultB; simp [h]
set_option maxRecDepth 1000000 in
theorem eqNil0 (w : World) : (binOp .eql 26 (.slice none 0 0) (.slice none 0 0)).run Try.prog w = .ok (.bool true) w := rfl
set_option maxRecDepth 1000000 in
theorem eqNil1 (b n c : Nat) (w : World) : (binOp .eql 26 (.slice (some ⟨b, 0, none⟩) n c) (.slice none 0 0)).run Try.prog w = .ok (.bool false) w := rfl

set_option maxRecDepth 100000 in
theorem areBraceTables_any (t u : List (List Int)) (v y : Value) (w : World) (hv : Rows w v t) (hy : Rows w y u) :
    Calls Try.prog 104 #[.agg #[v, y]] w fun e w' => e = .returned (.bool (twoB t u)) ∧ Ext w w' := by
  obtain ⟨hlen, b, o, c, rfl, hc⟩ := id hv
  obtain ⟨hlen2, b2, o2, c2, rfl, hc2⟩ := id hy
  have hx0 := ext_boxB w (.slice (some ⟨b, o, none⟩) t.length c) (.slice (some ⟨b2, o2, none⟩) u.length c2) 29
  have k0 := cell_new2a w (.slice (some ⟨b, o, none⟩) t.length c) (.slice (some ⟨b2, o2, none⟩) u.length c2) 29
  have k1 := cell_new2b w (.slice (some ⟨b, o, none⟩) t.length c) (.slice (some ⟨b2, o2, none⟩) u.length c2) 29
  cases hg : groupB t with
  | false =>
    rw [twoB_1 hg]
    go_enter Try.func104, Try.ntmps104
    go_wp2_with fail
    refine (isGroupTable_any t _ _ (hv.ext hx0)).mono ?_
    rintro e w1 ⟨rfl, hx1⟩
    rw [hg]
    go_wp2
    go_ret
    exact ⟨rfl, hx0.trans hx1⟩
  | true =>
    cases hg2 : groupB u with
    | false =>
      rw [twoB_2 hg2]
      go_enter Try.func104, Try.ntmps104
      go_wp2_with fail
      refine (isGroupTable_any t _ _ (hv.ext hx0)).mono ?_
      rintro e w1 ⟨rfl, hx1⟩
      rw [hg]
      have j1 := hx1.cell k1
      go_wp2_with fail
      refine (isGroupTable_any u _ _ (hy.ext (hx0.trans hx1))).mono ?_
      rintro e w2 ⟨rfl, hx2⟩
      rw [hg2]
      go_wp2
      go_ret
      exact ⟨rfl, (hx0.trans hx1).trans hx2⟩
    | true =>
      cases hl : ((t.length : Int) == (u.length : Int)) with
      | false =>
        rw [twoB_3 (fun h => by rw [h] at hl; simp at hl)]
        go_enter Try.func104, Try.ntmps104
        go_wp2_with fail
        refine (isGroupTable_any t _ _ (hv.ext hx0)).mono ?_
        rintro e w1 ⟨rfl, hx1⟩
        rw [hg]
        have j0 := hx1.cell k0
        have j1 := hx1.cell k1
        go_wp2_with fail
        refine (isGroupTable_any u _ _ (hy.ext (hx0.trans hx1))).mono ?_
        rintro e w2 ⟨rfl, hx2⟩
        rw [hg2]
        have i0 := hx2.cell j0
        have i1 := hx2.cell j1
        go_wp2
        go_ret
        exact ⟨rfl, (hx0.trans hx1).trans hx2⟩
      | true =>
        rw [twoB_yes hg hg2 (by have := eq_of_beq hl; omega)]
        go_enter Try.func104, Try.ntmps104
        go_wp2_with fail
        refine (isGroupTable_any t _ _ (hv.ext hx0)).mono ?_
        rintro e w1 ⟨rfl, hx1⟩
        rw [hg]
        have j0 := hx1.cell k0
        have j1 := hx1.cell k1
        go_wp2_with fail
        refine (isGroupTable_any u _ _ (hy.ext (hx0.trans hx1))).mono ?_
        rintro e w2 ⟨rfl, hx2⟩
        rw [hg2]
        have i0 := hx2.cell j0
        have i1 := hx2.cell j1
        go_wp2
        go_ret
        exact ⟨rfl, (hx0.trans hx1).trans hx2⟩

set_option maxRecDepth 100000 in
theorem IsBrace_impl (t u : List (List Int)) (v y : Value) (w : World) (hv : Rows w v t) (hy : Rows w y u) :
    Calls Try.prog 63 #[.agg #[v, y]] w fun e w' => e = .returned (.bool (braceB t u)) ∧ Ext w w' := by
  obtain ⟨hlen, b, o, c, rfl, hc⟩ := id hv
  obtain ⟨hlen2, b2, o2, c2, rfl, hc2⟩ := id hy
  have hx0 := ext_boxB w (.slice (some ⟨b, o, none⟩) t.length c) (.slice (some ⟨b2, o2, none⟩) u.length c2) 29
  have k0 := cell_new2a w (.slice (some ⟨b, o, none⟩) t.length c) (.slice (some ⟨b2, o2, none⟩) u.length c2) 29
  have k1 := cell_new2b w (.slice (some ⟨b, o, none⟩) t.length c) (.slice (some ⟨b2, o2, none⟩) u.length c2) 29
  cases hg : twoB t u with
  | false =>
    rw [braceB_1 hg]
    go_enter Try.func63, Try.ntmps63
    go_wp2_with fail
    refine (areBraceTables_any t u _ _ _ (hv.ext hx0) (hy.ext hx0)).mono ?_
    rintro e w1 ⟨rfl, hx1⟩
    rw [hg]
    go_wp2
    go_ret
    exact ⟨rfl, hx0.trans hx1⟩
  | true =>
    obtain ⟨hG, hU, hl⟩ := twoB_iff.1 hg
    have HL := Lib.hid hl
    clear hl
    have e0 := eqNil0
    have e1 := eqNil1
    by_cases hf : faultL t u = []
    · rw [braceB_yes hg hf]
      have HF := Lib.hid hf
      clear hf
      go_enter Try.func63, Try.ntmps63
      go_wp2_with fail
      refine (areBraceTables_any t u _ _ _ (hv.ext hx0) (hy.ext hx0)).mono ?_
      rintro e w1 ⟨rfl, hx1⟩
      rw [hg]
      have j0 := hx1.cell k0
      have j1 := hx1.cell k1
      go_wp2_with fail
      refine (braceFault_any t u _ _ _ (hv.ext (hx0.trans hx1)) (hy.ext (hx0.trans hx1)) hG hU HL.out).mono ?_
      rintro e w2 ⟨r, rfl, -, hr, hx2⟩
      rcases hr with ⟨-, rfl⟩ | ⟨h3, -⟩
      · go_wp2
        go_ret
        exact ⟨rfl, (hx0.trans hx1).trans hx2⟩
      · rw [HF.out] at h3; simp at h3
    · rw [braceB_2 hf]
      have HF := Lib.hid hf
      clear hf
      go_enter Try.func63, Try.ntmps63
      go_wp2_with fail
      refine (areBraceTables_any t u _ _ _ (hv.ext hx0) (hy.ext hx0)).mono ?_
      rintro e w1 ⟨rfl, hx1⟩
      rw [hg]
      have j0 := hx1.cell k0
      have j1 := hx1.cell k1
      go_wp2_with fail
      refine (braceFault_any t u _ _ _ (hv.ext (hx0.trans hx1)) (hy.ext (hx0.trans hx1)) hG hU HL.out).mono ?_
      rintro e w2 ⟨r, rfl, -, hr, hx2⟩
      rcases hr with ⟨h3, -⟩ | ⟨-, rb, rc, rfl⟩
      · exact absurd h3 HF.out
      · go_wp2
        go_ret
        exact ⟨rfl, (hx0.trans hx1).trans hx2⟩
end Go.Proofs.Ytjcpeenalbgacaa

/-
  Contracts of IsBrace (reference), BraceFault, IsBiSkewBrace.
-/
namespace Go.Proofs.Ytjcpeenalbgacaa
set_option linter.unusedVariables false
set_option linter.unusedSimpArgs false
open Go.RowKit

theorem braceB_swap {t u : List (List Int)} (h : twoB t u = true) : braceB u t = noFaultB u t := by
  obtain ⟨hG, hU, hL⟩ := twoB_iff.1 h
  have h2 : twoB u t = true := twoB_iff.2 ⟨hU, hG, hL.symm⟩
  by_cases hf : faultL u t = []
  · rw [braceB_yes h2 hf, noFault_yes hf]
  · rw [braceB_2 hf, noFault_no hf]
theorem len_fault {t u : List (List Int)} (h : faultL t u ≠ []) : (((faultL t u).length : Int) == 0) = false := by
  rw [beq_eq_false_iff_ne]
  intro h2
  exact h (List.length_eq_zero_iff.1 (by omega))

set_option maxRecDepth 100000 in
theorem l11Is_any (t u : List (List Int)) (v y : Value) (w : World) (hv : Rows w v t) (hy : Rows w y u) :
    Calls Try.prog 59 #[.agg #[v, y]] w fun e w' => e = .returned (.bool (braceB t u)) ∧ Ext w w' := by
  obtain ⟨hlen, b, o, c, rfl, hc⟩ := id hv
  obtain ⟨hlen2, b2, o2, c2, rfl, hc2⟩ := id hy
  have hX := ext_boxB w (.slice (some ⟨b, o, none⟩) t.length c) (.slice (some ⟨b2, o2, none⟩) u.length c2) 29
  have k0 := cell_new2a w (.slice (some ⟨b, o, none⟩) t.length c) (.slice (some ⟨b2, o2, none⟩) u.length c2) 29
  have k1 := cell_new2b w (.slice (some ⟨b, o, none⟩) t.length c) (.slice (some ⟨b2, o2, none⟩) u.length c2) 29
  clear hc hc2
  cases hg : groupB t with
  | false =>
    have h2 : twoB t u = false := twoB_1 hg
    rw [braceB_1 h2]
    go_enter Try.func59, Try.ntmps59
    go_wp2_with fail
    refine (l10Is_any t _ _ (hv.ext hX)).mono ?_
    rintro e wn ⟨rfl, hx⟩
    replace hX := hX.trans hx
    replace k0 := hx.cell k0
    replace k1 := hx.cell k1
    clear hx
    rw [hg]
    go_wp2
    go_ret
    exact ⟨rfl, hX⟩
  | true =>
    cases hg2 : groupB u with
    | false =>
      have h2 : twoB t u = false := twoB_2 hg2
      rw [braceB_1 h2]
      go_enter Try.func59, Try.ntmps59
      go_wp2_with fail
      refine (l10Is_any t _ _ (hv.ext hX)).mono ?_
      rintro e wn ⟨rfl, hx⟩
      replace hX := hX.trans hx
      replace k0 := hx.cell k0
      replace k1 := hx.cell k1
      clear hx
      rw [hg]
      go_wp2_with fail
      refine (l10Is_any u _ _ (hy.ext hX)).mono ?_
      rintro e wn ⟨rfl, hx⟩
      replace hX := hX.trans hx
      replace k0 := hx.cell k0
      replace k1 := hx.cell k1
      clear hx
      rw [hg2]
      go_wp2
      go_ret
      exact ⟨rfl, hX⟩
    | true =>
      cases hl : ((t.length : Int) == (u.length : Int)) with
      | false =>
        have h2 : twoB t u = false := twoB_3 (fun h => by rw [h] at hl; simp at hl)
        have hln : ((t.length : Int) != (u.length : Int)) = true := by rw [bne, hl]; rfl
        rw [braceB_1 h2]
        go_enter Try.func59, Try.ntmps59
        go_wp2_with fail
        refine (l10Is_any t _ _ (hv.ext hX)).mono ?_
        rintro e wn ⟨rfl, hx⟩
        replace hX := hX.trans hx
        replace k0 := hx.cell k0
        replace k1 := hx.cell k1
        clear hx
        rw [hg]
        go_wp2_with fail
        refine (l10Is_any u _ _ (hy.ext hX)).mono ?_
        rintro e wn ⟨rfl, hx⟩
        replace hX := hX.trans hx
        replace k0 := hx.cell k0
        replace k1 := hx.cell k1
        clear hx
        rw [hg2]
        go_wp2
        go_ret
        exact ⟨rfl, hX⟩
      | true =>
        have h2 : twoB t u = true := twoB_yes hg hg2 (by have := eq_of_beq hl; omega)
        obtain ⟨hG, hU, hL⟩ := twoB_iff.1 h2
        have HL := Lib.hid hL
        clear hL
        have hln : ((t.length : Int) != (u.length : Int)) = false := by rw [bne, hl]; rfl
        by_cases hf : faultL t u = []
        · rw [braceB_yes h2 hf]
          have HF := Lib.hid hf
          have hz : (((faultL t u).length : Int) == 0) = true := by rw [hf]; rfl
          clear hf
          go_enter Try.func59, Try.ntmps59
          go_wp2_with fail
          refine (l10Is_any t _ _ (hv.ext hX)).mono ?_
          rintro e wn ⟨rfl, hx⟩
          replace hX := hX.trans hx
          replace k0 := hx.cell k0
          replace k1 := hx.cell k1
          clear hx
          rw [hg]
          go_wp2_with fail
          refine (l10Is_any u _ _ (hy.ext hX)).mono ?_
          rintro e wn ⟨rfl, hx⟩
          replace hX := hX.trans hx
          replace k0 := hx.cell k0
          replace k1 := hx.cell k1
          clear hx
          rw [hg2]
          go_wp2_with fail
          refine (l11Fault_any t u _ _ _ (hv.ext hX) (hy.ext hX) hG hU HL.out).mono ?_
          rintro e wn ⟨r, rfl, ⟨ra, rc, rfl⟩, hr, hx⟩
          replace hX := hX.trans hx
          replace k0 := hx.cell k0
          replace k1 := hx.cell k1
          clear hx
          go_wp2
          go_ret
          exact ⟨rfl, hX⟩
        · rw [braceB_2 hf]
          have HF := Lib.hid hf
          have hz := len_fault hf
          clear hf
          go_enter Try.func59, Try.ntmps59
          go_wp2_with fail
          refine (l10Is_any t _ _ (hv.ext hX)).mono ?_
          rintro e wn ⟨rfl, hx⟩
          replace hX := hX.trans hx
          replace k0 := hx.cell k0
          replace k1 := hx.cell k1
          clear hx
          rw [hg]
          go_wp2_with fail
          refine (l10Is_any u _ _ (hy.ext hX)).mono ?_
          rintro e wn ⟨rfl, hx⟩
          replace hX := hX.trans hx
          replace k0 := hx.cell k0
          replace k1 := hx.cell k1
          clear hx
          rw [hg2]
          go_wp2_with fail
          refine (l11Fault_any t u _ _ _ (hv.ext hX) (hy.ext hX) hG hU HL.out).mono ?_
          rintro e wn ⟨r, rfl, ⟨ra, rc, rfl⟩, hr, hx⟩
          replace hX := hX.trans hx
          replace k0 := hx.cell k0
          replace k1 := hx.cell k1
          clear hx
          go_wp2
          go_ret
          exact ⟨rfl, hX⟩

end Go.Proofs.Ytjcpeenalbgacaa

/-
  Contracts: sets of elements, subgroups.
-/
namespace Go.Proofs.Ytjcpeenalbgacaa
set_option linter.unusedVariables false
set_option linter.unusedSimpArgs false
open Go.RowKit

theorem hasBit_any (m x : Nat) (w : World) (hx : x ≤ 62) : Calls Try.prog 106 #[.int .i64 m, .int .i64 x] w fun e w' => e = .returned (.bool (bitB m x)) ∧ w = w' := by
  go_enter Try.func106, Try.ntmps106
  go_wp2
  go_ret
  exact ⟨ret_bool (bitB_def m x), rfl⟩

theorem hasBit_ent (m : Nat) (a : Int) (w : World) (h0 : 0 ≤ a) (hx : a ≤ 62) : Calls Try.prog 106 #[.int .i64 m, .int .i64 a] w fun e w' => e = .returned (.bool (bitB m a.toNat)) ∧ w = w' := by
  obtain ⟨x, rfl⟩ := Int.eq_ofNat_of_zero_le h0
  rw [Int.toNat_natCast]
  exact hasBit_any m x w (by omega)

theorem pos_of_bit {m k : Nat} (h : bitB m k = true) (hm : m < 2 ^ 62) : 0 < (m : Int) / 2 ^ k := by
  rw [bitB_test hm] at h
  have := Nat.ge_two_pow_of_testBit h
  have h2 : 0 < m / 2 ^ k := Nat.div_pos this (Nat.two_pow_pos _)
  rw [cast_div_pow]
  omega
theorem lt_of_not_pos {m k : Nat} (h : ¬ 0 < (m : Int) / 2 ^ k) : m < 2 ^ k := by
  rw [cast_div_pow] at h
  have h2 : m / 2 ^ k = 0 := Nat.eq_zero_of_not_pos (fun h3 => h (Int.natCast_pos.2 h3))
  rcases (Nat.div_eq_zero_iff).1 h2 with h3 | h3
  · have := Nat.two_pow_pos k; omega
  · exact h3
theorem k_lt_of_pos {m k : Nat} (h : 0 < (m : Int) / 2 ^ k) (hm : m < 2 ^ 62) : k < 62 := by
  apply Classical.byContradiction
  intro hk
  have h1 : m < 2 ^ k := Nat.lt_of_lt_of_le hm (Nat.pow_le_pow_right (by decide) (by omega))
  rw [cast_div_pow, Nat.div_eq_of_lt h1] at h
  simp at h

set_option maxRecDepth 100000 in
theorem elementsOf_any (m : Nat) (w : World) (hm : m < 2 ^ 62) :
    Calls Try.prog 107 #[.int .i64 m] w fun e w' => ∃ v, e = .returned v ∧ IntsR w' v (elemsL m) ∧ Ext w w' := by
  have HM := Lib.hid hm
  clear hm
  go_enter Try.func107, Try.ntmps107
  go_wp2
  go_loopw [3, 4] (fun v x wr => ∃ k : Nat, k ≤ 62 ∧ x = .int .i64 k ∧ GrowI 2 w.heap.size wr v (elemsTo m k) ∧ Ext w wr) (fun _ x _ => 62 - (intOf x).toNat)
  case atStart => exact ⟨0, by omega, rfl, by rw [elemsTo_zero]; exact GrowI.nil _ _ _, Ext.refl _⟩
  case round =>
    obtain ⟨k, hk, rfl, hg, hx⟩ := hrel
    have hlen := elemsTo_len m k
    by_cases hp : 0 < (m : Int) / 2 ^ k
    case neg =>
      have HL := Lib.hid (elemsL_eq (lt_of_not_pos hp) hk)
      have hs := (hg.ownIV (hi := wr.heap.size) (by omega) (Nat.le_refl _)).toR
      go_wp2
      go_ret
      exact ⟨u3, rfl, by rw [HL.out]; exact hs, hx⟩
    case pos =>
      have hk2 := k_lt_of_pos hp HM.out
      cases hb : bitB m k with
      | false =>
        go_wp2_with (go_at_call 106; refine (hasBit_any m k _ (by omega)).mono ?_; rintro e w' ⟨rfl, rfl⟩; rw [hb])
        go_roundw
        case rel => exact ⟨k + 1, by omega, by go_num, by rw [elemsTo_no hb]; exact hg, hx⟩
        case measure => simp [intOf]; omega
      | true =>
        go_wp2_with (first | (go_at_call 106; refine (hasBit_any m k _ (by omega)).mono ?_; rintro e w' ⟨rfl, rfl⟩; rw [hb]) | (at_builtin; refine wpList_append_int rfl _ _ 26 2 rfl Try.underlying26 infoInt w.heap.size _ _ rfl (hg.alloc _) _ _ rfl (cell_new _ _ _) (by omega) (by have := hx.size; simp; omega) ?_))
        intro v' w3 hi3 hgr hv3
        have hx3 : Ext w w3 := (hx.trans (ext_box _ _ _)).grown hgr (hg.alloc _) (Nat.le_refl _)
        clear hgr hg
        go_wp2
        go_roundw
        case rel => exact ⟨k + 1, by omega, by go_num, by rw [elemsTo_yes hb]; exact hi3, hx3⟩
        case measure => simp [intOf]; omega

set_option maxRecDepth 100000 in
theorem isSubgroup_any (t : List (List Int)) (v : Value) (m : Nat) (w : World) (hv : Rows w v t) (hT : TableOk t) (hm : m < 2 ^ t.length) :
    Calls Try.prog 66 #[v, .int .i64 m] w fun e w' => e = .returned (.bool (subB t m)) ∧ Ext w w' := by
  obtain ⟨hlen, b, o, c, rfl, hc⟩ := id hv
  have h12 := hT.2.1
  have H62 := Lib.hid (lt62 h12 hm)
  have HT := Lib.hid hT
  have HM := Lib.hid hm
  clear hm hT
  cases hb0 : bitB m 0 with
  | false =>
    rw [subB_0 hb0]
    have h0 := hasBit_any m 0
    go_enter Try.func66, Try.ntmps66
    go_wp2_with (go_at_call 106; refine (hasBit_any m 0 _ (by omega)).mono ?_; rintro e w' ⟨rfl, rfl⟩; rw [hb0])
    go_ret
    exact ⟨rfl, Ext.refl _⟩
  | true =>
    rw [subB_1 hb0]
    have HE := Lib.hid (fun i (h : i < (elemsL m).length) => elemsL_get (k := t.length) HM.out (by omega) h)
    go_enter Try.func66, Try.ntmps66
    go_wp2_with (go_at_call 106; refine (hasBit_any m 0 _ (by omega)).mono ?_; rintro e w' ⟨rfl, rfl⟩; rw [hb0])
    go_wp2_with fail
    refine (elementsOf_any m _ H62.out).mono ?_
    rintro e w1 ⟨v1, rfl, hr1, hx1⟩
    obtain ⟨a1, c1, rfl, hr⟩ := hr1
    have HR := Lib.hid hr
    clear hr hb0
    have hcw := hc.ext hx1
    have hlL := elemsL_len m
    clear hc
    go_wp2
    go_loop [17] (fun i => ∃ k : Nat, k ≤ (elemsL m).length ∧ i = .int .i64 k ∧ MemTo t m k) (fun i => (elemsL m).length - (intOf i).toNat)
    case atStart => exact ⟨0, Nat.zero_le _, rfl, MemTo.zero _ _⟩
    case round =>
      obtain ⟨k, hk, rfl, hmt⟩ := hrel
      by_cases hkl : k < (elemsL m).length
      case neg =>
        go_wp2
        go_ret
        have hkk : k = (elemsL m).length := by omega
        subst hkk
        exact ⟨ret_bool (hmt.closed HM.out h12).symm, hx1⟩
      case pos =>
        obtain ⟨gb, go', rfl, hgi⟩ := HR.out (ne_nil_of_lt hkl)
        obtain ⟨x, hx, bx, ex⟩ := HE.out k hkl
        have e1 := hgi k hkl
        rw [ex] at e1
        have EX := Lib.hid ex
        have HG := Lib.hid hgi
        clear ex hgi
        go_wp2
        go_loop [23] (fun i => ∃ j : Nat, j ≤ (elemsL m).length ∧ i = .int .i64 j ∧ MemRow t m x j) (fun i => (elemsL m).length - (intOf i).toNat)
        case atStart => exact ⟨0, Nat.zero_le _, rfl, MemRow.zero _ _ _⟩
        case round =>
          obtain ⟨j, hj, rfl, hmr⟩ := hrel
          by_cases hjl : j < (elemsL m).length
          case neg =>
            go_wp2
            go_round
            case rel => exact ⟨k + 1, by omega, by go_num, hmt.succ (by rw [EX.out, Int.toNat_natCast]; exact hmr.mono (by omega))⟩
            case measure => simp [intOf]; omega
          case pos =>
            obtain ⟨y, hy, bY, ey⟩ := HE.out j hjl
            have e2 := HG.out j hjl
            rw [ey] at e2
            have EY := Lib.hid ey
            clear ey
            obtain ⟨d1, s1, m1, r1, l1, -⟩ := hcw.get hx
            have f1 := l1.ent (HT.out.len hx) hy
            have bd := HT.out.bd hx hy
            rw [HT.out.len hx] at r1
            clear l1
            have HBX := Lib.hid bx
            have HBY := Lib.hid bY
            clear bY
            cases hb : bitB m (ent t x y).toNat with
            | false =>
              go_wp2_with (go_at_call 106; refine (hasBit_ent m (ent t x y) _ (by omega) (by omega)).mono ?_; rintro e w' ⟨rfl, rfl⟩; rw [hb])
              go_ret
              exact ⟨ret_bool (MemTo.open hx hy HBX.out HBY.out hb).symm, hx1⟩
            | true =>
              go_wp2_with (go_at_call 106; refine (hasBit_ent m (ent t x y) _ (by omega) (by omega)).mono ?_; rintro e w' ⟨rfl, rfl⟩; rw [hb])
              go_round
              case rel => exact ⟨j + 1, by omega, by go_num, hmr.succ (by rw [EY.out, Int.toNat_natCast]; exact hb)⟩
              case measure => simp [intOf]; omega

set_option maxRecDepth 100000 in
theorem l04Closed_any (t : List (List Int)) (v : Value) (m : Nat) (w : World) (hv : Rows w v t) (hT : TableOk t) (hm : m < 2 ^ t.length) :
    Calls Try.prog 61 #[v, .int .i64 m] w fun e w' => e = .returned (.bool (closedB t m)) ∧ w = w' := by
  obtain ⟨hlen, b, o, c, rfl, hc⟩ := id hv
  have h12 := hT.2.1
  have H62 := Lib.hid (lt62 h12 hm)
  have HT := Lib.hid hT
  clear hT hm
  go_enter Try.func61, Try.ntmps61
  go_wp2
  go_loop [5] (fun i => ∃ k : Nat, k ≤ t.length ∧ i = .int .i64 k ∧ ClosedTo t m t.length k) (fun i => t.length - (intOf i).toNat)
  case atStart => exact ⟨0, Nat.zero_le _, rfl, ClosedTo.zero _ _ _⟩
  case round =>
    obtain ⟨k, hk, rfl, hct⟩ := hrel
    by_cases hkl : k < t.length
    case neg =>
      go_wp2
      go_ret
      have hkk : k = t.length := by omega
      subst hkk
      exact ⟨ret_bool (closedB_yes hct).symm, rfl⟩
    case pos =>
      go_wp2
      go_loop [6] (fun i => ∃ j : Nat, j ≤ t.length ∧ i = .int .i64 j ∧ ClosedRow t m k j) (fun i => t.length - (intOf i).toNat)
      case atStart => exact ⟨0, Nat.zero_le _, rfl, ClosedRow.zero _ _ _⟩
      case round =>
        obtain ⟨j, hj, rfl, hcr⟩ := hrel
        by_cases hjl : j < t.length
        case neg =>
          go_wp2
          go_round
          case rel => exact ⟨k + 1, by omega, by go_num, hct.succ (hcr.mono (by omega))⟩
          case measure => simp [intOf]; omega
        case pos =>
          cases hbx : bitB m k with
          | false =>
            have q1 := bit_zero hbx H62.out
            go_wp2
            go_round
            case rel => exact ⟨j + 1, by omega, by go_num, hcr.succ (fun h => by rw [hbx] at h; cases h)⟩
            case measure => simp [intOf]; omega
          | true =>
            have q1 := bit_one hbx
            cases hby : bitB m j with
            | false =>
              have q2 := bit_zero hby H62.out
              go_wp2
              go_round
              case rel => exact ⟨j + 1, by omega, by go_num, hcr.succ (fun _ h => by rw [hby] at h; cases h)⟩
              case measure => simp [intOf]; omega
            | true =>
              have q2 := bit_one hby
              obtain ⟨d1, s1, m1, r1, l1, -⟩ := hc.get hkl
              have f1 := l1.ent (HT.out.len hkl) hjl
              have bd := HT.out.bd hkl hjl
              rw [HT.out.len hkl] at r1
              clear l1
              cases hb : bitB m (ent t k j).toNat with
              | false =>
                have q3 := bit_zero hb H62.out
                go_wp2
                go_ret
                exact ⟨ret_bool (MemTo.open hkl hjl hbx hby hb).symm, rfl⟩
              | true =>
                have q3 := bit_one hb
                go_wp2
                go_round
                case rel => exact ⟨j + 1, by omega, by go_num, hcr.succ (fun _ _ => hb)⟩
                case measure => simp [intOf]; omega
end Go.Proofs.Ytjcpeenalbgacaa
