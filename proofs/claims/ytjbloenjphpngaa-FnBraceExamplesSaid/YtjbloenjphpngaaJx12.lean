/-
  Contract of the program: is it the table of a group.
-/
import Derived.Test.YtjbloenjphpngaaProg
import Derived.Test.YtjbloenjphpngaaJx0
import Derived.Test.YtjbloenjphpngaaJx2
import Derived.Test.YtjbloenjphpngaaJx10
import Derived.Test.YtjbloenjphpngaaJx11
import Derived.Test.YtjbloenjphpngaaJx1
import Derived.Test.YtjbloenjphpngaaJx8
import Derived.Test.YtjbloenjphpngaaJx3
import Derived.Test.YtjbloenjphpngaaJx4
import Derived.Test.YtjbloenjphpngaaJx5
import Derived.Test.YtjbloenjphpngaaJx7
import Derived.Test.YtjbloenjphpngaaJx6
namespace Go.Proofs.Ytjbloenjphpngaa
set_option linter.unusedVariables false
set_option linter.unusedSimpArgs false
open Go.RowKit

set_option maxRecDepth 100000 in
theorem isGroupTable_any (t : List (List Int)) (v : Value) (w : World) (hv : Rows w v t) :
    Calls Try.prog 64 #[v] w fun e w' => e = .returned (.bool (groupB t)) ∧ Ext w w' := by
  by_cases hT : TableOk t
  case neg =>
    have hB := tableB_no hT
    go_enter Try.func64, Try.ntmps64
    go_wp2_with fail
    refine (IsTable_any t _ _ hv).mono ?_
    rintro e w1 ⟨rfl, hx1⟩
    go_wp2
    go_ret
    exact ⟨ret_bool (groupB_no (fun h => hT h.1)).symm, hx1⟩
  case pos =>
    have hB := tableB_yes hT
    cases hP : permRowsB t with
    | false =>
      go_enter Try.func64, Try.ntmps64
      go_wp2_with fail
      refine (IsTable_any t _ _ hv).mono ?_
      rintro e w1 ⟨rfl, hx1⟩
      go_wp2_with fail
      refine (permutationRows_any t _ _ (hv.ext hx1)).mono ?_
      rintro e w2 ⟨rfl, hx2⟩
      go_wp2
      go_ret
      exact ⟨ret_bool (groupB_no (fun h => absurd (permRowsB_iff.2 h.2.1) (by rw [hP]; simp))).symm, hx1.trans hx2⟩
    | true =>
    have hv' := hv
    obtain ⟨hlen, b, o, c, rfl, hc⟩ := hv
    have HT := Lib.hid hT
    have h1 := hT.1
    have h2 := hT.2.1
    clear hT
    have HP := Lib.hid (permRowsB_iff.1 hP)
    go_enter Try.func64, Try.ntmps64
    go_wp2_with fail
    refine (IsTable_any t _ _ hv').mono ?_
    rintro e w1 ⟨rfl, hx1⟩
    go_wp2_with fail
    refine (permutationRows_any t _ _ (hv'.ext hx1)).mono ?_
    rintro e w2 ⟨rfl, hx2⟩
    have hx := hx1.trans hx2
    clear hx1 hx2
    go_wp2
    clear hB hP
    go_loopw [16] (fun x wr => ∃ k : Nat, k ≤ t.length ∧ x = .int .i64 k ∧ UnitAssocTo t t.length k ∧ Ext w wr) (fun x _ => t.length - (intOf x).toNat)
    case atStart => exact ⟨0, Nat.zero_le _, rfl, UnitAssocTo.zero _ _, hx⟩
    case round =>
      clear hx
      obtain ⟨k, hk, rfl, hua, hx⟩ := hrel
      by_cases hlt : k < t.length
      case neg =>
        go_wp2
        go_ret
        exact ⟨ret_bool (groupB_yes ⟨HT.out, HP.out, hua.mono (by omega)⟩).symm, hx⟩
      case pos =>
        obtain ⟨b0, o0, c0, hr0, hc0, -⟩ := (hc.ext hx).head (by omega)
        obtain ⟨b1, o1, c1, hr, hc1, hl⟩ := (hc.ext hx).get hlt
        have hl0 := HT.out.len (x := 0) (by omega)
        have hl1 := HT.out.len hlt
        have e0 := hc0.ent hl0 hlt
        have e1 := hc1.ent0 hl1 (by omega)
        rw [hl0] at hr0
        rw [hl1] at hr
        clear hl0 hc0
        cases hu0 : (ent t 0 k != (k : Int)) with
        | true =>
          go_wp2
          go_ret
          exact ⟨ret_bool (groupB_no (fun h => absurd (h.2.2 k hlt).1.1 (by simpa using hu0))).symm, hx⟩
        | false =>
          cases hu1 : (ent t k 0 != (k : Int)) with
          | true =>
            go_wp2
            go_ret
            exact ⟨ret_bool (groupB_no (fun h => absurd (h.2.2 k hlt).1.2 (by simpa using hu1))).symm, hx⟩
          | false =>
            have hun : UnitAt t k := ⟨by simpa using hu0, by simpa using hu1⟩
            go_wp2
            clear hu0 hu1 e0 e1 hr0 hr hc1
            obtain ⟨w3, rfl⟩ : ∃ w1 : World, w1 = wr := ⟨_, rfl⟩
            go_loopw [39] (fun y wr => ∃ m : Nat, m ≤ t.length ∧ y = .int .i64 m ∧ AssocY t t.length k m ∧ Ext w wr) (fun y _ => t.length - (intOf y).toNat)
            case atStart => exact ⟨0, Nat.zero_le _, rfl, AssocY.zero _ _ _, hx⟩
            case round =>
              clear hx
              obtain ⟨m, hm, rfl, hay, hx⟩ := hrel
              by_cases hml : m < t.length
              case neg =>
                go_wp2
                go_roundw
                case rel => exact ⟨k + 1, by omega, by go_num, hua.succ hun (hay.mono (by omega)), hx⟩
                case measure => simp [intOf]; omega
              case pos =>
                go_wp2
                obtain ⟨w4, rfl⟩ : ∃ w1 : World, w1 = wr := ⟨_, rfl⟩
                go_loopw [44] (fun z wr => ∃ j : Nat, j ≤ t.length ∧ z = .int .i64 j ∧ AssocTo t k m j ∧ Ext w wr) (fun z _ => t.length - (intOf z).toNat)
                case atStart => exact ⟨0, Nat.zero_le _, rfl, AssocTo.zero _ _ _, hx⟩
                case round =>
                  clear hx
                  obtain ⟨j, hj, rfl, hato, hx⟩ := hrel
                  by_cases hjl : j < t.length
                  case neg =>
                    go_wp2
                    go_roundw
                    case rel => exact ⟨m + 1, by omega, by go_num, hay.succ (hato.mono (by omega)), hx⟩
                    case measure => simp [intOf]; omega
                  case pos =>
                    have bxy := HT.out.bd hlt hml
                    have byz := HT.out.bd hml hjl
                    have hcw := hc.ext hx
                    obtain ⟨b1, o1, c1, hr, hc1, -⟩ := hcw.get hlt
                    obtain ⟨b2, o2, c2, hrm, hc2, -⟩ := hcw.get hml
                    obtain ⟨b3, o3, c3, hrx, hc3, -⟩ := hcw.get (i := (ent t k m).toNat) (by omega)
                    have f1 := hc1.ent hl1 hml
                    have f2 := hc2.ent (HT.out.len hml) hjl
                    have f3 := hc1.ent (y := (ent t m j).toNat) hl1 (by omega)
                    have f4 := hc3.ent (HT.out.len (by omega)) hjl
                    clear hc1 hc2 hc3 hcw
                    rw [HT.out.len hml] at hrm
                    rw [HT.out.len hlt] at hr
                    rw [HT.out.len (x := (ent t k m).toNat) (by omega)] at hrx
                    cases ha : (ent t (ent t k m).toNat j != ent t k (ent t m j).toNat) with
                    | true =>
                      go_wp2
                      go_quiet (fail)
                      go_wp2
                      go_ret
                      exact ⟨ret_bool (groupB_no (fun h => absurd ((h.2.2 k hlt).2 m hml j hjl) (by simpa using ha))).symm, hx.drewN _⟩
                    | false =>
                      go_wp2
                      go_quiet (fail)
                      go_wp2
                      go_roundw
                      case rel => exact ⟨j + 1, by omega, by go_num, hato.succ (by simpa using ha), hx.drewN _⟩
                      case measure => simp [intOf]; omega

end Go.Proofs.Ytjbloenjphpngaa

/-
  Contracts of IsGroup, reference and program.
-/
namespace Go.Proofs.Ytjbloenjphpngaa
set_option linter.unusedVariables false
set_option linter.unusedSimpArgs false
open Go.RowKit

theorem IsGroup_impl (t : List (List Int)) (v : Value) (w : World) (hv : Rows w v t) :
    Calls Try.prog 42 #[.agg #[v]] w fun e w' => e = .returned (.bool (groupB t)) ∧ Ext w w' := by
  obtain ⟨hlen, b, o, c, rfl, hc⟩ := id hv
  clear hc
  have hx0 := ext_box w (.slice (some ⟨b, o, none⟩) t.length c) 38
  go_enter Try.func42, Try.ntmps42
  go_wp2_with fail
  refine (isGroupTable_any t _ _ (hv.ext hx0)).mono ?_
  rintro e w1 ⟨rfl, hx1⟩
  go_wp2
  go_ret
  exact ⟨rfl, hx0.trans hx1⟩

end Go.Proofs.Ytjbloenjphpngaa

/-
  Contracts: the cyclic groups and those of two halves, by formulas: reference.
-/
namespace Go.Proofs.Ytjbloenjphpngaa
set_option linter.unusedVariables false
set_option linter.unusedSimpArgs false
open Go.RowKit

/-- values of the cyclic group -/
@[irreducible] def cycF (n : Nat) (x y : Nat) : Int := ((x : Int) + (y : Int)) % (n : Int)

theorem cycF_def (n x y : Nat) : cycF n x y = ((x : Int) + (y : Int)) % (n : Int) := by unfold cycF; rfl
theorem take_row (t : List (List Int)) (k : Nat) (h : k < t.length) : t.take (k + 1) = t.take k ++ [row t k] := by
  rw [List.take_succ_eq_append_getElem h, row_eq]; simp [List.getD, h]
theorem take_ix (l : List Int) (k : Nat) (h : k < l.length) : l.take (k + 1) = l.take k ++ [ix l k] := by
  rw [List.take_succ_eq_append_getElem h, ix_eq]; simp [List.getD, h]

set_option maxRecDepth 100000 in
theorem l10Cyclic_any (n : Nat) (w : World) (h1 : 1 ≤ n) (h2 : n ≤ 12) :
    Calls Try.prog 60 #[.int .i64 n] w fun e w' => ∃ v, e = .returned v ∧ Rows w' v (mkT n (cycF n)) ∧ Ext w w' := by
  have hlt := length_mkT n (cycF n)
  have HLT := Lib.hid hlt
  clear hlt
  go_enter Try.func60, Try.ntmps60
  go_wp2
  have hx0 : Ext w (w.alloc (.cells #[] 28)) := (Ext.refl _).alloc _
  have hg0 := GrowT.lit (e := 28) (base := w.heap.size) (w := w) (Nat.le_refl _)
  go_loopw [3, 4] (fun v x wr => ∃ k : Nat, k ≤ n ∧ x = .int .i64 k ∧ GrowT 28 w.heap.size wr v ((mkT n (cycF n)).take k) ∧ v ≠ .slice none 0 0 ∧ Ext w wr) (fun _ x _ => n - (intOf x).toNat)
  case atStart => exact ⟨0, Nat.zero_le _, rfl, hg0, by simp, hx0⟩
  case round =>
    clear hx0 hg0
    obtain ⟨k, hk, rfl, hg, hv, hx⟩ := hrel
    have HV := Lib.hid hv
    clear hv
    by_cases hkl : k < n
    case neg =>
      go_wp2
      go_ret
      refine ⟨u3, rfl, ?_, hx⟩
      have : (mkT n (cycF n)).take k = mkT n (cycF n) := List.take_of_length_le (by rw [HLT.out]; omega)
      rw [this] at hg
      exact hg.rows (by rw [HLT.out]; omega) HV.out
    case pos =>
      go_wp2
      obtain ⟨w2, rfl⟩ : ∃ w2 : World, w2 = wr := ⟨_, rfl⟩
      have hxa : Ext w2 (w2.alloc (.cells #[] 2)) := (Ext.refl _).alloc _
      have hi0 := GrowI.lit (e := 2) (base := w2.heap.size) (w := w2) (Nat.le_refl _)
      have hrl : (row (mkT n (cycF n)) k).length = n := by rw [row_mkT _ _ _ hkl, length_partRow]
      have HRL := Lib.hid hrl
      have hout := hg.lt
      have HO := Lib.hid hout
      clear hrl hout
      go_loopw [5, 6] (fun v y wr => ∃ j : Nat, j ≤ n ∧ y = .int .i64 j ∧ GrowI 2 w2.heap.size wr v ((row (mkT n (cycF n)) k).take j) ∧ v ≠ .slice none 0 0 ∧ Ext w2 wr) (fun _ y _ => n - (intOf y).toNat)
      case atStart => exact ⟨0, Nat.zero_le _, rfl, hi0, by simp, hxa⟩
      case round =>
        clear hxa hi0
        obtain ⟨j, hj, rfl, hi, hvr, hx2⟩ := hrel
        have HVR := Lib.hid hvr
        clear hvr
        by_cases hjl : j < n
        case neg =>
          have hta : (row (mkT n (cycF n)) k).take j = row (mkT n (cycF n)) k := List.take_of_length_le (by rw [HRL.out]; omega)
          rw [hta] at hi
          obtain ⟨br, cr, rfl, hri, hrb, hrb2⟩ := hi.row HVR.out
          have hgw := hg.ext hx2
          have hne : some br ≠ u3.ownBlock := fun e => by have := HO.out br e.symm; omega
          have htl : ((mkT n (cycF n)).take k).length = k := by rw [List.length_take, HLT.out]; omega
          have HTL := Lib.hid htl
          clear htl hg
          go_wp2_with (at_builtin; refine wpList_append_row rfl _ _ 24 28 rfl Try.underlying24 infoSl w.heap.size _ _ rfl (hgw.ext (ext_box _ _ _)) _ br cr _ rfl (cell_new _ _ _) (hri.ext (ext_box _ _ _)) (by rw [HRL.out]; omega) hne (by rw [HTL.out]; omega) (by have := hx.size; have := hx2.size; simp; omega) ?_)
          intro v' w3 hg3 hgr hv3
          have hx3 : Ext w w3 := (hx.trans (hx2.trans (ext_box _ _ _))).grown hgr (hgw.ext (ext_box _ _ _)).own.choose_spec (Nat.le_refl _)
          clear hgr hne hgw
          go_wp2
          go_roundw
          case rel => exact ⟨k + 1, by omega, by go_num, by rw [take_row _ _ (by rw [HLT.out]; exact hkl)]; exact hg3, hv3, hx3⟩
          case measure => simp [intOf]; omega
        case pos =>
          have hlj : ((row (mkT n (cycF n)) k).take j).length = j := by rw [List.length_take, HRL.out]; omega
          have HLJ := Lib.hid hlj
          clear hlj
          have hmod := Int.emod_nonneg ((k : Int) + (j : Int)) (b := (n : Int)) (by omega)
          go_wp2_with (at_builtin; refine wpList_append_int rfl _ _ 28 2 rfl Try.underlying28 infoInt w2.heap.size _ _ rfl (hi.alloc _) _ _ rfl (cell_new _ _ _) (by rw [HLJ.out]; omega) (by have := hx2.size; simp; omega) ?_)
          intro v' w3 hi3 hgr hv3
          have hx3 : Ext w2 w3 := (hx2.trans (ext_box _ _ _)).grown hgr (hi.alloc _) (Nat.le_refl _)
          clear hgr
          go_wp2
          go_roundw
          case rel => exact ⟨j + 1, by omega, by go_num, by
            rw [take_ix _ _ (by rw [HRL.out]; exact hjl), row_mkT _ _ _ hkl, ix_partRow _ _ _ _ _ hjl, if_pos hjl]
            rw [row_mkT _ _ _ hkl, ← cycF_def n k j] at hi3
            exact hi3, hv3, hx3⟩
          case measure => simp [intOf]; omega
end Go.Proofs.Ytjbloenjphpngaa

/-
  Contracts of OrderIn: reference and program.
-/
namespace Go.Proofs.Ytjbloenjphpngaa
set_option linter.unusedVariables false
set_option linter.unusedSimpArgs false
open Go.RowKit

theorem allInB_one (a lo hi : Int) : allInB [a] lo hi = inR a lo hi := by
  rw [Bool.eq_iff_iff, allInB_iff, inR_iff]
  have h0 : ix [a] 0 = a := by rw [ix_eq]; rfl
  constructor
  · intro h; have := h 0 (by simp); rwa [h0] at this
  · intro h i hi
    have : i = 0 := by simp at hi; omega
    subst this; rw [h0]; exact h

end Go.Proofs.Ytjbloenjphpngaa

/-
  Contracts: the index of a number, inverses.
-/
namespace Go.Proofs.Ytjbloenjphpngaa
set_option linter.unusedVariables false
set_option linter.unusedSimpArgs false
open Go.RowKit

theorem slicesIndex_any (l : List Int) (v : Value) (n : Int) (w : World) (hv : Ints w v l) :
    Calls Try.prog 91 #[v, .int .i64 n] w fun e w' => e = .returned (.int .i64 (indexOf l n)) ∧ w = w' := by
  obtain ⟨hlen, b, o, c, rfl, hc⟩ := hv
  go_enter Try.func91, Try.ntmps91
  go_wp2
  go_loop [8] (fun i => ∃ k : Nat, k ≤ l.length ∧ i = .int .i64 k ∧ indexOf l n = indexFrom n (l.drop k) k) (fun i => l.length - (intOf i).toNat)
  case atStart => exact ⟨0, Nat.zero_le _, rfl, by unfold indexOf; rfl⟩
  case round =>
    obtain ⟨k, hk, rfl, hr⟩ := hrel
    have Hr := Lib.hid hr
    clear hr
    by_cases hlt : k < l.length
    · have hcell := hc k hlt
      by_cases he : (n == ix l k) = true
      · go_wp2
        go_ret
        exact ⟨ret_int (by rw [Hr.out, indexFrom_hit l n k hlt (eq_of_beq he).symm]), rfl⟩
      · have he' : (n == ix l k) = false := by simpa using he
        have hne : ¬ ix l k = n := fun h => he (by rw [h]; exact beq_self_eq_true n)
        have HN := Lib.hid hne
        clear he hne
        go_wp2
        go_round
        case rel => exact ⟨k + 1, by omega, by go_num, by rw [Hr.out, indexFrom_miss l n k hlt HN.out]⟩
        case measure => simp [intOf]; omega
    · go_wp2
      go_ret
      exact ⟨ret_int (by rw [Hr.out, indexFrom_end l n k (by omega)]), rfl⟩

theorem indexIn_any (l : List Int) (v : Value) (n : Int) (w : World) (hv : Ints w v l) :
    Calls Try.prog 76 #[v, .int .i64 n] w fun e w' => e = .returned (.int .i64 (indexOf l n)) ∧ w = w' := by
  go_enter Try.func76, Try.ntmps76
  go_wp2_with (go_at_call 91; refine (slicesIndex_any l _ _ _ hv).mono ?_; rintro e w' ⟨rfl, rfl⟩)
  go_ret
  exact ⟨rfl, rfl⟩

theorem l10Back_any (t : List (List Int)) (v : Value) (x : Nat) (w : World) (hv : Rows w v t) (hx : x < t.length) :
    Calls Try.prog 67 #[v, .int .i64 x] w fun e w' => e = .returned (.int .i64 (backF t x)) ∧ w = w' := by
  obtain ⟨hlen, b, o, c, rfl, hc⟩ := id hv
  obtain ⟨b1, o1, c1, hr, hc1, hl1⟩ := hc.get hx
  go_enter Try.func67, Try.ntmps67
  go_wp2_with (go_at_call 87; refine (l01Index_any (row t x) _ _ _ (hc1.ints hl1 c1)).mono ?_; rintro e w' ⟨rfl, rfl⟩; rw [backF_def])
  go_ret
  exact ⟨rfl, rfl⟩

theorem groupInverses_any (t : List (List Int)) (v : Value) (w : World) (hv : Rows w v t) :
    Calls Try.prog 56 #[v] w fun e w' => ∃ b c, e = .returned (.slice (some ⟨b, 0, none⟩) t.length c) ∧ IntsAt w' b 0 (backs t) ∧ Ext w w' := by
  obtain ⟨hlen, b, o, c, rfl, hc⟩ := id hv
  have hmk := run_make_row' (P := Try.prog) 28 2 (.int .i64 0) 8 Try.underlying28 infoInt rfl .i64 .i64 t.length (by omega) (by omega)
  go_enter Try.func56, Try.ntmps56
  go_wp2_with fail
  clear hmk
  have hx0 : Ext w (w.alloc (.cells (madeCells #[Value.int .i64 0] t.length) 2)) := (Ext.refl _).alloc _
  have hr0 := World.rowIs_made w (.int .i64 0) t.length 2
  go_loopw [11] (fun i wr => ∃ k : Nat, k ≤ t.length ∧ i = .int .i64 k ∧ wr.rowIs w.heap.size 2 t.length (fun i => .int .i64 (copyTo (backs t) k i)) ∧ Ext w wr) (fun i _ => t.length - (intOf i).toNat)
  case atStart => exact ⟨0, Nat.zero_le _, rfl, hr0.congr (fun i hi => by rw [copyTo_zero]), hx0⟩
  case round =>
    clear hx0 hr0
    obtain ⟨k, hk, rfl, hrow, hx⟩ := hrel
    by_cases hlt : k < t.length
    · obtain ⟨b1, o1, c1, hr, hc1, hl1⟩ := (hc.ext hx).get hlt
      have e2 := hrow.cell hlt
      have e3 := hrow.frozen k
      go_wp2_with (go_at_call 76; refine (indexIn_any (row t k) _ _ _ (hc1.ints hl1 c1)).mono ?_; rintro e w' ⟨rfl, rfl⟩; rw [backF_def])
      go_roundw
      case rel => exact ⟨k + 1, by omega, by go_num, (hrow.set k (.int .i64 (backF t k))).congr (fun i hi => by rw [copyTo_succ, ix_backs _ _ hlt]; split <;> rfl), hx.setNew (Nat.le_refl _) _⟩
      case measure => simp [intOf]; omega
    · go_wp2
      go_ret
      have hkk : k = t.length := by omega
      exact ⟨w.heap.size, t.length, rfl, fun i hi => by
        rw [length_backs] at hi
        rw [Nat.zero_add, hrow.cell hi, copyTo_all _ _ _ (by omega)], hx⟩

end Go.Proofs.Ytjbloenjphpngaa

/-
  Contracts: sets of elements, subgroups.
-/
namespace Go.Proofs.Ytjbloenjphpngaa
set_option linter.unusedVariables false
set_option linter.unusedSimpArgs false
open Go.RowKit

theorem pos_of_bit {m k : Nat} (h : bitB m k = true) (hm : m < 2 ^ 62) : 0 < (m : Int) / 2 ^ k := by
  rw [bitB_test hm] at h
  have := Nat.ge_two_pow_of_testBit h
  have h2 : 0 < m / 2 ^ k := Nat.div_pos this (Nat.two_pow_pos _)
  rw [cast_div_pow]
  omega
theorem lt_of_not_pos {m k : Nat} (h : ¬ 0 < (m : Int) / 2 ^ k) : m < 2 ^ k := by
  rw [cast_div_pow] at h
  have h2 : m / 2 ^ k = 0 := Nat.eq_zero_of_not_pos (fun h3 => h (Int.natCast_pos.2 h3))
  rcases (Nat.div_eq_zero_iff).1 h2 with h3 | h3
  · have := Nat.two_pow_pos k; omega
  · exact h3
theorem k_lt_of_pos {m k : Nat} (h : 0 < (m : Int) / 2 ^ k) (hm : m < 2 ^ 62) : k < 62 := by
  apply Classical.byContradiction
  intro hk
  have h1 : m < 2 ^ k := Nat.lt_of_lt_of_le hm (Nat.pow_le_pow_right (by decide) (by omega))
  rw [cast_div_pow, Nat.div_eq_of_lt h1] at h
  simp at h

end Go.Proofs.Ytjbloenjphpngaa

/-
  Contracts: all subgroups.
-/
namespace Go.Proofs.Ytjbloenjphpngaa
set_option linter.unusedVariables false
set_option linter.unusedSimpArgs false
open Go.RowKit

theorem wrapPow {n : Nat} (h : n ≤ 12) : wrap64 (2 ^ n) = ((2 ^ n : Nat) : Int) := by
  have := pow12 h
  have hc : ((2 : Int) ^ n) = ((2 ^ n : Nat) : Int) := by simp
  rw [hc]
  clear hc
  generalize 2 ^ n = P at this
  exact IntWalk.wrap64_in _ (by omega)
theorem even_pow {n : Nat} (h : 1 ≤ n) : 2 ^ n % 2 = 0 := by
  obtain ⟨m, rfl⟩ : ∃ m, n = m + 1 := ⟨n - 1, by omega⟩
  rw [Nat.pow_succ]; omega

end Go.Proofs.Ytjbloenjphpngaa

/-
  Contracts: comparing lists and tables.
-/
namespace Go.Proofs.Ytjbloenjphpngaa
set_option linter.unusedVariables false
set_option linter.unusedSimpArgs false
open Go.RowKit

theorem isNaN_any (a : Int) (w : World) : Calls Try.prog 108 #[.int .i64 a] w fun e w' => e = .returned (.bool false) ∧ w = w' := by
  have hb : (a != a) = false := by simp
  go_enter Try.func108, Try.ntmps108
  go_wp2
  go_ret
  exact ⟨rfl, rfl⟩

theorem cmpCompare_any (a b : Int) (w : World) : Calls Try.prog 103 #[.int .i64 a, .int .i64 b] w fun e w' => e = .returned (.int .i64 (cmpI a b)) ∧ w = w' := by
  unfold cmpI
  by_cases h : a < b
  · rw [if_pos h]
    go_enter Try.func103, Try.ntmps103
    go_wp2_with (go_at_call 108; refine (isNaN_any _ _).mono ?_; rintro e w' ⟨rfl, rfl⟩)
    go_ret
    exact ⟨rfl, rfl⟩
  · rw [if_neg h]
    by_cases h2 : b < a
    · rw [if_pos h2]
      go_enter Try.func103, Try.ntmps103
      go_wp2_with (go_at_call 108; refine (isNaN_any _ _).mono ?_; rintro e w' ⟨rfl, rfl⟩)
      go_ret
      exact ⟨rfl, rfl⟩
    · rw [if_neg h2]
      go_enter Try.func103, Try.ntmps103
      go_wp2_with (go_at_call 108; refine (isNaN_any _ _).mono ?_; rintro e w' ⟨rfl, rfl⟩)
      go_ret
      exact ⟨rfl, rfl⟩

theorem slicesCompare_any (l m : List Int) (v u : Value) (w : World) (hv : Ints w v l) (hu : Ints w u m) :
    Calls Try.prog 90 #[v, u] w fun e w' => e = .returned (.int .i64 (cmpL l m)) ∧ w = w' := by
  obtain ⟨hl1, b1, o1, c1, rfl, hc1⟩ := hv
  obtain ⟨hl2, b2, o2, c2, rfl, hc2⟩ := hu
  have h0 := cmpLF_zero l m
  have H0 := Lib.hid h0
  clear h0
  go_enter Try.func90, Try.ntmps90
  go_wp2
  go_loop [11] (fun i => ∃ k : Nat, k ≤ l.length ∧ i = .int .i64 k ∧ cmpL l m = cmpLF l m k) (fun i => l.length - (intOf i).toNat)
  case atStart => exact ⟨0, Nat.zero_le _, rfl, H0.out⟩
  case round =>
    clear H0
    obtain ⟨k, hk, rfl, hr⟩ := hrel
    have HR := Lib.hid hr
    clear hr
    by_cases hlt : k < l.length
    · have e1 := hc1 k hlt
      by_cases hlm : k < m.length
      · have e2 := hc2 k hlm
        cases hz : (cmpI (ix l k) (ix m k) != 0) with
        | true =>
          go_wp2_with (go_at_call 103; refine (cmpCompare_any _ _ _).mono ?_; rintro e w' ⟨rfl, rfl⟩)
          go_ret
          exact ⟨ret_int (by rw [HR.out, cmpLF_ne hlt hlm (by simpa using hz)]), rfl⟩
        | false =>
          go_wp2_with (go_at_call 103; refine (cmpCompare_any _ _ _).mono ?_; rintro e w' ⟨rfl, rfl⟩)
          go_round
          case rel => exact ⟨k + 1, by omega, by go_num, by rw [HR.out, cmpLF_eq hlt hlm (by simpa using hz)]⟩
          case measure => simp [intOf]; omega
      · go_wp2
        go_ret
        exact ⟨ret_int (by rw [HR.out, cmpLF_more hlt (by omega)]), rfl⟩
    · by_cases hlm : l.length < m.length
      · go_wp2
        go_ret
        exact ⟨ret_int (by rw [HR.out, cmpLF_less (by omega) (by omega)]), rfl⟩
      · go_wp2
        go_ret
        exact ⟨ret_int (by rw [HR.out, cmpLF_end (by omega) (by omega)]), rfl⟩

theorem compareTables1_any (l m : List Int) (v u : Value) (w : World) (hv : Ints w v l) (hu : Ints w u m) :
    Calls Try.prog 89 #[v, u] w fun e w' => e = .returned (.int .i64 (cmpL l m)) ∧ w = w' := by
  go_enter Try.func89, Try.ntmps89
  go_wp2_with (go_at_call 90; refine (slicesCompare_any l m _ _ _ hv hu).mono ?_; rintro e w' ⟨rfl, rfl⟩)
  go_ret
  exact ⟨rfl, rfl⟩

theorem callCompareTables1 (args : Array Value) (w : World) : (callFunc 89 args).run Try.prog w = .ok (.enter 89 args) w :=
  callFunc_enter Try.func89 (by kernel_rfl) rfl args w

theorem compareFunc_any (s t : List (List Int)) (v u : Value) (w : World) (hv : Rows w v s) (hu : Rows w u t) :
    Calls Try.prog 88 #[v, u, .func (.func 89) #[] #[]] w fun e w' => e = .returned (.int .i64 (cmpT s t)) ∧ w = w' := by
  obtain ⟨hl1, b1, o1, c1, rfl, hc1⟩ := hv
  obtain ⟨hl2, b2, o2, c2, rfl, hc2⟩ := hu
  have h0 := cmpTF_zero s t
  have H0 := Lib.hid h0
  clear h0
  have hcall := callCompareTables1
  go_enter Try.func88, Try.ntmps88
  go_wp2
  go_loop [13] (fun i => ∃ k : Nat, k ≤ s.length ∧ i = .int .i64 k ∧ cmpT s t = cmpTF s t k) (fun i => s.length - (intOf i).toNat)
  case atStart => exact ⟨0, Nat.zero_le _, rfl, H0.out⟩
  case round =>
    clear H0
    obtain ⟨k, hk, rfl, hr⟩ := hrel
    have HR := Lib.hid hr
    clear hr
    by_cases hlt : k < s.length
    · obtain ⟨d1, p1, q1, g1, i1, m1⟩ := hc1.get hlt
      have j1 := i1.ints m1 q1
      clear i1
      by_cases hlm : k < t.length
      · obtain ⟨d2, p2, q2, g2, i2, m2⟩ := hc2.get hlm
        have j2 := i2.ints m2 q2
        clear i2
        cases hz : (cmpL (row s k) (row t k) != 0) with
        | true =>
          go_wp2_with (refine (compareTables1_any (row s k) (row t k) _ _ _ j1 j2).mono ?_; rintro e w' ⟨rfl, rfl⟩)
          go_ret
          exact ⟨ret_int (by rw [HR.out, cmpTF_ne hlt hlm (by simpa using hz)]), rfl⟩
        | false =>
          go_wp2_with (refine (compareTables1_any (row s k) (row t k) _ _ _ j1 j2).mono ?_; rintro e w' ⟨rfl, rfl⟩)
          go_round
          case rel => exact ⟨k + 1, by omega, by go_num, by rw [HR.out, cmpTF_eq hlt hlm (by simpa using hz)]⟩
          case measure => simp [intOf]; omega
      · go_wp2
        go_ret
        exact ⟨ret_int (by rw [HR.out, cmpTF_more hlt (by omega)]), rfl⟩
    · by_cases hlm : s.length < t.length
      · go_wp2
        go_ret
        exact ⟨ret_int (by rw [HR.out, cmpTF_less (by omega) (by omega)]), rfl⟩
      · go_wp2
        go_ret
        exact ⟨ret_int (by rw [HR.out, cmpTF_end (by omega) (by omega)]), rfl⟩

theorem compareTables_any (s t : List (List Int)) (v u : Value) (w : World) (hv : Rows w v s) (hu : Rows w u t) :
    Calls Try.prog 74 #[v, u] w fun e w' => e = .returned (.int .i64 (cmpT s t)) ∧ w = w' := by
  go_enter Try.func74, Try.ntmps74
  go_wp2_with (go_at_call 88; refine (compareFunc_any s t _ _ _ hv hu).mono ?_; rintro e w' ⟨rfl, rfl⟩)
  go_ret
  exact ⟨rfl, rfl⟩

theorem equalTables_any (s t : List (List Int)) (v u : Value) (w : World) (hv : Rows w v s) (hu : Rows w u t) :
    Calls Try.prog 47 #[v, u] w fun e w' => e = .returned (.bool (eqTB s t)) ∧ w = w' := by
  have hb := cmpT_eqTB s t
  go_enter Try.func47, Try.ntmps47
  go_wp2_with (go_at_call 74; refine (compareTables_any s t _ _ _ hv hu).mono ?_; rintro e w' ⟨rfl, rfl⟩)
  go_ret
  exact ⟨ret_bool (by first | rfl | exact hb), rfl⟩
end Go.Proofs.Ytjbloenjphpngaa

/-
  Contracts: the table the other way round.
-/
namespace Go.Proofs.Ytjbloenjphpngaa
set_option linter.unusedVariables false
set_option linter.unusedSimpArgs false
open Go.RowKit

theorem transposed1_any (t : List (List Int)) (v : Value) (x y B : Nat) (w : World) (hB : w.cell? ⟨B, 0, none⟩ = some v) (hv : Rows w v t) (hT : TableOk t) (hx : x < t.length) (hy : y < t.length) :
    Calls Try.prog 71 #[.int .i64 x, .int .i64 y, .pointer (some ⟨B, 0, none⟩)] w fun e w' => e = .returned (.int .i64 (turnF t x y)) ∧ Ext w w' := by
  obtain ⟨hlen, b, o, c, rfl, hc⟩ := id hv
  obtain ⟨b1, o1, c1, hr, hc1, hl1⟩ := hc.get hy
  have f1 := hc1.ent (hT.len hy) hx
  rw [hT.len hy] at hr
  rw [turnF_def]
  go_enter Try.func71, Try.ntmps71
  go_wp2
  go_ret
  exact ⟨rfl, Ext.refl _⟩

theorem callTransposed1 (args : Array Value) (w : World) : (callFunc 71 args).run Try.prog w = .ok (.enter 71 args) w :=
  callFunc_enter Try.func71 (by kernel_rfl) rfl args w

theorem transposed_any (t : List (List Int)) (v : Value) (w : World) (hv : Rows w v t) (hT : TableOk t) :
    Calls Try.prog 44 #[v] w (NewT (turnT t) w) := by
  obtain ⟨hlen, b, o, c, rfl, hc⟩ := id hv
  have hx0 := ext_box w (.slice (some ⟨b, o, none⟩) t.length c) 24
  have b0 := cell_new w (.slice (some ⟨b, o, none⟩) t.length c) 24
  go_enter Try.func44, Try.ntmps44
  go_wp2_with fail
  refine (tableBy_any t.length (turnF t) 71 #[.pointer (some ⟨w.heap.size, 0, none⟩)] _ (by omega) callTransposed1 (fun w1 x y h1 hx hy => by
    rw [app21]
    exact transposed1_any t _ x y w.heap.size w1 (h1.cell b0) (hv.ext (hx0.trans h1)) hT hx hy)).mono ?_
  rintro e w1 ⟨b1, c1, rfl, ho, hx1⟩
  rw [← turnT_def] at ho ⊢
  go_wp2
  go_ret
  exact ⟨b1, c1, rfl, ho.mono (by simp) (Nat.le_refl _), hx0.trans hx1⟩

theorem l01Column_any (t : List (List Int)) (v : Value) (x : Nat) (w : World) (hv : Rows w v t) (hT : TableOk t) (hx : x < t.length) :
    Calls Try.prog 73 #[v, .int .i64 x] w fun e w' => ∃ b c, e = .returned (.slice (some ⟨b, 0, none⟩) t.length c) ∧ IntsAt w' b 0 (row (turnT t) x) ∧ w.heap.size ≤ b ∧ b < w'.heap.size ∧ Ext w w' := by
  obtain ⟨hlen, b, o, c, rfl, hc⟩ := id hv
  have hrl := length_row_turnT t x hx
  have HRL := Lib.hid hrl
  clear hrl
  go_enter Try.func73, Try.ntmps73
  go_wp2
  have hx0 : Ext w (w.alloc (.cells #[] 2)) := (Ext.refl _).alloc _
  have hg0 := GrowI.lit (e := 2) (base := w.heap.size) (w := w) (Nat.le_refl _)
  go_loopw [5, 6] (fun v y wr => ∃ j : Nat, j ≤ t.length ∧ y = .int .i64 j ∧ GrowI 2 w.heap.size wr v ((row (turnT t) x).take j) ∧ v ≠ .slice none 0 0 ∧ Ext w wr) (fun _ y _ => t.length - (intOf y).toNat)
  case atStart => exact ⟨0, Nat.zero_le _, rfl, hg0, by simp, hx0⟩
  case round =>
    clear hx0 hg0
    obtain ⟨j, hj, rfl, hi, hvr, hx2⟩ := hrel
    have HVR := Lib.hid hvr
    clear hvr
    by_cases hjl : j < t.length
    case neg =>
      have hta : (row (turnT t) x).take j = row (turnT t) x := List.take_of_length_le (by rw [HRL.out]; omega)
      rw [hta] at hi
      obtain ⟨br, cr, rfl, hri, hrb, hrb2⟩ := hi.row HVR.out
      rw [HRL.out]
      go_wp2
      go_ret
      exact ⟨br, cr, rfl, hri, hrb, hrb2, hx2⟩
    case pos =>
      obtain ⟨b1, o1, c1, hr, hc1, hl1⟩ := (hc.ext hx2).get hjl
      have f1 := hc1.ent (hT.len hjl) hx
      rw [hT.len hjl] at hr
      clear hc1
      have hlj : ((row (turnT t) x).take j).length = j := by rw [List.length_take, HRL.out]; omega
      have HLJ := Lib.hid hlj
      clear hlj
      go_wp2_with (at_builtin; refine wpList_append_int rfl _ _ 28 2 rfl Try.underlying28 infoInt w.heap.size _ _ rfl (hi.alloc _) _ _ rfl (cell_new _ _ _) (by rw [HLJ.out]; omega) (by have := hx2.size; simp; omega) ?_)
      intro v' w3 hi3 hgr hv3
      have hx3 : Ext w w3 := (hx2.trans (ext_box _ _ _)).grown hgr (hi.alloc _) (Nat.le_refl _)
      clear hgr
      go_wp2
      go_roundw
      case rel => exact ⟨j + 1, by omega, by go_num, by
        rw [take_ix _ _ (by rw [HRL.out]; exact hjl), ent_def, ent_turnT t x j hx hjl]; exact hi3, hv3, hx3⟩
      case measure => simp [intOf]; omega

theorem l01Turn_any (t : List (List Int)) (v : Value) (w : World) (hv : Rows w v t) (hT : TableOk t) :
    Calls Try.prog 46 #[v] w fun e w' => ∃ v, e = .returned v ∧ Rows w' v (turnT t) ∧ Ext w w' := by
  obtain ⟨hlen, b, o, c, rfl, hc⟩ := id hv
  have HLT := Lib.hid (length_turnT t)
  go_enter Try.func46, Try.ntmps46
  go_wp2
  have hx0 : Ext w (w.alloc (.cells #[] 28)) := (Ext.refl _).alloc _
  have hg0 := GrowT.lit (e := 28) (base := w.heap.size) (w := w) (Nat.le_refl _)
  go_loopw [3, 4] (fun v x wr => ∃ k : Nat, k ≤ t.length ∧ x = .int .i64 k ∧ GrowT 28 w.heap.size wr v ((turnT t).take k) ∧ v ≠ .slice none 0 0 ∧ Ext w wr) (fun _ x _ => t.length - (intOf x).toNat)
  case atStart => exact ⟨0, Nat.zero_le _, rfl, hg0, by simp, hx0⟩
  case round =>
    clear hx0 hg0
    obtain ⟨k, hk, rfl, hg, hv', hx⟩ := hrel
    have HV := Lib.hid hv'
    clear hv'
    by_cases hkl : k < t.length
    case neg =>
      go_wp2
      go_ret
      refine ⟨u3, rfl, ?_, hx⟩
      have : (turnT t).take k = turnT t := List.take_of_length_le (by rw [HLT.out]; omega)
      rw [this] at hg
      exact hg.rows (by rw [HLT.out]; omega) HV.out
    case pos =>
      have HO := Lib.hid hg.lt
      have HRL := Lib.hid (length_row_turnT t k hkl)
      obtain ⟨w2, rfl⟩ : ∃ w2 : World, w2 = wr := ⟨_, rfl⟩
      go_wp2_with fail
      refine (l01Column_any t _ k _ (hv.ext hx) hT hkl).mono ?_
      rintro e w3 ⟨br, cr, rfl, hri, hrb, hrb2, hx2⟩
      have hgw := hg.ext hx2
      have hne : some br ≠ u3.ownBlock := fun e => by have := HO.out br e.symm; omega
      have htl : ((turnT t).take k).length = k := by rw [List.length_take, HLT.out]; omega
      have HTL := Lib.hid htl
      clear htl hg
      go_wp2_with (at_builtin; refine wpList_append_row rfl _ _ 24 28 rfl Try.underlying24 infoSl w.heap.size _ _ rfl (hgw.ext (ext_box _ _ _)) _ br cr (row (turnT t) k) rfl (by rw [HRL.out]; exact cell_new _ _ _) (hri.ext (ext_box _ _ _)) (by rw [HRL.out]; omega) hne (by rw [HTL.out]; omega) (by have := hx.size; have := hx2.size; simp; omega) ?_)
      intro v' w4 hg3 hgr hv3
      have hx3 : Ext w w4 := (hx.trans (hx2.trans (ext_box _ _ _))).grown hgr (hgw.ext (ext_box _ _ _)).own.choose_spec (Nat.le_refl _)
      clear hgr hne hgw
      go_wp2
      go_roundw
      case rel => exact ⟨k + 1, by omega, by go_num, by rw [take_row _ _ (by rw [HLT.out]; exact hkl)]; exact hg3, hv3, hx3⟩
      case measure => simp [intOf]; omega
end Go.Proofs.Ytjbloenjphpngaa
