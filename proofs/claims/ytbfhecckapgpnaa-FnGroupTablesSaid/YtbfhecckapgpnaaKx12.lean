/-
  Contract of the program: is it the table of a group.
-/
import Derived.Test.YtbfhecckapgpnaaProg
import Derived.Test.YtbfhecckapgpnaaKx0
import Derived.Test.YtbfhecckapgpnaaKx2
import Derived.Test.YtbfhecckapgpnaaKx5
import Derived.Test.YtbfhecckapgpnaaKx11
import Derived.Test.YtbfhecckapgpnaaKx1
import Derived.Test.YtbfhecckapgpnaaKx8
import Derived.Test.YtbfhecckapgpnaaKx6
import Derived.Test.YtbfhecckapgpnaaKx10
import Derived.Test.YtbfhecckapgpnaaKx7
import Derived.Test.YtbfhecckapgpnaaKx3
namespace Go.Proofs.Ytbfhecckapgpnaa
set_option linter.unusedVariables false
set_option linter.unusedSimpArgs false
open Go.RowKit

set_option maxRecDepth 100000 in
theorem isGroupTable_any (t : List (List Int)) (v : Value) (w : World) (hv : Rows w v t) :
    Calls Try.prog 68 #[v] w fun e w' => e = .returned (.bool (groupB t)) ∧ Ext w w' := by
  by_cases hT : TableOk t
  case neg =>
    have hB := tableB_no hT
    go_enter Try.func68, Try.ntmps68
    go_wp2_with fail
    refine (IsTable_any t _ _ hv).mono ?_
    rintro e w1 ⟨rfl, hx1⟩
    go_wp2
    go_ret
    exact ⟨ret_bool (groupB_no (fun h => hT h.1)).symm, hx1⟩
  case pos =>
    have hB := tableB_yes hT
    cases hP : permRowsB t with
    | false =>
      go_enter Try.func68, Try.ntmps68
      go_wp2_with fail
      refine (IsTable_any t _ _ hv).mono ?_
      rintro e w1 ⟨rfl, hx1⟩
      go_wp2_with fail
      refine (permutationRows_any t _ _ (hv.ext hx1)).mono ?_
      rintro e w2 ⟨rfl, hx2⟩
      go_wp2
      go_ret
      exact ⟨ret_bool (groupB_no (fun h => absurd (permRowsB_iff.2 h.2.1) (by rw [hP]; simp))).symm, hx1.trans hx2⟩
    | true =>
    have hv' := hv
    obtain ⟨hlen, b, o, c, rfl, hc⟩ := hv
    have HT := Lib.hid hT
    have h1 := hT.1
    have h2 := hT.2.1
    clear hT
    have HP := Lib.hid (permRowsB_iff.1 hP)
    go_enter Try.func68, Try.ntmps68
    go_wp2_with fail
    refine (IsTable_any t _ _ hv').mono ?_
    rintro e w1 ⟨rfl, hx1⟩
    go_wp2_with fail
    refine (permutationRows_any t _ _ (hv'.ext hx1)).mono ?_
    rintro e w2 ⟨rfl, hx2⟩
    have hx := hx1.trans hx2
    clear hx1 hx2
    go_wp2
    clear hB hP
    go_loopw [16] (fun x wr => ∃ k : Nat, k ≤ t.length ∧ x = .int .i64 k ∧ UnitAssocTo t t.length k ∧ Ext w wr) (fun x _ => t.length - (intOf x).toNat)
    case atStart => exact ⟨0, Nat.zero_le _, rfl, UnitAssocTo.zero _ _, hx⟩
    case round =>
      clear hx
      obtain ⟨k, hk, rfl, hua, hx⟩ := hrel
      by_cases hlt : k < t.length
      case neg =>
        go_wp2
        go_ret
        exact ⟨ret_bool (groupB_yes ⟨HT.out, HP.out, hua.mono (by omega)⟩).symm, hx⟩
      case pos =>
        obtain ⟨b0, o0, c0, hr0, hc0, -⟩ := (hc.ext hx).head (by omega)
        obtain ⟨b1, o1, c1, hr, hc1, hl⟩ := (hc.ext hx).get hlt
        have hl0 := HT.out.len (x := 0) (by omega)
        have hl1 := HT.out.len hlt
        have e0 := hc0.ent hl0 hlt
        have e1 := hc1.ent0 hl1 (by omega)
        rw [hl0] at hr0
        rw [hl1] at hr
        clear hl0 hc0
        cases hu0 : (ent t 0 k != (k : Int)) with
        | true =>
          go_wp2
          go_ret
          exact ⟨ret_bool (groupB_no (fun h => absurd (h.2.2 k hlt).1.1 (by simpa using hu0))).symm, hx⟩
        | false =>
          cases hu1 : (ent t k 0 != (k : Int)) with
          | true =>
            go_wp2
            go_ret
            exact ⟨ret_bool (groupB_no (fun h => absurd (h.2.2 k hlt).1.2 (by simpa using hu1))).symm, hx⟩
          | false =>
            have hun : UnitAt t k := ⟨by simpa using hu0, by simpa using hu1⟩
            go_wp2
            clear hu0 hu1 e0 e1 hr0 hr hc1
            obtain ⟨w3, rfl⟩ : ∃ w1 : World, w1 = wr := ⟨_, rfl⟩
            go_loopw [39] (fun y wr => ∃ m : Nat, m ≤ t.length ∧ y = .int .i64 m ∧ AssocY t t.length k m ∧ Ext w wr) (fun y _ => t.length - (intOf y).toNat)
            case atStart => exact ⟨0, Nat.zero_le _, rfl, AssocY.zero _ _ _, hx⟩
            case round =>
              clear hx
              obtain ⟨m, hm, rfl, hay, hx⟩ := hrel
              by_cases hml : m < t.length
              case neg =>
                go_wp2
                go_roundw
                case rel => exact ⟨k + 1, by omega, by go_num, hua.succ hun (hay.mono (by omega)), hx⟩
                case measure => simp [intOf]; omega
              case pos =>
                go_wp2
                obtain ⟨w4, rfl⟩ : ∃ w1 : World, w1 = wr := ⟨_, rfl⟩
                go_loopw [44] (fun z wr => ∃ j : Nat, j ≤ t.length ∧ z = .int .i64 j ∧ AssocTo t k m j ∧ Ext w wr) (fun z _ => t.length - (intOf z).toNat)
                case atStart => exact ⟨0, Nat.zero_le _, rfl, AssocTo.zero _ _ _, hx⟩
                case round =>
                  clear hx
                  obtain ⟨j, hj, rfl, hato, hx⟩ := hrel
                  by_cases hjl : j < t.length
                  case neg =>
                    go_wp2
                    go_roundw
                    case rel => exact ⟨m + 1, by omega, by go_num, hay.succ (hato.mono (by omega)), hx⟩
                    case measure => simp [intOf]; omega
                  case pos =>
                    have bxy := HT.out.bd hlt hml
                    have byz := HT.out.bd hml hjl
                    have hcw := hc.ext hx
                    obtain ⟨b1, o1, c1, hr, hc1, -⟩ := hcw.get hlt
                    obtain ⟨b2, o2, c2, hrm, hc2, -⟩ := hcw.get hml
                    obtain ⟨b3, o3, c3, hrx, hc3, -⟩ := hcw.get (i := (ent t k m).toNat) (by omega)
                    have f1 := hc1.ent hl1 hml
                    have f2 := hc2.ent (HT.out.len hml) hjl
                    have f3 := hc1.ent (y := (ent t m j).toNat) hl1 (by omega)
                    have f4 := hc3.ent (HT.out.len (by omega)) hjl
                    clear hc1 hc2 hc3 hcw
                    rw [HT.out.len hml] at hrm
                    rw [HT.out.len hlt] at hr
                    rw [HT.out.len (x := (ent t k m).toNat) (by omega)] at hrx
                    cases ha : (ent t (ent t k m).toNat j != ent t k (ent t m j).toNat) with
                    | true =>
                      go_wp2
                      go_quiet (fail)
                      go_wp2
                      go_ret
                      exact ⟨ret_bool (groupB_no (fun h => absurd ((h.2.2 k hlt).2 m hml j hjl) (by simpa using ha))).symm, hx.drewN _⟩
                    | false =>
                      go_wp2
                      go_quiet (fail)
                      go_wp2
                      go_roundw
                      case rel => exact ⟨j + 1, by omega, by go_num, hato.succ (by simpa using ha), hx.drewN _⟩
                      case measure => simp [intOf]; omega

end Go.Proofs.Ytbfhecckapgpnaa

/-
  Contracts of IsGroup, reference and program.
-/
namespace Go.Proofs.Ytbfhecckapgpnaa
set_option linter.unusedVariables false
set_option linter.unusedSimpArgs false
open Go.RowKit

theorem IsGroup_impl (t : List (List Int)) (v : Value) (w : World) (hv : Rows w v t) :
    Calls Try.prog 26 #[.agg #[v]] w fun e w' => e = .returned (.bool (groupB t)) ∧ Ext w w' := by
  obtain ⟨hlen, b, o, c, rfl, hc⟩ := id hv
  clear hc
  have hx0 := ext_box w (.slice (some ⟨b, o, none⟩) t.length c) 32
  go_enter Try.func26, Try.ntmps26
  go_wp2_with fail
  refine (isGroupTable_any t _ _ (hv.ext hx0)).mono ?_
  rintro e w1 ⟨rfl, hx1⟩
  go_wp2
  go_ret
  exact ⟨rfl, hx0.trans hx1⟩

theorem IsGroup_spec (t : List (List Int)) (v : Value) (w : World) (hv : Rows w v t) :
    Calls Try.prog 27 #[.agg #[v]] w fun e w' => e = .returned (.bool (groupB t)) ∧ Ext w w' := by
  obtain ⟨hlen, b, o, c, rfl, hc⟩ := id hv
  clear hc
  have hx0 := ext_box w (.slice (some ⟨b, o, none⟩) t.length c) 32
  go_enter Try.func27, Try.ntmps27
  go_wp2_with fail
  refine (l10Is_any t _ _ (hv.ext hx0)).mono ?_
  rintro e w1 ⟨rfl, hx1⟩
  go_wp2
  go_ret
  exact ⟨rfl, hx0.trans hx1⟩
end Go.Proofs.Ytbfhecckapgpnaa

/-
  Contracts: the cyclic groups and those of two halves, by formulas: reference.
-/
namespace Go.Proofs.Ytbfhecckapgpnaa
set_option linter.unusedVariables false
set_option linter.unusedSimpArgs false
open Go.RowKit

/-- values of the cyclic group -/
@[irreducible] def cycF (n : Nat) (x y : Nat) : Int := ((x : Int) + (y : Int)) % (n : Int)

theorem cycF_def (n x y : Nat) : cycF n x y = ((x : Int) + (y : Int)) % (n : Int) := by unfold cycF; rfl
theorem take_row (t : List (List Int)) (k : Nat) (h : k < t.length) : t.take (k + 1) = t.take k ++ [row t k] := by
  rw [List.take_succ_eq_append_getElem h, row_eq]; simp [List.getD, h]
theorem take_ix (l : List Int) (k : Nat) (h : k < l.length) : l.take (k + 1) = l.take k ++ [ix l k] := by
  rw [List.take_succ_eq_append_getElem h, ix_eq]; simp [List.getD, h]

set_option maxRecDepth 100000 in
theorem l10Cyclic_any (n : Nat) (w : World) (h1 : 1 ≤ n) (h2 : n ≤ 12) :
    Calls Try.prog 116 #[.int .i64 n] w fun e w' => ∃ v, e = .returned v ∧ Rows w' v (mkT n (cycF n)) ∧ Ext w w' := by
  have hlt := length_mkT n (cycF n)
  have HLT := Lib.hid hlt
  clear hlt
  go_enter Try.func116, Try.ntmps116
  go_wp2
  have hx0 : Ext w (w.alloc (.cells #[] 45)) := (Ext.refl _).alloc _
  have hg0 := GrowT.lit (e := 45) (base := w.heap.size) (w := w) (Nat.le_refl _)
  go_loopw [3, 4] (fun v x wr => ∃ k : Nat, k ≤ n ∧ x = .int .i64 k ∧ GrowT 45 w.heap.size wr v ((mkT n (cycF n)).take k) ∧ v ≠ .slice none 0 0 ∧ Ext w wr) (fun _ x _ => n - (intOf x).toNat)
  case atStart => exact ⟨0, Nat.zero_le _, rfl, hg0, by simp, hx0⟩
  case round =>
    clear hx0 hg0
    obtain ⟨k, hk, rfl, hg, hv, hx⟩ := hrel
    have HV := Lib.hid hv
    clear hv
    by_cases hkl : k < n
    case neg =>
      go_wp2
      go_ret
      refine ⟨u3, rfl, ?_, hx⟩
      have : (mkT n (cycF n)).take k = mkT n (cycF n) := List.take_of_length_le (by rw [HLT.out]; omega)
      rw [this] at hg
      exact hg.rows (by rw [HLT.out]; omega) HV.out
    case pos =>
      go_wp2
      obtain ⟨w2, rfl⟩ : ∃ w2 : World, w2 = wr := ⟨_, rfl⟩
      have hxa : Ext w2 (w2.alloc (.cells #[] 2)) := (Ext.refl _).alloc _
      have hi0 := GrowI.lit (e := 2) (base := w2.heap.size) (w := w2) (Nat.le_refl _)
      have hrl : (row (mkT n (cycF n)) k).length = n := by rw [row_mkT _ _ _ hkl, length_partRow]
      have HRL := Lib.hid hrl
      have hout := hg.lt
      have HO := Lib.hid hout
      clear hrl hout
      go_loopw [5, 6] (fun v y wr => ∃ j : Nat, j ≤ n ∧ y = .int .i64 j ∧ GrowI 2 w2.heap.size wr v ((row (mkT n (cycF n)) k).take j) ∧ v ≠ .slice none 0 0 ∧ Ext w2 wr) (fun _ y _ => n - (intOf y).toNat)
      case atStart => exact ⟨0, Nat.zero_le _, rfl, hi0, by simp, hxa⟩
      case round =>
        clear hxa hi0
        obtain ⟨j, hj, rfl, hi, hvr, hx2⟩ := hrel
        have HVR := Lib.hid hvr
        clear hvr
        by_cases hjl : j < n
        case neg =>
          have hta : (row (mkT n (cycF n)) k).take j = row (mkT n (cycF n)) k := List.take_of_length_le (by rw [HRL.out]; omega)
          rw [hta] at hi
          obtain ⟨br, cr, rfl, hri, hrb, hrb2⟩ := hi.row HVR.out
          have hgw := hg.ext hx2
          have hne : some br ≠ u3.ownBlock := fun e => by have := HO.out br e.symm; omega
          have htl : ((mkT n (cycF n)).take k).length = k := by rw [List.length_take, HLT.out]; omega
          have HTL := Lib.hid htl
          clear htl hg
          go_wp2_with (at_builtin; refine wpList_append_row rfl _ _ 25 45 rfl Try.underlying25 infoSl w.heap.size _ _ rfl (hgw.ext (ext_box _ _ _)) _ br cr _ rfl (cell_new _ _ _) (hri.ext (ext_box _ _ _)) (by rw [HRL.out]; omega) hne (by rw [HTL.out]; omega) (by have := hx.size; have := hx2.size; simp; omega) ?_)
          intro v' w3 hg3 hgr hv3
          have hx3 : Ext w w3 := (hx.trans (hx2.trans (ext_box _ _ _))).grown hgr (hgw.ext (ext_box _ _ _)).own.choose_spec (Nat.le_refl _)
          clear hgr hne hgw
          go_wp2
          go_roundw
          case rel => exact ⟨k + 1, by omega, by go_num, by rw [take_row _ _ (by rw [HLT.out]; exact hkl)]; exact hg3, hv3, hx3⟩
          case measure => simp [intOf]; omega
        case pos =>
          have hlj : ((row (mkT n (cycF n)) k).take j).length = j := by rw [List.length_take, HRL.out]; omega
          have HLJ := Lib.hid hlj
          clear hlj
          have hmod := Int.emod_nonneg ((k : Int) + (j : Int)) (b := (n : Int)) (by omega)
          go_wp2_with (at_builtin; refine wpList_append_int rfl _ _ 45 2 rfl Try.underlying45 infoInt w2.heap.size _ _ rfl (hi.alloc _) _ _ rfl (cell_new _ _ _) (by rw [HLJ.out]; omega) (by have := hx2.size; simp; omega) ?_)
          intro v' w3 hi3 hgr hv3
          have hx3 : Ext w2 w3 := (hx2.trans (ext_box _ _ _)).grown hgr (hi.alloc _) (Nat.le_refl _)
          clear hgr
          go_wp2
          go_roundw
          case rel => exact ⟨j + 1, by omega, by go_num, by
            rw [take_ix _ _ (by rw [HRL.out]; exact hjl), row_mkT _ _ _ hkl, ix_partRow _ _ _ _ _ hjl, if_pos hjl]
            rw [row_mkT _ _ _ hkl, ← cycF_def n k j] at hi3
            exact hi3, hv3, hx3⟩
          case measure => simp [intOf]; omega
end Go.Proofs.Ytbfhecckapgpnaa

/-
  Contracts of the laws' own helpers at lists and tables that are results.
-/
namespace Go.Proofs.Ytbfhecckapgpnaa
set_option linter.unusedVariables false
set_option linter.unusedSimpArgs false
open Go.RowKit

/-- a list and a code are returned (reference) -/
def RetIC (l : List Int) (c : Int) (w : World) (e : Ending) (w' : World) : Prop := ∃ v, e = .returned (.tuple #[v, .int .i64 c]) ∧ IntsR w' v l ∧ Ext w w'
/-- a list, in new memory, and a code are returned (program) -/
def NewIC (l : List Int) (c : Int) (w : World) (e : Ending) (w' : World) : Prop := ∃ v, e = .returned (.tuple #[v, .int .i64 c]) ∧ OwnIV w.heap.size w'.heap.size w' v l ∧ Ext w w'
/-- a table and a code are returned (reference) -/
def RetTC (t : List (List Int)) (c : Int) (w : World) (e : Ending) (w' : World) : Prop := ∃ v, e = .returned (.tuple #[v, .int .i64 c]) ∧ RowsR w' v t ∧ Ext w w'
/-- a table, in new memory, and a code are returned (program) -/
def NewTC (t : List (List Int)) (c : Int) (w : World) (e : Ending) (w' : World) : Prop := ∃ v, e = .returned (.tuple #[v, .int .i64 c]) ∧ OwnV w.heap.size w'.heap.size w' v t ∧ Ext w w'

end Go.Proofs.Ytbfhecckapgpnaa

/-
  Contracts of OrderIn: reference and program.
-/
namespace Go.Proofs.Ytbfhecckapgpnaa
set_option linter.unusedVariables false
set_option linter.unusedSimpArgs false
open Go.RowKit

theorem l10Code_any (t : List (List Int)) (v : Value) (a : Int) (w : World) (hv : Rows w v t) :
    Calls Try.prog 67 #[.agg #[v], .int .i64 a] w fun e w' => e = .returned (.int .i64 (elemC t a)) ∧ Ext w w' := by
  obtain ⟨hlen, b, o, c, rfl, -⟩ := id hv
  have hx0 := ext_box w (.slice (some ⟨b, o, none⟩) t.length c) 32
  have b0 := cell_new w (.slice (some ⟨b, o, none⟩) t.length c) 32
  cases hg : groupB t with
  | false =>
    rw [elemC_1 hg]
    go_enter Try.func67, Try.ntmps67
    go_wp2_with fail
    refine (l10Is_any t _ _ (hv.ext hx0)).mono ?_
    rintro e w1 ⟨rfl, hx1⟩
    go_wp2
    go_ret
    exact ⟨rfl, hx0.trans hx1⟩
  | true =>
    cases hin : inR a 0 (t.length - 1) with
    | false =>
      rw [elemC_2 hg (inR_false.1 hin)]
      go_enter Try.func67, Try.ntmps67
      go_wp2_with fail
      refine (l10Is_any t _ _ (hv.ext hx0)).mono ?_
      rintro e w1 ⟨rfl, hx1⟩
      have b1 := hx1.cell b0
      go_wp2_with (go_at_call 42; refine (l01In_any _ _ _ _).mono ?_; rintro e w' ⟨rfl, rfl⟩)
      go_ret
      exact ⟨rfl, hx0.trans hx1⟩
    | true =>
      rw [elemC_0 hg (inR_iff.1 hin)]
      go_enter Try.func67, Try.ntmps67
      go_wp2_with fail
      refine (l10Is_any t _ _ (hv.ext hx0)).mono ?_
      rintro e w1 ⟨rfl, hx1⟩
      have b1 := hx1.cell b0
      go_wp2_with (go_at_call 42; refine (l01In_any _ _ _ _).mono ?_; rintro e w' ⟨rfl, rfl⟩)
      go_ret
      exact ⟨rfl, hx0.trans hx1⟩

theorem areElements_any (n : Nat) (l : List Int) (v : Value) (w : World) (hv : Ints w v l) (hn : n ≤ 1048576) :
    Calls Try.prog 66 #[.int .i64 n, v] w fun e w' => e = .returned (.bool (allInB l 0 (n - 1))) ∧ w = w' := by
  go_enter Try.func66, Try.ntmps66
  go_wp2_with (go_at_call 93; refine (allWithin_any l _ _ _ _ hv).mono ?_; rintro e w' ⟨rfl, rfl⟩)
  go_ret
  exact ⟨rfl, rfl⟩

theorem allInB_one (a lo hi : Int) : allInB [a] lo hi = inR a lo hi := by
  rw [Bool.eq_iff_iff, allInB_iff, inR_iff]
  have h0 : ix [a] 0 = a := by rw [ix_eq]; rfl
  constructor
  · intro h; have := h 0 (by simp); rwa [h0] at this
  · intro h i hi
    have : i = 0 := by simp at hi; omega
    subst this; rw [h0]; exact h

set_option maxRecDepth 100000 in
theorem OrderIn_spec (t : List (List Int)) (v : Value) (a : Int) (w : World) (hv : Rows w v t) :
    Calls Try.prog 25 #[.agg #[v], .int .i64 a] w (RetII (ordInV t a) (elemC t a) w) := by
  obtain ⟨hlen, b, o, c, rfl, hc⟩ := id hv
  have hx0 := ext_box w (.slice (some ⟨b, o, none⟩) t.length c) 32
  have b0 := cell_new w (.slice (some ⟨b, o, none⟩) t.length c) 32
  cases hz : (elemC t a != 0) with
  | true =>
    rw [ordInV_bad (by simpa using hz)]
    go_enter Try.func25, Try.ntmps25
    go_wp2_with fail
    refine (l10Code_any t _ _ _ (hv.ext hx0)).mono ?_
    rintro e w1 ⟨rfl, hx1⟩
    go_wp2
    go_ret2
    exact ⟨rfl, hx0.trans hx1⟩
  | false =>
    have hz' : elemC t a = 0 := by simpa using hz
    have hg : groupB t = true := by
      cases hg : groupB t with
      | true => rfl
      | false => rw [elemC_1 hg] at hz'; omega
    have hb : 0 ≤ a ∧ a ≤ (t.length : Int) - 1 := by
      apply Classical.byContradiction
      intro hb; rw [elemC_2 hg hb] at hz'; omega
    obtain ⟨x, rfl⟩ := Int.eq_ofNat_of_zero_le hb.1
    rw [ordInV_good hz']
    have hG := groupB_iff.1 hg
    obtain ⟨d, hd, ho, hpz, hpn⟩ := ordOf_spec hG (x := x) (by omega)
    rw [ho]
    have HG := Lib.hid hG
    have HPZ := Lib.hid hpz
    have HPN := Lib.hid hpn
    have h12 := hG.1.2.1
    rw [hz']
    have HZ := Lib.hid hz'
    clear hG hpz hpn hg ho hz hz'
    go_enter Try.func25, Try.ntmps25
    go_wp2_with fail
    refine (l10Code_any t _ _ _ (hv.ext hx0)).mono ?_
    rintro e w1 ⟨rfl, hx1⟩
    rw [HZ.out]
    have b1 := hx1.cell b0
    have hx := hx0.trans hx1
    clear b0
    go_wp2
    go_loop [7, 8] (fun k y => ∃ m : Nat, m ≤ d ∧ k = .int .i64 (m + 1) ∧ y = .int .i64 (pw t x m)) (fun k _ => d + 1 - (intOf k).toNat)
    case atStart => exact ⟨0, Nat.zero_le _, by rfl, rfl⟩
    case round =>
      obtain ⟨m, hm, rfl, rfl⟩ := hrel
      by_cases hmd : m = d
      case pos =>
        subst hmd
        have hpb : (pw t x m != 0) = false := by rw [HPZ.out]; rfl
        go_wp2
        go_ret2
        exact ⟨rfl, hx⟩
      case neg =>
        have hpb : (pw t x m != 0) = true := by simpa using HPN.out m (by omega)
        have hbd := pw_bd HG.out.1 (x := x) (by omega) m
        obtain ⟨b1', o1, c1, hr, hc1, -⟩ := (hc.ext hx).get (i := (pw t x m).toNat) (by omega)
        have f1 := hc1.ent (y := x) (HG.out.1.len (by omega)) (by omega)
        have hpw : ent t (pw t x m).toNat x = pw t x (m + 1) := rfl
        rw [hpw] at f1
        rw [HG.out.1.len (by omega)] at hr
        clear hc1 hpw
        go_wp2
        go_round
        case rel => exact ⟨m + 1, by omega, by go_num, rfl⟩
        case measure => simp [intOf]; omega

set_option maxRecDepth 100000 in
theorem OrderIn_impl (t : List (List Int)) (v : Value) (a : Int) (w : World) (hv : Rows w v t) :
    Calls Try.prog 24 #[.agg #[v], .int .i64 a] w (RetII (ordInV t a) (elemC t a) w) := by
  obtain ⟨hlen, b, o, c, rfl, hc⟩ := id hv
  have hx0 := ext_box w (.slice (some ⟨b, o, none⟩) t.length c) 32
  have b0 := cell_new w (.slice (some ⟨b, o, none⟩) t.length c) 32
  cases hg : groupB t with
  | false =>
    rw [ordInV_bad (by rw [elemC_1 hg]; omega), elemC_1 hg]
    go_enter Try.func24, Try.ntmps24
    go_wp2_with fail
    refine (IsGroup_impl t _ _ (hv.ext hx0)).mono ?_
    rintro e w1 ⟨rfl, hx1⟩
    go_wp2
    go_ret2
    exact ⟨rfl, hx0.trans hx1⟩
  | true =>
    cases hin : inR a 0 (t.length - 1) with
    | false =>
      rw [ordInV_bad (by rw [elemC_2 hg (inR_false.1 hin)]; omega), elemC_2 hg (inR_false.1 hin)]
      go_enter Try.func24, Try.ntmps24
      go_wp2_with fail
      refine (IsGroup_impl t _ _ (hv.ext hx0)).mono ?_
      rintro e w1 ⟨rfl, hx1⟩
      have b1 := hx1.cell b0
      have hal : allInB [a] 0 (t.length - 1) = false := by rw [allInB_one]; exact hin
      go_wp2_with fail
      refine (areElements_any t.length [a] _ _ ⟨by simp, _, _, 1, rfl, fun i hi => by
        have : i = 0 := by simp at hi; omega
        subst this; rw [ix_eq]; simp⟩ hlen).mono ?_
      rintro e w2 ⟨rfl, rfl⟩
      go_wp2
      go_ret2
      exact ⟨rfl, (hx0.trans hx1).alloc _⟩
    | true =>
      have hb := inR_iff.1 hin
      obtain ⟨x, rfl⟩ := Int.eq_ofNat_of_zero_le (a := a) (by omega)
      have hz' := elemC_0 hg hb
      rw [ordInV_good hz', hz']
      have hG := groupB_iff.1 hg
      obtain ⟨d, hd, ho, hpz, hpn⟩ := ordOf_spec hG (x := x) (by omega)
      rw [ho]
      have HG := Lib.hid hG
      have HPZ := Lib.hid hpz
      have HPN := Lib.hid hpn
      have h12 := hG.1.2.1
      clear hG hpz hpn ho hz'
      go_enter Try.func24, Try.ntmps24
      go_wp2_with fail
      refine (IsGroup_impl t _ _ (hv.ext hx0)).mono ?_
      rintro e w1 ⟨rfl, hx1⟩
      have b1 := hx1.cell b0
      have hx := hx0.trans hx1
      have hal : allInB [(x : Int)] 0 (t.length - 1) = true := by rw [allInB_one]; exact hin
      clear b0
      go_wp2_with fail
      refine (areElements_any t.length [(x : Int)] _ _ ⟨by simp, _, _, 1, rfl, fun i hi => by
        have : i = 0 := by simp at hi; omega
        subst this; rw [ix_eq]; simp⟩ hlen).mono ?_
      rintro e w2 ⟨rfl, rfl⟩
      have hx2 : Ext w1 (w1.alloc (.cells #[.int .i64 x] 2)) := (Ext.refl _).alloc _
      have b2 := hx2.cell b1
      have hxx := hx.trans hx2
      clear hx hx2 b1 hin
      go_wp2
      go_loop [6, 7] (fun k y => ∃ m : Nat, m ≤ d ∧ k = .int .i64 (m + 1) ∧ y = .int .i64 (pw t x m)) (fun k _ => d + 1 - (intOf k).toNat)
      case atStart => exact ⟨0, Nat.zero_le _, by rfl, rfl⟩
      case round =>
        obtain ⟨m, hm, rfl, rfl⟩ := hrel
        by_cases hmd : m = d
        case pos =>
          subst hmd
          have hpb : (pw t x m != 0) = false := by rw [HPZ.out]; rfl
          go_wp2
          go_ret2
          exact ⟨rfl, hxx⟩
        case neg =>
          have hpb : (pw t x m != 0) = true := by simpa using HPN.out m (by omega)
          have hbd := pw_bd HG.out.1 (x := x) (by omega) m
          obtain ⟨b1', o1, c1, hr, hc1, -⟩ := (hc.ext hxx).get (i := (pw t x m).toNat) (by omega)
          have f1 := hc1.ent (y := x) (HG.out.1.len (by omega)) (by omega)
          have hpw : ent t (pw t x m).toNat x = pw t x (m + 1) := rfl
          rw [hpw] at f1
          rw [HG.out.1.len (by omega)] at hr
          clear hc1 hpw
          go_wp2
          go_round
          case rel => exact ⟨m + 1, by omega, by go_num, rfl⟩
          case measure => simp [intOf]; omega
end Go.Proofs.Ytbfhecckapgpnaa

/-
  Contracts: the index of a number, inverses.
-/
namespace Go.Proofs.Ytbfhecckapgpnaa
set_option linter.unusedVariables false
set_option linter.unusedSimpArgs false
open Go.RowKit

theorem slicesIndex_any (l : List Int) (v : Value) (n : Int) (w : World) (hv : Ints w v l) :
    Calls Try.prog 101 #[v, .int .i64 n] w fun e w' => e = .returned (.int .i64 (indexOf l n)) ∧ w = w' := by
  obtain ⟨hlen, b, o, c, rfl, hc⟩ := hv
  go_enter Try.func101, Try.ntmps101
  go_wp2
  go_loop [8] (fun i => ∃ k : Nat, k ≤ l.length ∧ i = .int .i64 k ∧ indexOf l n = indexFrom n (l.drop k) k) (fun i => l.length - (intOf i).toNat)
  case atStart => exact ⟨0, Nat.zero_le _, rfl, by unfold indexOf; rfl⟩
  case round =>
    obtain ⟨k, hk, rfl, hr⟩ := hrel
    have Hr := Lib.hid hr
    clear hr
    by_cases hlt : k < l.length
    · have hcell := hc k hlt
      by_cases he : (n == ix l k) = true
      · go_wp2
        go_ret
        exact ⟨ret_int (by rw [Hr.out, indexFrom_hit l n k hlt (eq_of_beq he).symm]), rfl⟩
      · have he' : (n == ix l k) = false := by simpa using he
        have hne : ¬ ix l k = n := fun h => he (by rw [h]; exact beq_self_eq_true n)
        have HN := Lib.hid hne
        clear he hne
        go_wp2
        go_round
        case rel => exact ⟨k + 1, by omega, by go_num, by rw [Hr.out, indexFrom_miss l n k hlt HN.out]⟩
        case measure => simp [intOf]; omega
    · go_wp2
      go_ret
      exact ⟨ret_int (by rw [Hr.out, indexFrom_end l n k (by omega)]), rfl⟩

theorem indexIn_any (l : List Int) (v : Value) (n : Int) (w : World) (hv : Ints w v l) :
    Calls Try.prog 81 #[v, .int .i64 n] w fun e w' => e = .returned (.int .i64 (indexOf l n)) ∧ w = w' := by
  go_enter Try.func81, Try.ntmps81
  go_wp2_with (go_at_call 101; refine (slicesIndex_any l _ _ _ hv).mono ?_; rintro e w' ⟨rfl, rfl⟩)
  go_ret
  exact ⟨rfl, rfl⟩

theorem l10Back_any (t : List (List Int)) (v : Value) (x : Nat) (w : World) (hv : Rows w v t) (hx : x < t.length) :
    Calls Try.prog 58 #[v, .int .i64 x] w fun e w' => e = .returned (.int .i64 (backF t x)) ∧ w = w' := by
  obtain ⟨hlen, b, o, c, rfl, hc⟩ := id hv
  obtain ⟨b1, o1, c1, hr, hc1, hl1⟩ := hc.get hx
  go_enter Try.func58, Try.ntmps58
  go_wp2_with (go_at_call 89; refine (l01Index_any (row t x) _ _ _ (hc1.ints hl1 c1)).mono ?_; rintro e w' ⟨rfl, rfl⟩; rw [backF_def])
  go_ret
  exact ⟨rfl, rfl⟩

theorem groupInverses_any (t : List (List Int)) (v : Value) (w : World) (hv : Rows w v t) :
    Calls Try.prog 47 #[v] w fun e w' => ∃ b c, e = .returned (.slice (some ⟨b, 0, none⟩) t.length c) ∧ IntsAt w' b 0 (backs t) ∧ Ext w w' := by
  obtain ⟨hlen, b, o, c, rfl, hc⟩ := id hv
  have hmk := run_make_row' (P := Try.prog) 45 2 (.int .i64 0) 8 Try.underlying45 infoInt rfl .i64 .i64 t.length (by omega) (by omega)
  go_enter Try.func47, Try.ntmps47
  go_wp2_with fail
  clear hmk
  have hx0 : Ext w (w.alloc (.cells (madeCells #[Value.int .i64 0] t.length) 2)) := (Ext.refl _).alloc _
  have hr0 := World.rowIs_made w (.int .i64 0) t.length 2
  go_loopw [11] (fun i wr => ∃ k : Nat, k ≤ t.length ∧ i = .int .i64 k ∧ wr.rowIs w.heap.size 2 t.length (fun i => .int .i64 (copyTo (backs t) k i)) ∧ Ext w wr) (fun i _ => t.length - (intOf i).toNat)
  case atStart => exact ⟨0, Nat.zero_le _, rfl, hr0.congr (fun i hi => by rw [copyTo_zero]), hx0⟩
  case round =>
    clear hx0 hr0
    obtain ⟨k, hk, rfl, hrow, hx⟩ := hrel
    by_cases hlt : k < t.length
    · obtain ⟨b1, o1, c1, hr, hc1, hl1⟩ := (hc.ext hx).get hlt
      have e2 := hrow.cell hlt
      have e3 := hrow.frozen k
      go_wp2_with (go_at_call 81; refine (indexIn_any (row t k) _ _ _ (hc1.ints hl1 c1)).mono ?_; rintro e w' ⟨rfl, rfl⟩; rw [backF_def])
      go_roundw
      case rel => exact ⟨k + 1, by omega, by go_num, (hrow.set k (.int .i64 (backF t k))).congr (fun i hi => by rw [copyTo_succ, ix_backs _ _ hlt]; split <;> rfl), hx.setNew (Nat.le_refl _) _⟩
      case measure => simp [intOf]; omega
    · go_wp2
      go_ret
      have hkk : k = t.length := by omega
      exact ⟨w.heap.size, t.length, rfl, fun i hi => by
        rw [length_backs] at hi
        rw [Nat.zero_add, hrow.cell hi, copyTo_all _ _ _ (by omega)], hx⟩

end Go.Proofs.Ytbfhecckapgpnaa

/-
  Contracts: sets of elements, subgroups.
-/
namespace Go.Proofs.Ytbfhecckapgpnaa
set_option linter.unusedVariables false
set_option linter.unusedSimpArgs false
open Go.RowKit

theorem hasBit_any (m x : Nat) (w : World) (hx : x ≤ 62) : Calls Try.prog 94 #[.int .i64 m, .int .i64 x] w fun e w' => e = .returned (.bool (bitB m x)) ∧ w = w' := by
  go_enter Try.func94, Try.ntmps94
  go_wp2
  go_ret
  exact ⟨ret_bool (bitB_def m x), rfl⟩

theorem hasBit_ent (m : Nat) (a : Int) (w : World) (h0 : 0 ≤ a) (hx : a ≤ 62) : Calls Try.prog 94 #[.int .i64 m, .int .i64 a] w fun e w' => e = .returned (.bool (bitB m a.toNat)) ∧ w = w' := by
  obtain ⟨x, rfl⟩ := Int.eq_ofNat_of_zero_le h0
  rw [Int.toNat_natCast]
  exact hasBit_any m x w (by omega)

theorem pos_of_bit {m k : Nat} (h : bitB m k = true) (hm : m < 2 ^ 62) : 0 < (m : Int) / 2 ^ k := by
  rw [bitB_test hm] at h
  have := Nat.ge_two_pow_of_testBit h
  have h2 : 0 < m / 2 ^ k := Nat.div_pos this (Nat.two_pow_pos _)
  rw [cast_div_pow]
  omega
theorem lt_of_not_pos {m k : Nat} (h : ¬ 0 < (m : Int) / 2 ^ k) : m < 2 ^ k := by
  rw [cast_div_pow] at h
  have h2 : m / 2 ^ k = 0 := Nat.eq_zero_of_not_pos (fun h3 => h (Int.natCast_pos.2 h3))
  rcases (Nat.div_eq_zero_iff).1 h2 with h3 | h3
  · have := Nat.two_pow_pos k; omega
  · exact h3
theorem k_lt_of_pos {m k : Nat} (h : 0 < (m : Int) / 2 ^ k) (hm : m < 2 ^ 62) : k < 62 := by
  apply Classical.byContradiction
  intro hk
  have h1 : m < 2 ^ k := Nat.lt_of_lt_of_le hm (Nat.pow_le_pow_right (by decide) (by omega))
  rw [cast_div_pow, Nat.div_eq_of_lt h1] at h
  simp at h

set_option maxRecDepth 100000 in
theorem elementsOf_any (m : Nat) (w : World) (hm : m < 2 ^ 62) :
    Calls Try.prog 95 #[.int .i64 m] w fun e w' => ∃ v, e = .returned v ∧ IntsR w' v (elemsL m) ∧ Ext w w' := by
  have HM := Lib.hid hm
  clear hm
  go_enter Try.func95, Try.ntmps95
  go_wp2
  go_loopw [3, 4] (fun v x wr => ∃ k : Nat, k ≤ 62 ∧ x = .int .i64 k ∧ GrowI 2 w.heap.size wr v (elemsTo m k) ∧ Ext w wr) (fun _ x _ => 62 - (intOf x).toNat)
  case atStart => exact ⟨0, by omega, rfl, by rw [elemsTo_zero]; exact GrowI.nil _ _ _, Ext.refl _⟩
  case round =>
    obtain ⟨k, hk, rfl, hg, hx⟩ := hrel
    have hlen := elemsTo_len m k
    by_cases hp : 0 < (m : Int) / 2 ^ k
    case neg =>
      have HL := Lib.hid (elemsL_eq (lt_of_not_pos hp) hk)
      have hs := (hg.ownIV (hi := wr.heap.size) (by omega) (Nat.le_refl _)).toR
      go_wp2
      go_ret
      exact ⟨u3, rfl, by rw [HL.out]; exact hs, hx⟩
    case pos =>
      have hk2 := k_lt_of_pos hp HM.out
      cases hb : bitB m k with
      | false =>
        go_wp2_with (go_at_call 94; refine (hasBit_any m k _ (by omega)).mono ?_; rintro e w' ⟨rfl, rfl⟩; rw [hb])
        go_roundw
        case rel => exact ⟨k + 1, by omega, by go_num, by rw [elemsTo_no hb]; exact hg, hx⟩
        case measure => simp [intOf]; omega
      | true =>
        go_wp2_with (first | (go_at_call 94; refine (hasBit_any m k _ (by omega)).mono ?_; rintro e w' ⟨rfl, rfl⟩; rw [hb]) | (at_builtin; refine wpList_append_int rfl _ _ 45 2 rfl Try.underlying45 infoInt w.heap.size _ _ rfl (hg.alloc _) _ _ rfl (cell_new _ _ _) (by omega) (by have := hx.size; simp; omega) ?_))
        intro v' w3 hi3 hgr hv3
        have hx3 : Ext w w3 := (hx.trans (ext_box _ _ _)).grown hgr (hg.alloc _) (Nat.le_refl _)
        clear hgr hg
        go_wp2
        go_roundw
        case rel => exact ⟨k + 1, by omega, by go_num, by rw [elemsTo_yes hb]; exact hi3, hx3⟩
        case measure => simp [intOf]; omega

set_option maxRecDepth 100000 in
theorem isSubgroup_any (t : List (List Int)) (v : Value) (m : Nat) (w : World) (hv : Rows w v t) (hT : TableOk t) (hm : m < 2 ^ t.length) :
    Calls Try.prog 69 #[v, .int .i64 m] w fun e w' => e = .returned (.bool (subB t m)) ∧ Ext w w' := by
  obtain ⟨hlen, b, o, c, rfl, hc⟩ := id hv
  have h12 := hT.2.1
  have H62 := Lib.hid (lt62 h12 hm)
  have HT := Lib.hid hT
  have HM := Lib.hid hm
  clear hm hT
  cases hb0 : bitB m 0 with
  | false =>
    rw [subB_0 hb0]
    have h0 := hasBit_any m 0
    go_enter Try.func69, Try.ntmps69
    go_wp2_with (go_at_call 94; refine (hasBit_any m 0 _ (by omega)).mono ?_; rintro e w' ⟨rfl, rfl⟩; rw [hb0])
    go_ret
    exact ⟨rfl, Ext.refl _⟩
  | true =>
    rw [subB_1 hb0]
    have HE := Lib.hid (fun i (h : i < (elemsL m).length) => elemsL_get (k := t.length) HM.out (by omega) h)
    go_enter Try.func69, Try.ntmps69
    go_wp2_with (go_at_call 94; refine (hasBit_any m 0 _ (by omega)).mono ?_; rintro e w' ⟨rfl, rfl⟩; rw [hb0])
    go_wp2_with fail
    refine (elementsOf_any m _ H62.out).mono ?_
    rintro e w1 ⟨v1, rfl, hr1, hx1⟩
    obtain ⟨a1, c1, rfl, hr⟩ := hr1
    have HR := Lib.hid hr
    clear hr hb0
    have hcw := hc.ext hx1
    have hlL := elemsL_len m
    clear hc
    go_wp2
    go_loop [17] (fun i => ∃ k : Nat, k ≤ (elemsL m).length ∧ i = .int .i64 k ∧ MemTo t m k) (fun i => (elemsL m).length - (intOf i).toNat)
    case atStart => exact ⟨0, Nat.zero_le _, rfl, MemTo.zero _ _⟩
    case round =>
      obtain ⟨k, hk, rfl, hmt⟩ := hrel
      by_cases hkl : k < (elemsL m).length
      case neg =>
        go_wp2
        go_ret
        have hkk : k = (elemsL m).length := by omega
        subst hkk
        exact ⟨ret_bool (hmt.closed HM.out h12).symm, hx1⟩
      case pos =>
        obtain ⟨gb, go', rfl, hgi⟩ := HR.out (ne_nil_of_lt hkl)
        obtain ⟨x, hx, bx, ex⟩ := HE.out k hkl
        have e1 := hgi k hkl
        rw [ex] at e1
        have EX := Lib.hid ex
        have HG := Lib.hid hgi
        clear ex hgi
        go_wp2
        go_loop [23] (fun i => ∃ j : Nat, j ≤ (elemsL m).length ∧ i = .int .i64 j ∧ MemRow t m x j) (fun i => (elemsL m).length - (intOf i).toNat)
        case atStart => exact ⟨0, Nat.zero_le _, rfl, MemRow.zero _ _ _⟩
        case round =>
          obtain ⟨j, hj, rfl, hmr⟩ := hrel
          by_cases hjl : j < (elemsL m).length
          case neg =>
            go_wp2
            go_round
            case rel => exact ⟨k + 1, by omega, by go_num, hmt.succ (by rw [EX.out, Int.toNat_natCast]; exact hmr.mono (by omega))⟩
            case measure => simp [intOf]; omega
          case pos =>
            obtain ⟨y, hy, bY, ey⟩ := HE.out j hjl
            have e2 := HG.out j hjl
            rw [ey] at e2
            have EY := Lib.hid ey
            clear ey
            obtain ⟨d1, s1, m1, r1, l1, -⟩ := hcw.get hx
            have f1 := l1.ent (HT.out.len hx) hy
            have bd := HT.out.bd hx hy
            rw [HT.out.len hx] at r1
            clear l1
            have HBX := Lib.hid bx
            have HBY := Lib.hid bY
            clear bY
            cases hb : bitB m (ent t x y).toNat with
            | false =>
              go_wp2_with (go_at_call 94; refine (hasBit_ent m (ent t x y) _ (by omega) (by omega)).mono ?_; rintro e w' ⟨rfl, rfl⟩; rw [hb])
              go_ret
              exact ⟨ret_bool (MemTo.open hx hy HBX.out HBY.out hb).symm, hx1⟩
            | true =>
              go_wp2_with (go_at_call 94; refine (hasBit_ent m (ent t x y) _ (by omega) (by omega)).mono ?_; rintro e w' ⟨rfl, rfl⟩; rw [hb])
              go_round
              case rel => exact ⟨j + 1, by omega, by go_num, hmr.succ (by rw [EY.out, Int.toNat_natCast]; exact hb)⟩
              case measure => simp [intOf]; omega

end Go.Proofs.Ytbfhecckapgpnaa

/-
  Contracts: all subgroups.
-/
namespace Go.Proofs.Ytbfhecckapgpnaa
set_option linter.unusedVariables false
set_option linter.unusedSimpArgs false
open Go.RowKit

theorem wrapPow {n : Nat} (h : n ≤ 12) : wrap64 (2 ^ n) = ((2 ^ n : Nat) : Int) := by
  have := pow12 h
  have hc : ((2 : Int) ^ n) = ((2 ^ n : Nat) : Int) := by simp
  rw [hc]
  clear hc
  generalize 2 ^ n = P at this
  exact IntWalk.wrap64_in _ (by omega)
theorem even_pow {n : Nat} (h : 1 ≤ n) : 2 ^ n % 2 = 0 := by
  obtain ⟨m, rfl⟩ : ∃ m, n = m + 1 := ⟨n - 1, by omega⟩
  rw [Nat.pow_succ]; omega

set_option maxRecDepth 100000 in
theorem SubgroupsOf_impl (t : List (List Int)) (v : Value) (w : World) (hv : Rows w v t) :
    Calls Try.prog 28 #[.agg #[v]] w (NewIC (ifG t (subsL t) []) (codeG t) w) := by
  obtain ⟨hlen, b, o, c, rfl, hc⟩ := id hv
  have hx0 := ext_box w (.slice (some ⟨b, o, none⟩) t.length c) 32
  have b0 := cell_new w (.slice (some ⟨b, o, none⟩) t.length c) 32
  cases hg : groupB t with
  | false =>
    rw [ifG_no hg, codeG_no hg]
    go_enter Try.func28, Try.ntmps28
    go_wp2_with fail
    refine (IsGroup_impl t _ _ (hv.ext hx0)).mono ?_
    rintro e w1 ⟨rfl, hx1⟩
    rw [hg]
    go_wp2
    go_ret2
    exact ⟨_, rfl, OwnIV.nil _ _ _, hx0.trans hx1⟩
  | true =>
    have hG := groupB_iff.1 hg
    have hT := hG.1
    have h12 := hT.2.1
    have hp := pow12 h12
    have h1p := Nat.two_pow_pos t.length
    have HT := Lib.hid hT
    rw [ifG_yes hg, codeG_yes hg, subsL_def]
    have HW := Lib.hid (wrapPow h12)
    obtain ⟨P, hP⟩ : ∃ P : Nat, P = 2 ^ t.length := ⟨_, rfl⟩
    rw [← hP] at hp h1p ⊢
    have HP := Lib.hid hP
    have hw : wrap64 (2 ^ t.length) = (P : Int) := by rw [HW.out, hP]
    clear hP hT hG
    go_enter Try.func28, Try.ntmps28
    go_wp2_with fail
    refine (IsGroup_impl t _ _ (hv.ext hx0)).mono ?_
    rintro e w1 ⟨rfl, hx1⟩
    rw [hg]
    have b1 := hx1.cell b0
    have hX := hx0.trans hx1
    have zX := hX.size
    clear hg hx0 hx1 b0
    go_wp2
    go_loopw [4, 5] (fun v x wr => ∃ k : Nat, 1 ≤ k ∧ k ≤ P ∧ x = .int .i64 k ∧ GrowI 2 w1.heap.size wr v (subsTo (subB t) k) ∧ Ext w1 wr) (fun _ x _ => P - (intOf x).toNat)
    case atStart =>
      exact ⟨1, by omega, by omega, rfl, by rw [subsTo_no (subB_even (by decide) rfl), subsTo_zero]; exact GrowI.nil _ _ _, Ext.refl _⟩
    case round =>
      obtain ⟨k, hk1, hk, rfl, hg, hx⟩ := hrel
      have b2 := hx.cell b1
      have hln := subsTo_len (subB t) k
      by_cases hkl : k < P
      case neg =>
        have hkk : k = P := by omega
        subst hkk
        have hsl := hg.ownIV (hi := wr.heap.size) (by omega) (Nat.le_refl _)
        go_wp2
        go_ret2
        exact ⟨u4, rfl, hsl.mono zX (Nat.le_refl _), hX.trans hx⟩
      case pos =>
        have HM : Hid (k < 2 ^ t.length) := Lib.hid (by rw [← HP.out]; exact hkl)
        cases hcl : subB t k with
        | false =>
          go_wp2_with fail
          refine (isSubgroup_any t _ k _ (hv.ext (hX.trans hx)) HT.out HM.out).mono ?_
          rintro e w2 ⟨rfl, hx2⟩
          rw [hcl]
          have hx3 := hx.trans hx2
          have hg3 := hg.ext hx2
          go_wp2
          go_roundw
          case rel => exact ⟨k + 1, by omega, by omega, by go_num, by rw [subsTo_no hcl]; exact hg3, hx3⟩
          case measure => simp [intOf]; omega
        | true =>
          go_wp2_with fail
          refine (isSubgroup_any t _ k _ (hv.ext (hX.trans hx)) HT.out HM.out).mono ?_
          rintro e w2 ⟨rfl, hx2⟩
          rw [hcl]
          have hx3 := hx.trans hx2
          have hg3 := hg.ext hx2
          go_wp2_with (at_builtin; refine wpList_append_int rfl _ _ 45 2 rfl Try.underlying45 infoInt w1.heap.size _ _ rfl (hg3.alloc _) _ _ rfl (cell_new _ _ _) (by omega) (by have := hx3.size; simp; omega) ?_)
          intro v' w4 hi4 hgr hv4
          have hx4 : Ext w1 w4 := (hx3.trans (ext_box _ _ _)).grown hgr (hg3.alloc _) (Nat.le_refl _)
          clear hgr hg
          go_wp2
          go_roundw
          case rel => exact ⟨k + 1, by omega, by omega, by go_num, by rw [subsTo_yes hcl]; exact hi4, hx4⟩
          case measure => simp [intOf]; omega
end Go.Proofs.Ytbfhecckapgpnaa

/-
  Contracts: the table the other way round.
-/
namespace Go.Proofs.Ytbfhecckapgpnaa
set_option linter.unusedVariables false
set_option linter.unusedSimpArgs false
open Go.RowKit

theorem transposed1_any (t : List (List Int)) (v : Value) (x y B : Nat) (w : World) (hB : w.cell? ⟨B, 0, none⟩ = some v) (hv : Rows w v t) (hT : TableOk t) (hx : x < t.length) (hy : y < t.length) :
    Calls Try.prog 91 #[.int .i64 x, .int .i64 y, .pointer (some ⟨B, 0, none⟩)] w fun e w' => e = .returned (.int .i64 (turnF t x y)) ∧ Ext w w' := by
  obtain ⟨hlen, b, o, c, rfl, hc⟩ := id hv
  obtain ⟨b1, o1, c1, hr, hc1, hl1⟩ := hc.get hy
  have f1 := hc1.ent (hT.len hy) hx
  rw [hT.len hy] at hr
  rw [turnF_def]
  go_enter Try.func91, Try.ntmps91
  go_wp2
  go_ret
  exact ⟨rfl, Ext.refl _⟩

theorem callTransposed1 (args : Array Value) (w : World) : (callFunc 91 args).run Try.prog w = .ok (.enter 91 args) w :=
  callFunc_enter Try.func91 (by kernel_rfl) rfl args w

theorem transposed_any (t : List (List Int)) (v : Value) (w : World) (hv : Rows w v t) (hT : TableOk t) :
    Calls Try.prog 60 #[v] w (NewT (turnT t) w) := by
  obtain ⟨hlen, b, o, c, rfl, hc⟩ := id hv
  have hx0 := ext_box w (.slice (some ⟨b, o, none⟩) t.length c) 25
  have b0 := cell_new w (.slice (some ⟨b, o, none⟩) t.length c) 25
  go_enter Try.func60, Try.ntmps60
  go_wp2_with fail
  refine (tableBy_any t.length (turnF t) 91 #[.pointer (some ⟨w.heap.size, 0, none⟩)] _ (by omega) callTransposed1 (fun w1 x y h1 hx hy => by
    rw [app21]
    exact transposed1_any t _ x y w.heap.size w1 (h1.cell b0) (hv.ext (hx0.trans h1)) hT hx hy)).mono ?_
  rintro e w1 ⟨b1, c1, rfl, ho, hx1⟩
  rw [← turnT_def] at ho ⊢
  go_wp2
  go_ret
  exact ⟨b1, c1, rfl, ho.mono (by simp) (Nat.le_refl _), hx0.trans hx1⟩

end Go.Proofs.Ytbfhecckapgpnaa

/-
  Contracts: comparing lists and tables.
-/
namespace Go.Proofs.Ytbfhecckapgpnaa
set_option linter.unusedVariables false
set_option linter.unusedSimpArgs false
open Go.RowKit

theorem slicesEqual_any (l m : List Int) (v u : Value) (w : World) (hv : Ints w v l) (hu : Ints w u m) :
    Calls Try.prog 70 #[v, u] w fun e w' => e = .returned (.bool (eqIB l m)) ∧ Ext w w' := by
  obtain ⟨hl1, b1, o1, c1, rfl, hc1⟩ := hv
  obtain ⟨hl2, b2, o2, c2, rfl, hc2⟩ := hu
  by_cases hl : l.length = m.length
  case neg =>
    have hb : ((l.length : Int) != (m.length : Int)) = true := by simp; omega
    go_enter Try.func70, Try.ntmps70
    go_wp2
    go_ret
    exact ⟨ret_bool (eqIB_no (fun e => hl (by rw [e]))).symm, Ext.refl _⟩
  case pos =>
    rw [← hl]
    have Hl := Lib.hid hl
    clear hl
    go_enter Try.func70, Try.ntmps70
    go_wp2
    go_loopw [13] (fun i wr => ∃ k : Nat, k ≤ l.length ∧ i = .int .i64 k ∧ SameTo l m k ∧ Ext w wr) (fun i _ => l.length - (intOf i).toNat)
    case atStart => exact ⟨0, Nat.zero_le _, rfl, fun i hi => by omega, Ext.refl _⟩
    case round =>
      obtain ⟨k, hk, rfl, hto, hx⟩ := hrel
      by_cases hlt : k < l.length
      · have e1 := hc1.ext hx k hlt
        have e2 := hc2.ext hx k (by have := Hl.out; omega)
        cases he : (ix l k != ix m k) with
        | true =>
          go_wp2
          go_quiet (fail)
          go_wp2
          go_ret
          exact ⟨ret_bool (eqIB_no (fun e => by rw [e] at he; simp at he)).symm, hx.drewN _⟩
        | false =>
          go_wp2
          go_quiet (fail)
          go_wp2
          go_roundw
          case rel => exact ⟨k + 1, by omega, by go_num, all_succ hto (by simpa using he), hx.drewN _⟩
          case measure => simp [intOf]; omega
      · go_wp2
        go_ret
        exact ⟨ret_bool (eqIB_yes (ix_ext Hl.out (fun i hi => hto i (by omega)))).symm, hx⟩

theorem isNaN_any (a : Int) (w : World) : Calls Try.prog 121 #[.int .i64 a] w fun e w' => e = .returned (.bool false) ∧ w = w' := by
  have hb : (a != a) = false := by simp
  go_enter Try.func121, Try.ntmps121
  go_wp2
  go_ret
  exact ⟨rfl, rfl⟩

theorem cmpCompare_any (a b : Int) (w : World) : Calls Try.prog 115 #[.int .i64 a, .int .i64 b] w fun e w' => e = .returned (.int .i64 (cmpI a b)) ∧ w = w' := by
  unfold cmpI
  by_cases h : a < b
  · rw [if_pos h]
    go_enter Try.func115, Try.ntmps115
    go_wp2_with (go_at_call 121; refine (isNaN_any _ _).mono ?_; rintro e w' ⟨rfl, rfl⟩)
    go_ret
    exact ⟨rfl, rfl⟩
  · rw [if_neg h]
    by_cases h2 : b < a
    · rw [if_pos h2]
      go_enter Try.func115, Try.ntmps115
      go_wp2_with (go_at_call 121; refine (isNaN_any _ _).mono ?_; rintro e w' ⟨rfl, rfl⟩)
      go_ret
      exact ⟨rfl, rfl⟩
    · rw [if_neg h2]
      go_enter Try.func115, Try.ntmps115
      go_wp2_with (go_at_call 121; refine (isNaN_any _ _).mono ?_; rintro e w' ⟨rfl, rfl⟩)
      go_ret
      exact ⟨rfl, rfl⟩

theorem slicesCompare_any (l m : List Int) (v u : Value) (w : World) (hv : Ints w v l) (hu : Ints w u m) :
    Calls Try.prog 110 #[v, u] w fun e w' => e = .returned (.int .i64 (cmpL l m)) ∧ w = w' := by
  obtain ⟨hl1, b1, o1, c1, rfl, hc1⟩ := hv
  obtain ⟨hl2, b2, o2, c2, rfl, hc2⟩ := hu
  have h0 := cmpLF_zero l m
  have H0 := Lib.hid h0
  clear h0
  go_enter Try.func110, Try.ntmps110
  go_wp2
  go_loop [11] (fun i => ∃ k : Nat, k ≤ l.length ∧ i = .int .i64 k ∧ cmpL l m = cmpLF l m k) (fun i => l.length - (intOf i).toNat)
  case atStart => exact ⟨0, Nat.zero_le _, rfl, H0.out⟩
  case round =>
    clear H0
    obtain ⟨k, hk, rfl, hr⟩ := hrel
    have HR := Lib.hid hr
    clear hr
    by_cases hlt : k < l.length
    · have e1 := hc1 k hlt
      by_cases hlm : k < m.length
      · have e2 := hc2 k hlm
        cases hz : (cmpI (ix l k) (ix m k) != 0) with
        | true =>
          go_wp2_with (go_at_call 115; refine (cmpCompare_any _ _ _).mono ?_; rintro e w' ⟨rfl, rfl⟩)
          go_ret
          exact ⟨ret_int (by rw [HR.out, cmpLF_ne hlt hlm (by simpa using hz)]), rfl⟩
        | false =>
          go_wp2_with (go_at_call 115; refine (cmpCompare_any _ _ _).mono ?_; rintro e w' ⟨rfl, rfl⟩)
          go_round
          case rel => exact ⟨k + 1, by omega, by go_num, by rw [HR.out, cmpLF_eq hlt hlm (by simpa using hz)]⟩
          case measure => simp [intOf]; omega
      · go_wp2
        go_ret
        exact ⟨ret_int (by rw [HR.out, cmpLF_more hlt (by omega)]), rfl⟩
    · by_cases hlm : l.length < m.length
      · go_wp2
        go_ret
        exact ⟨ret_int (by rw [HR.out, cmpLF_less (by omega) (by omega)]), rfl⟩
      · go_wp2
        go_ret
        exact ⟨ret_int (by rw [HR.out, cmpLF_end (by omega) (by omega)]), rfl⟩

theorem compareTables1_any (l m : List Int) (v u : Value) (w : World) (hv : Ints w v l) (hu : Ints w u m) :
    Calls Try.prog 109 #[v, u] w fun e w' => e = .returned (.int .i64 (cmpL l m)) ∧ w = w' := by
  go_enter Try.func109, Try.ntmps109
  go_wp2_with (go_at_call 110; refine (slicesCompare_any l m _ _ _ hv hu).mono ?_; rintro e w' ⟨rfl, rfl⟩)
  go_ret
  exact ⟨rfl, rfl⟩

theorem callCompareTables1 (args : Array Value) (w : World) : (callFunc 109 args).run Try.prog w = .ok (.enter 109 args) w :=
  callFunc_enter Try.func109 (by kernel_rfl) rfl args w

theorem compareFunc_any (s t : List (List Int)) (v u : Value) (w : World) (hv : Rows w v s) (hu : Rows w u t) :
    Calls Try.prog 108 #[v, u, .func (.func 109) #[] #[]] w fun e w' => e = .returned (.int .i64 (cmpT s t)) ∧ w = w' := by
  obtain ⟨hl1, b1, o1, c1, rfl, hc1⟩ := hv
  obtain ⟨hl2, b2, o2, c2, rfl, hc2⟩ := hu
  have h0 := cmpTF_zero s t
  have H0 := Lib.hid h0
  clear h0
  have hcall := callCompareTables1
  go_enter Try.func108, Try.ntmps108
  go_wp2
  go_loop [13] (fun i => ∃ k : Nat, k ≤ s.length ∧ i = .int .i64 k ∧ cmpT s t = cmpTF s t k) (fun i => s.length - (intOf i).toNat)
  case atStart => exact ⟨0, Nat.zero_le _, rfl, H0.out⟩
  case round =>
    clear H0
    obtain ⟨k, hk, rfl, hr⟩ := hrel
    have HR := Lib.hid hr
    clear hr
    by_cases hlt : k < s.length
    · obtain ⟨d1, p1, q1, g1, i1, m1⟩ := hc1.get hlt
      have j1 := i1.ints m1 q1
      clear i1
      by_cases hlm : k < t.length
      · obtain ⟨d2, p2, q2, g2, i2, m2⟩ := hc2.get hlm
        have j2 := i2.ints m2 q2
        clear i2
        cases hz : (cmpL (row s k) (row t k) != 0) with
        | true =>
          go_wp2_with (refine (compareTables1_any (row s k) (row t k) _ _ _ j1 j2).mono ?_; rintro e w' ⟨rfl, rfl⟩)
          go_ret
          exact ⟨ret_int (by rw [HR.out, cmpTF_ne hlt hlm (by simpa using hz)]), rfl⟩
        | false =>
          go_wp2_with (refine (compareTables1_any (row s k) (row t k) _ _ _ j1 j2).mono ?_; rintro e w' ⟨rfl, rfl⟩)
          go_round
          case rel => exact ⟨k + 1, by omega, by go_num, by rw [HR.out, cmpTF_eq hlt hlm (by simpa using hz)]⟩
          case measure => simp [intOf]; omega
      · go_wp2
        go_ret
        exact ⟨ret_int (by rw [HR.out, cmpTF_more hlt (by omega)]), rfl⟩
    · by_cases hlm : s.length < t.length
      · go_wp2
        go_ret
        exact ⟨ret_int (by rw [HR.out, cmpTF_less (by omega) (by omega)]), rfl⟩
      · go_wp2
        go_ret
        exact ⟨ret_int (by rw [HR.out, cmpTF_end (by omega) (by omega)]), rfl⟩

theorem compareTables_any (s t : List (List Int)) (v u : Value) (w : World) (hv : Rows w v s) (hu : Rows w u t) :
    Calls Try.prog 90 #[v, u] w fun e w' => e = .returned (.int .i64 (cmpT s t)) ∧ w = w' := by
  go_enter Try.func90, Try.ntmps90
  go_wp2_with (go_at_call 108; refine (compareFunc_any s t _ _ _ hv hu).mono ?_; rintro e w' ⟨rfl, rfl⟩)
  go_ret
  exact ⟨rfl, rfl⟩

theorem equalTables_any (s t : List (List Int)) (v u : Value) (w : World) (hv : Rows w v s) (hu : Rows w u t) :
    Calls Try.prog 59 #[v, u] w fun e w' => e = .returned (.bool (eqTB s t)) ∧ w = w' := by
  have hb := cmpT_eqTB s t
  go_enter Try.func59, Try.ntmps59
  go_wp2_with (go_at_call 90; refine (compareTables_any s t _ _ _ hv hu).mono ?_; rintro e w' ⟨rfl, rfl⟩)
  go_ret
  exact ⟨ret_bool (by first | rfl | exact hb), rfl⟩
end Go.Proofs.Ytbfhecckapgpnaa

/-
  Contracts: faults of braces.
-/
namespace Go.Proofs.Ytbfhecckapgpnaa
set_option linter.unusedVariables false
set_option linter.unusedSimpArgs false
open Go.RowKit

/-- three numbers just made -/
theorem ints3 (w : World) (x y z : Int) (T : Nat) : IntsAt (w.alloc (.cells #[.int .i64 x, .int .i64 y, .int .i64 z] T)) w.heap.size 0 [x, y, z] := fun i hi => by
  rw [ix_eq]
  match i, hi with
  | 0, _ => simp [go_sem]
  | 1, _ => simp [go_sem]
  | 2, _ => simp [go_sem]
theorem own3 (w : World) (x y z : Int) (T : Nat) : OwnI w.heap.size (w.heap.size + 1) (w.alloc (.cells #[.int .i64 x, .int .i64 y, .int .i64 z] T)) w.heap.size 0 [x, y, z] :=
  ⟨Nat.le_refl _, by omega, ints3 w x y z T, fun i _ => by simp [go_sem]⟩

/-- what braceFault returns: nil or three numbers, in new memory -/
def FaultV (t u : List (List Int)) (w : World) (e : Ending) (w' : World) : Prop :=
  ∃ v, e = .returned v ∧ OwnIV w.heap.size w'.heap.size w' v (faultL t u) ∧ ((faultL t u = [] ∧ v = .slice none 0 0) ∨ ((faultL t u).length = 3 ∧ ∃ b c, v = .slice (some ⟨b, 0, none⟩) 3 c)) ∧ Ext w w'

end Go.Proofs.Ytbfhecckapgpnaa

/-
  Contracts of IsBrace, BraceFault, IsBiSkewBrace: reference and program.
-/
namespace Go.Proofs.Ytbfhecckapgpnaa
set_option linter.unusedVariables false
set_option linter.unusedSimpArgs false
open Go.RowKit

/-- what BraceFault returns -/
@[irreducible] noncomputable def bfL (t u : List (List Int)) : List Int := if twoB t u = true then faultL t u else []
@[irreducible] noncomputable def bfC (t u : List (List Int)) : Int := if twoB t u = true then (if faultL t u = [] then 4 else 0) else 1
theorem bf_no {t u} (h : twoB t u = false) : bfL t u = [] ∧ bfC t u = 1 := by unfold bfL bfC; rw [if_neg (by rw [h]; simp), if_neg (by rw [h]; simp)]; exact ⟨rfl, rfl⟩
theorem bf_none {t u} (h : twoB t u = true) (h2 : faultL t u = []) : bfL t u = [] ∧ bfC t u = 4 := by unfold bfL bfC; rw [if_pos h, if_pos h, if_pos h2]; exact ⟨h2, rfl⟩
theorem bf_yes {t u} (h : twoB t u = true) (h2 : faultL t u ≠ []) : bfL t u = faultL t u ∧ bfC t u = 0 := by unfold bfL bfC; rw [if_pos h, if_pos h, if_neg h2]; exact ⟨rfl, rfl⟩
@[irreducible] noncomputable def noFaultB (t u : List (List Int)) : Bool := (faultL t u).isEmpty
theorem noFault_yes {t u} (h : faultL t u = []) : noFaultB t u = true := by unfold noFaultB; simp [h]
theorem noFault_no {t u} (h : faultL t u ≠ []) : noFaultB t u = false := by unfold noFaultB; simp [h]
set_option maxRecDepth 1000000 in
theorem eqNil0 (w : World) : (binOp .eql 45 (.slice none 0 0) (.slice none 0 0)).run Try.prog w = .ok (.bool true) w := rfl
set_option maxRecDepth 1000000 in
theorem eqNil1 (b n c : Nat) (w : World) : (binOp .eql 45 (.slice (some ⟨b, 0, none⟩) n c) (.slice none 0 0)).run Try.prog w = .ok (.bool false) w := rfl

end Go.Proofs.Ytbfhecckapgpnaa

/-
  Contracts of IsBrace (reference), BraceFault, IsBiSkewBrace.
-/
namespace Go.Proofs.Ytbfhecckapgpnaa
set_option linter.unusedVariables false
set_option linter.unusedSimpArgs false
open Go.RowKit

theorem braceB_swap {t u : List (List Int)} (h : twoB t u = true) : braceB u t = noFaultB u t := by
  obtain ⟨hG, hU, hL⟩ := twoB_iff.1 h
  have h2 : twoB u t = true := twoB_iff.2 ⟨hU, hG, hL.symm⟩
  by_cases hf : faultL u t = []
  · rw [braceB_yes h2 hf, noFault_yes hf]
  · rw [braceB_2 hf, noFault_no hf]
theorem len_fault {t u : List (List Int)} (h : faultL t u ≠ []) : (((faultL t u).length : Int) == 0) = false := by
  rw [beq_eq_false_iff_ne]
  intro h2
  exact h (List.length_eq_zero_iff.1 (by omega))

end Go.Proofs.Ytbfhecckapgpnaa

/-
  Contract: groups of two halves, by formulas: reference.
-/
namespace Go.Proofs.Ytbfhecckapgpnaa
set_option linter.unusedVariables false
set_option linter.unusedSimpArgs false
open Go.RowKit

/-- values of the group of two halves -/
@[irreducible] def dblF (n s : Nat) (x y : Nat) : Int :=
  if x < n ∧ y < n then ((x : Int) + (y : Int)) % n
  else if x < n then (n : Int) + ((x : Int) + (y : Int)) % n
  else if y < n then (n : Int) + ((x : Int) - (y : Int)) % n
  else ((x : Int) % n - (y : Int) % n + n + s) % n
theorem dblF_1 {n s x y : Nat} (hx : x < n) (hy : y < n) : dblF n s x y = ((x : Int) + (y : Int)) % n := by unfold dblF; rw [if_pos ⟨hx, hy⟩]
theorem dblF_2 {n s x y : Nat} (hx : x < n) (hy : ¬ y < n) : dblF n s x y = (n : Int) + ((x : Int) + (y : Int)) % n := by unfold dblF; rw [if_neg (fun h => hy h.2), if_pos hx]
theorem dblF_3 {n s x y : Nat} (hx : ¬ x < n) (hy : y < n) : dblF n s x y = (n : Int) + ((x : Int) - (y : Int)) % n := by unfold dblF; rw [if_neg (fun h => hx h.1), if_neg hx, if_pos hy]
theorem dblF_4 {n s x y : Nat} (hx : ¬ x < n) (hy : ¬ y < n) : dblF n s x y = ((x : Int) % n - (y : Int) % n + n + s) % n := by unfold dblF; rw [if_neg (fun h => hx h.1), if_neg hx, if_neg hy]

set_option maxRecDepth 100000 in
set_option maxHeartbeats 1000000 in
theorem l10Double_any (n s : Nat) (w : World) (h1 : 1 ≤ n) (h2 : n ≤ 12) (h3 : s ≤ 12) :
    Calls Try.prog 118 #[.int .i64 n, .int .i64 s] w fun e w' => ∃ v, e = .returned v ∧ Rows w' v (mkT (2 * n) (dblF n s)) ∧ Ext w w' := by
  have hlt := length_mkT (2 * n) (dblF n s)
  have HLT := Lib.hid hlt
  clear hlt
  go_enter Try.func118, Try.ntmps118
  go_wp2
  have hx0 : Ext w (w.alloc (.cells #[] 45)) := (Ext.refl _).alloc _
  have hg0 := GrowT.lit (e := 45) (base := w.heap.size) (w := w) (Nat.le_refl _)
  go_loopw [5, 6] (fun v x wr => ∃ k : Nat, k ≤ 2 * n ∧ x = .int .i64 k ∧ GrowT 45 w.heap.size wr v ((mkT (2 * n) (dblF n s)).take k) ∧ v ≠ .slice none 0 0 ∧ Ext w wr) (fun _ x _ => 2 * n - (intOf x).toNat)
  case atStart => exact ⟨0, Nat.zero_le _, rfl, hg0, by simp, hx0⟩
  case round =>
    clear hx0 hg0
    obtain ⟨k, hk, rfl, hg, hv, hx⟩ := hrel
    have HV := Lib.hid hv
    clear hv
    by_cases hkl : k < 2 * n
    case neg =>
      go_wp2
      go_ret
      refine ⟨u5, rfl, ?_, hx⟩
      have : (mkT (2 * n) (dblF n s)).take k = mkT (2 * n) (dblF n s) := List.take_of_length_le (by rw [HLT.out]; omega)
      rw [this] at hg
      exact hg.rows (by rw [HLT.out]; omega) HV.out
    case pos =>
      have hkI : (k : Int) < 2 * (n : Int) := by omega
      go_wp2
      obtain ⟨w2, rfl⟩ : ∃ w2 : World, w2 = wr := ⟨_, rfl⟩
      have hxa : Ext w2 (w2.alloc (.cells #[] 2)) := (Ext.refl _).alloc _
      have hi0 := GrowI.lit (e := 2) (base := w2.heap.size) (w := w2) (Nat.le_refl _)
      have hrl : (row (mkT (2 * n) (dblF n s)) k).length = 2 * n := by rw [row_mkT _ _ _ hkl, length_partRow]
      have HRL := Lib.hid hrl
      have hout := hg.lt
      have HO := Lib.hid hout
      clear hrl hout
      go_loopw [7, 8] (fun v y wr => ∃ j : Nat, j ≤ 2 * n ∧ y = .int .i64 j ∧ GrowI 2 w2.heap.size wr v ((row (mkT (2 * n) (dblF n s)) k).take j) ∧ v ≠ .slice none 0 0 ∧ Ext w2 wr) (fun _ y _ => 2 * n - (intOf y).toNat)
      case atStart => exact ⟨0, Nat.zero_le _, rfl, hi0, by simp, hxa⟩
      case round =>
        clear hxa hi0
        obtain ⟨j, hj, rfl, hi, hvr, hx2⟩ := hrel
        have HVR := Lib.hid hvr
        clear hvr
        by_cases hjl : j < 2 * n
        case neg =>
          have hta : (row (mkT (2 * n) (dblF n s)) k).take j = row (mkT (2 * n) (dblF n s)) k := List.take_of_length_le (by rw [HRL.out]; omega)
          rw [hta] at hi
          obtain ⟨br, cr, rfl, hri, hrb, hrb2⟩ := hi.row HVR.out
          have hgw := hg.ext hx2
          have hne : some br ≠ u5.ownBlock := fun e => by have := HO.out br e.symm; omega
          have htl : ((mkT (2 * n) (dblF n s)).take k).length = k := by rw [List.length_take, HLT.out]; omega
          have HTL := Lib.hid htl
          clear htl hg
          go_wp2_with (at_builtin; refine wpList_append_row rfl _ _ 25 45 rfl Try.underlying25 infoSl w.heap.size _ _ rfl (hgw.ext (ext_box _ _ _)) _ br cr _ rfl (cell_new _ _ _) (hri.ext (ext_box _ _ _)) (by rw [HRL.out]; omega) hne (by rw [HTL.out]; omega) (by have := hx.size; have := hx2.size; simp; omega) ?_)
          intro v' w3 hg3 hgr hv3
          have hx3 : Ext w w3 := (hx.trans (hx2.trans (ext_box _ _ _))).grown hgr (hgw.ext (ext_box _ _ _)).own.choose_spec (Nat.le_refl _)
          clear hgr hne hgw
          go_wp2
          go_roundw
          case rel => exact ⟨k + 1, by omega, by go_num, by rw [take_row _ _ (by rw [HLT.out]; exact hkl)]; exact hg3, hv3, hx3⟩
          case measure => simp [intOf]; omega
        case pos =>
          have hlj : ((row (mkT (2 * n) (dblF n s)) k).take j).length = j := by rw [List.length_take, HRL.out]; omega
          have HLJ := Lib.hid hlj
          clear hlj
          have hk0 := Int.emod_nonneg (k : Int) (b := (n : Int)) (by omega)
          have hk1 := Int.emod_lt_of_pos (k : Int) (b := (n : Int)) (by omega)
          have hj0 := Int.emod_nonneg (j : Int) (b := (n : Int)) (by omega)
          have hj1 := Int.emod_lt_of_pos (j : Int) (b := (n : Int)) (by omega)
          have p0 := Int.emod_nonneg ((k : Int) + (j : Int)) (b := (n : Int)) (by omega)
          have p1 := Int.emod_lt_of_pos ((k : Int) + (j : Int)) (b := (n : Int)) (by omega)
          have q0 := Int.emod_nonneg ((k : Int) - (j : Int)) (b := (n : Int)) (by omega)
          have q1 := Int.emod_lt_of_pos ((k : Int) - (j : Int)) (b := (n : Int)) (by omega)
          have hjI : (j : Int) < 2 * (n : Int) := by omega
          go_wp2
          go_quiet (fail)
          obtain ⟨w4, hw4⟩ : ∃ w4 : World, w4 = wr.drewN nq := ⟨_, rfl⟩
          have hx4 : Ext w2 w4 := by rw [hw4]; exact hx2.drewN _
          have hi4 : GrowI 2 w2.heap.size w4 u7 ((row (mkT (2 * n) (dblF n s)) k).take j) := by rw [hw4]; exact hi.ext ((Ext.refl _).drewN _)
          rw [← hw4]
          clear hw4 hi hx2
          by_cases hkn : k < n <;> by_cases hjn : j < n
          all_goals
            go_wp2_with (at_builtin; refine wpList_append_int rfl _ _ 45 2 rfl Try.underlying45 infoInt w2.heap.size _ _ rfl (hi4.alloc _) _ _ rfl (cell_new _ _ _) (by rw [HLJ.out]; omega) (by have := hx4.size; simp; omega) ?_)
            intro v' w3 hi3 hgr hv3
            have hx3 : Ext w2 w3 := (hx4.trans (ext_box _ _ _)).grown hgr (hi4.alloc _) (Nat.le_refl _)
            clear hgr
            go_wp2
            go_roundw
            case rel => exact ⟨j + 1, by omega, by go_num, by
              rw [take_ix _ _ (by rw [HRL.out]; exact hjl), row_mkT _ _ _ hkl, ix_partRow _ _ _ _ _ hjl, if_pos hjl]
              rw [row_mkT _ _ _ hkl] at hi3
              first
                | (rw [dblF_1 ‹_› ‹_›]; exact hi3)
                | (rw [dblF_2 ‹_› (by omega)]; exact hi3)
                | (rw [dblF_3 (by omega) ‹_›]; exact hi3)
                | (rw [dblF_4 (by omega) (by omega)]; exact hi3), hv3, hx3⟩
            case measure => simp [intOf]; omega
end Go.Proofs.Ytbfhecckapgpnaa
