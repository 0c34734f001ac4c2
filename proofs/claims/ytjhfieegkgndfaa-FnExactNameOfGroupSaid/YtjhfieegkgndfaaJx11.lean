/-
  Contract of the program: is it the table of a group.
-/
import Derived.Test.YtjhfieegkgndfaaProg
import Derived.Test.YtjhfieegkgndfaaJx0
import Derived.Test.YtjhfieegkgndfaaJx5
import Derived.Test.YtjhfieegkgndfaaJx6
import Derived.Test.YtjhfieegkgndfaaJx10
import Derived.Test.YtjhfieegkgndfaaJx1
import Derived.Test.YtjhfieegkgndfaaJx2
import Derived.Test.YtjhfieegkgndfaaJx7
import Derived.Test.YtjhfieegkgndfaaJx3
import Derived.Test.YtjhfieegkgndfaaJx9
import Derived.Test.YtjhfieegkgndfaaJx8
import Derived.Test.YtjhfieegkgndfaaJx14
import Derived.Test.YtjhfieegkgndfaaJx15
namespace Go.Proofs.Ytjhfieegkgndfaa
set_option linter.unusedVariables false
set_option linter.unusedSimpArgs false
open Go.RowKit

set_option maxRecDepth 100000 in
theorem isGroupTable_any (t : List (List Int)) (v : Value) (w : World) (hv : Rows w v t) :
    Calls Try.prog 94 #[v] w fun e w' => e = .returned (.bool (groupB t)) ∧ Ext w w' := by
  by_cases hT : TableOk t
  case neg =>
    have hB := tableB_no hT
    go_enter Try.func94, Try.ntmps94
    go_wp2_with fail
    refine (IsTable_any t _ _ hv).mono ?_
    rintro e w1 ⟨rfl, hx1⟩
    go_wp2
    go_ret
    exact ⟨ret_bool (groupB_no (fun h => hT h.1)).symm, hx1⟩
  case pos =>
    have hB := tableB_yes hT
    cases hP : permRowsB t with
    | false =>
      go_enter Try.func94, Try.ntmps94
      go_wp2_with fail
      refine (IsTable_any t _ _ hv).mono ?_
      rintro e w1 ⟨rfl, hx1⟩
      go_wp2_with fail
      refine (permutationRows_any t _ _ (hv.ext hx1)).mono ?_
      rintro e w2 ⟨rfl, hx2⟩
      go_wp2
      go_ret
      exact ⟨ret_bool (groupB_no (fun h => absurd (permRowsB_iff.2 h.2.1) (by rw [hP]; simp))).symm, hx1.trans hx2⟩
    | true =>
    have hv' := hv
    obtain ⟨hlen, b, o, c, rfl, hc⟩ := hv
    have HT := Lib.hid hT
    have h1 := hT.1
    have h2 := hT.2.1
    clear hT
    have HP := Lib.hid (permRowsB_iff.1 hP)
    go_enter Try.func94, Try.ntmps94
    go_wp2_with fail
    refine (IsTable_any t _ _ hv').mono ?_
    rintro e w1 ⟨rfl, hx1⟩
    go_wp2_with fail
    refine (permutationRows_any t _ _ (hv'.ext hx1)).mono ?_
    rintro e w2 ⟨rfl, hx2⟩
    have hx := hx1.trans hx2
    clear hx1 hx2
    go_wp2
    clear hB hP
    go_loopw [16] (fun x wr => ∃ k : Nat, k ≤ t.length ∧ x = .int .i64 k ∧ UnitAssocTo t t.length k ∧ Ext w wr) (fun x _ => t.length - (intOf x).toNat)
    case atStart => exact ⟨0, Nat.zero_le _, rfl, UnitAssocTo.zero _ _, hx⟩
    case round =>
      clear hx
      obtain ⟨k, hk, rfl, hua, hx⟩ := hrel
      by_cases hlt : k < t.length
      case neg =>
        go_wp2
        go_ret
        exact ⟨ret_bool (groupB_yes ⟨HT.out, HP.out, hua.mono (by omega)⟩).symm, hx⟩
      case pos =>
        obtain ⟨b0, o0, c0, hr0, hc0, -⟩ := (hc.ext hx).head (by omega)
        obtain ⟨b1, o1, c1, hr, hc1, hl⟩ := (hc.ext hx).get hlt
        have hl0 := HT.out.len (x := 0) (by omega)
        have hl1 := HT.out.len hlt
        have e0 := hc0.ent hl0 hlt
        have e1 := hc1.ent0 hl1 (by omega)
        rw [hl0] at hr0
        rw [hl1] at hr
        clear hl0 hc0
        cases hu0 : (ent t 0 k != (k : Int)) with
        | true =>
          go_wp2
          go_ret
          exact ⟨ret_bool (groupB_no (fun h => absurd (h.2.2 k hlt).1.1 (by simpa using hu0))).symm, hx⟩
        | false =>
          cases hu1 : (ent t k 0 != (k : Int)) with
          | true =>
            go_wp2
            go_ret
            exact ⟨ret_bool (groupB_no (fun h => absurd (h.2.2 k hlt).1.2 (by simpa using hu1))).symm, hx⟩
          | false =>
            have hun : UnitAt t k := ⟨by simpa using hu0, by simpa using hu1⟩
            go_wp2
            clear hu0 hu1 e0 e1 hr0 hr hc1
            obtain ⟨w3, rfl⟩ : ∃ w1 : World, w1 = wr := ⟨_, rfl⟩
            go_loopw [39] (fun y wr => ∃ m : Nat, m ≤ t.length ∧ y = .int .i64 m ∧ AssocY t t.length k m ∧ Ext w wr) (fun y _ => t.length - (intOf y).toNat)
            case atStart => exact ⟨0, Nat.zero_le _, rfl, AssocY.zero _ _ _, hx⟩
            case round =>
              clear hx
              obtain ⟨m, hm, rfl, hay, hx⟩ := hrel
              by_cases hml : m < t.length
              case neg =>
                go_wp2
                go_roundw
                case rel => exact ⟨k + 1, by omega, by go_num, hua.succ hun (hay.mono (by omega)), hx⟩
                case measure => simp [intOf]; omega
              case pos =>
                go_wp2
                obtain ⟨w4, rfl⟩ : ∃ w1 : World, w1 = wr := ⟨_, rfl⟩
                go_loopw [44] (fun z wr => ∃ j : Nat, j ≤ t.length ∧ z = .int .i64 j ∧ AssocTo t k m j ∧ Ext w wr) (fun z _ => t.length - (intOf z).toNat)
                case atStart => exact ⟨0, Nat.zero_le _, rfl, AssocTo.zero _ _ _, hx⟩
                case round =>
                  clear hx
                  obtain ⟨j, hj, rfl, hato, hx⟩ := hrel
                  by_cases hjl : j < t.length
                  case neg =>
                    go_wp2
                    go_roundw
                    case rel => exact ⟨m + 1, by omega, by go_num, hay.succ (hato.mono (by omega)), hx⟩
                    case measure => simp [intOf]; omega
                  case pos =>
                    have bxy := HT.out.bd hlt hml
                    have byz := HT.out.bd hml hjl
                    have hcw := hc.ext hx
                    obtain ⟨b1, o1, c1, hr, hc1, -⟩ := hcw.get hlt
                    obtain ⟨b2, o2, c2, hrm, hc2, -⟩ := hcw.get hml
                    obtain ⟨b3, o3, c3, hrx, hc3, -⟩ := hcw.get (i := (ent t k m).toNat) (by omega)
                    have f1 := hc1.ent hl1 hml
                    have f2 := hc2.ent (HT.out.len hml) hjl
                    have f3 := hc1.ent (y := (ent t m j).toNat) hl1 (by omega)
                    have f4 := hc3.ent (HT.out.len (by omega)) hjl
                    clear hc1 hc2 hc3 hcw
                    rw [HT.out.len hml] at hrm
                    rw [HT.out.len hlt] at hr
                    rw [HT.out.len (x := (ent t k m).toNat) (by omega)] at hrx
                    cases ha : (ent t (ent t k m).toNat j != ent t k (ent t m j).toNat) with
                    | true =>
                      go_wp2
                      go_quiet (fail)
                      go_wp2
                      go_ret
                      exact ⟨ret_bool (groupB_no (fun h => absurd ((h.2.2 k hlt).2 m hml j hjl) (by simpa using ha))).symm, hx.drewN _⟩
                    | false =>
                      go_wp2
                      go_quiet (fail)
                      go_wp2
                      go_roundw
                      case rel => exact ⟨j + 1, by omega, by go_num, hato.succ (by simpa using ha), hx.drewN _⟩
                      case measure => simp [intOf]; omega

end Go.Proofs.Ytjhfieegkgndfaa

/-
  Contracts of IsGroup, reference and program.
-/
namespace Go.Proofs.Ytjhfieegkgndfaa
set_option linter.unusedVariables false
set_option linter.unusedSimpArgs false
open Go.RowKit

theorem IsGroup_impl (t : List (List Int)) (v : Value) (w : World) (hv : Rows w v t) :
    Calls Try.prog 61 #[.agg #[v]] w fun e w' => e = .returned (.bool (groupB t)) ∧ Ext w w' := by
  obtain ⟨hlen, b, o, c, rfl, hc⟩ := id hv
  clear hc
  have hx0 := ext_box w (.slice (some ⟨b, o, none⟩) t.length c) 37
  go_enter Try.func61, Try.ntmps61
  go_wp2_with fail
  refine (isGroupTable_any t _ _ (hv.ext hx0)).mono ?_
  rintro e w1 ⟨rfl, hx1⟩
  go_wp2
  go_ret
  exact ⟨rfl, hx0.trans hx1⟩

end Go.Proofs.Ytjhfieegkgndfaa

/-
  Contracts: the cyclic groups and those of two halves, by formulas: reference.
-/
namespace Go.Proofs.Ytjhfieegkgndfaa
set_option linter.unusedVariables false
set_option linter.unusedSimpArgs false
open Go.RowKit

/-- values of the cyclic group -/
@[irreducible] def cycF (n : Nat) (x y : Nat) : Int := ((x : Int) + (y : Int)) % (n : Int)

theorem cycF_def (n x y : Nat) : cycF n x y = ((x : Int) + (y : Int)) % (n : Int) := by unfold cycF; rfl
theorem take_row (t : List (List Int)) (k : Nat) (h : k < t.length) : t.take (k + 1) = t.take k ++ [row t k] := by
  rw [List.take_succ_eq_append_getElem h, row_eq]; simp [List.getD, h]
theorem take_ix (l : List Int) (k : Nat) (h : k < l.length) : l.take (k + 1) = l.take k ++ [ix l k] := by
  rw [List.take_succ_eq_append_getElem h, ix_eq]; simp [List.getD, h]

set_option maxRecDepth 100000 in
theorem l10Cyclic_any (n : Nat) (w : World) (h1 : 1 ≤ n) (h2 : n ≤ 12) :
    Calls Try.prog 63 #[.int .i64 n] w fun e w' => ∃ v, e = .returned v ∧ Rows w' v (mkT n (cycF n)) ∧ Ext w w' := by
  have hlt := length_mkT n (cycF n)
  have HLT := Lib.hid hlt
  clear hlt
  go_enter Try.func63, Try.ntmps63
  go_wp2
  have hx0 : Ext w (w.alloc (.cells #[] 65)) := (Ext.refl _).alloc _
  have hg0 := GrowT.lit (e := 65) (base := w.heap.size) (w := w) (Nat.le_refl _)
  go_loopw [3, 4] (fun v x wr => ∃ k : Nat, k ≤ n ∧ x = .int .i64 k ∧ GrowT 65 w.heap.size wr v ((mkT n (cycF n)).take k) ∧ v ≠ .slice none 0 0 ∧ Ext w wr) (fun _ x _ => n - (intOf x).toNat)
  case atStart => exact ⟨0, Nat.zero_le _, rfl, hg0, by simp, hx0⟩
  case round =>
    clear hx0 hg0
    obtain ⟨k, hk, rfl, hg, hv, hx⟩ := hrel
    have HV := Lib.hid hv
    clear hv
    by_cases hkl : k < n
    case neg =>
      go_wp2
      go_ret
      refine ⟨u3, rfl, ?_, hx⟩
      have : (mkT n (cycF n)).take k = mkT n (cycF n) := List.take_of_length_le (by rw [HLT.out]; omega)
      rw [this] at hg
      exact hg.rows (by rw [HLT.out]; omega) HV.out
    case pos =>
      go_wp2
      obtain ⟨w2, rfl⟩ : ∃ w2 : World, w2 = wr := ⟨_, rfl⟩
      have hxa : Ext w2 (w2.alloc (.cells #[] 2)) := (Ext.refl _).alloc _
      have hi0 := GrowI.lit (e := 2) (base := w2.heap.size) (w := w2) (Nat.le_refl _)
      have hrl : (row (mkT n (cycF n)) k).length = n := by rw [row_mkT _ _ _ hkl, length_partRow]
      have HRL := Lib.hid hrl
      have hout := hg.lt
      have HO := Lib.hid hout
      clear hrl hout
      go_loopw [5, 6] (fun v y wr => ∃ j : Nat, j ≤ n ∧ y = .int .i64 j ∧ GrowI 2 w2.heap.size wr v ((row (mkT n (cycF n)) k).take j) ∧ v ≠ .slice none 0 0 ∧ Ext w2 wr) (fun _ y _ => n - (intOf y).toNat)
      case atStart => exact ⟨0, Nat.zero_le _, rfl, hi0, by simp, hxa⟩
      case round =>
        clear hxa hi0
        obtain ⟨j, hj, rfl, hi, hvr, hx2⟩ := hrel
        have HVR := Lib.hid hvr
        clear hvr
        by_cases hjl : j < n
        case neg =>
          have hta : (row (mkT n (cycF n)) k).take j = row (mkT n (cycF n)) k := List.take_of_length_le (by rw [HRL.out]; omega)
          rw [hta] at hi
          obtain ⟨br, cr, rfl, hri, hrb, hrb2⟩ := hi.row HVR.out
          have hgw := hg.ext hx2
          have hne : some br ≠ u3.ownBlock := fun e => by have := HO.out br e.symm; omega
          have htl : ((mkT n (cycF n)).take k).length = k := by rw [List.length_take, HLT.out]; omega
          have HTL := Lib.hid htl
          clear htl hg
          go_wp2_with (at_builtin; refine wpList_append_row rfl _ _ 22 65 rfl Try.underlying22 infoSl w.heap.size _ _ rfl (hgw.ext (ext_box _ _ _)) _ br cr _ rfl (cell_new _ _ _) (hri.ext (ext_box _ _ _)) (by rw [HRL.out]; omega) hne (by rw [HTL.out]; omega) (by have := hx.size; have := hx2.size; simp; omega) ?_)
          intro v' w3 hg3 hgr hv3
          have hx3 : Ext w w3 := (hx.trans (hx2.trans (ext_box _ _ _))).grown hgr (hgw.ext (ext_box _ _ _)).own.choose_spec (Nat.le_refl _)
          clear hgr hne hgw
          go_wp2
          go_roundw
          case rel => exact ⟨k + 1, by omega, by go_num, by rw [take_row _ _ (by rw [HLT.out]; exact hkl)]; exact hg3, hv3, hx3⟩
          case measure => simp [intOf]; omega
        case pos =>
          have hlj : ((row (mkT n (cycF n)) k).take j).length = j := by rw [List.length_take, HRL.out]; omega
          have HLJ := Lib.hid hlj
          clear hlj
          have hmod := Int.emod_nonneg ((k : Int) + (j : Int)) (b := (n : Int)) (by omega)
          go_wp2_with (at_builtin; refine wpList_append_int rfl _ _ 65 2 rfl Try.underlying65 infoInt w2.heap.size _ _ rfl (hi.alloc _) _ _ rfl (cell_new _ _ _) (by rw [HLJ.out]; omega) (by have := hx2.size; simp; omega) ?_)
          intro v' w3 hi3 hgr hv3
          have hx3 : Ext w2 w3 := (hx2.trans (ext_box _ _ _)).grown hgr (hi.alloc _) (Nat.le_refl _)
          clear hgr
          go_wp2
          go_roundw
          case rel => exact ⟨j + 1, by omega, by go_num, by
            rw [take_ix _ _ (by rw [HRL.out]; exact hjl), row_mkT _ _ _ hkl, ix_partRow _ _ _ _ _ hjl, if_pos hjl]
            rw [row_mkT _ _ _ hkl, ← cycF_def n k j] at hi3
            exact hi3, hv3, hx3⟩
          case measure => simp [intOf]; omega
end Go.Proofs.Ytjhfieegkgndfaa

/-
  Contracts of the laws' own helpers at lists and tables that are results.
-/
namespace Go.Proofs.Ytjhfieegkgndfaa
set_option linter.unusedVariables false
set_option linter.unusedSimpArgs false
open Go.RowKit

/-- a list and a code are returned (reference) -/
def RetIC (l : List Int) (c : Int) (w : World) (e : Ending) (w' : World) : Prop := ∃ v, e = .returned (.tuple #[v, .int .i64 c]) ∧ IntsR w' v l ∧ Ext w w'
/-- a list, in new memory, and a code are returned (program) -/
def NewIC (l : List Int) (c : Int) (w : World) (e : Ending) (w' : World) : Prop := ∃ v, e = .returned (.tuple #[v, .int .i64 c]) ∧ OwnIV w.heap.size w'.heap.size w' v l ∧ Ext w w'
/-- a table and a code are returned (reference) -/
def RetTC (t : List (List Int)) (c : Int) (w : World) (e : Ending) (w' : World) : Prop := ∃ v, e = .returned (.tuple #[v, .int .i64 c]) ∧ RowsR w' v t ∧ Ext w w'
/-- a table, in new memory, and a code are returned (program) -/
def NewTC (t : List (List Int)) (c : Int) (w : World) (e : Ending) (w' : World) : Prop := ∃ v, e = .returned (.tuple #[v, .int .i64 c]) ∧ OwnV w.heap.size w'.heap.size w' v t ∧ Ext w w'

theorem markInt64S_new (lo hi : Nat) (l : List Int) (v : Value) (k : Int) (w : World) (hv : OwnIV lo hi w v l) (hh : hi ≤ w.heap.size) (h0 : 0 ≤ k) (h1 : k ≤ 281474976710656) :
    Calls Try.prog 56 #[v, .int .i64 k] w fun e w' => e = .returned (.int .i64 (k + l.length)) ∧ OwnIV lo hi w' v (numRow k l.length) ∧ Touch lo hi w w' := by
  obtain ⟨hl, a, c, rfl, hc⟩ := hv
  by_cases hne : l = []
  · subst hne
    go_enter Try.func56, Try.ntmps56
    go_wp2
    go_loopw [1, 5] (fun q i wr => i = .int .i64 0 ∧ q = .int .i64 k ∧ w = wr) (fun _ i _ => 0)
    case atStart => exact ⟨rfl, rfl, rfl⟩
    case round =>
      obtain ⟨rfl, rfl, rfl⟩ := hrel
      go_wp2
      go_ret
      exact ⟨ret_int (by simp), ⟨by simp, a, c, by simp, fun h => absurd rfl h⟩, Touch.of_ext (Ext.refl _)⟩
  · obtain ⟨b, o, rfl, ho⟩ := hc hne
    refine (markInt64S_own lo hi l b o c k w (fun _ => ho) hl h0 (by omega)).mono ?_
    rintro e w1 ⟨rfl, h2, -, h4⟩
    exact ⟨rfl, ⟨by simpa using hl, some ⟨b, o, none⟩, c, by simp, fun _ => ⟨b, o, rfl, h2 hne⟩⟩, Touch.of_marked (h4.mono ho.1 (by have := ho.2.1; omega))⟩

theorem heldInt64S_new (l : List Int) (v : Value) (k : Int) (w : World) (hv : IntsR w v (numRow k l.length)) (hs : l.length ≤ 1048576) (h0 : 0 ≤ k) (h1 : k ≤ 281474976710656) :
    Calls Try.prog 66 #[v, .int .i64 k] w fun e w' => e = .returned (.int .i64 (k + l.length)) ∧ Ext w w' :=
  (heldInt64S_any (numRow k l.length) l.length v k w hv rfl hs h0 (by omega)).mono fun _ _ ⟨h1, h2⟩ => ⟨h1, h2.ext⟩

theorem markInt64SS_new (lo hi : Nat) (t : List (List Int)) (v : Value) (k : Int) (w : World) (hv : OwnV lo hi w v t) (hh : hi ≤ w.heap.size) (h0 : 0 ≤ k) (h1 : k ≤ 281474976710656) :
    Calls Try.prog 23 #[v, .int .i64 k] w fun e w' => e = .returned (.int .i64 (k + total t)) ∧ OwnV lo hi w' v (markTo t k t.length) ∧ Touch lo hi w w' :=
  (markInt64SS_any lo hi t v k w hv h0 (by omega)).mono fun _ _ ⟨h1, h2, h3⟩ => ⟨h1, h2, Touch.of_marked h3⟩

theorem heldInt64SS_new (t : List (List Int)) (v : Value) (k : Int) (w : World) (hv : RowsR w v (markTo t k t.length)) (hs : Small t) (h0 : 0 ≤ k) (h1 : k ≤ 281474976710656) :
    Calls Try.prog 43 #[v, .int .i64 k] w fun e w' => e = .returned (.int .i64 (k + total t)) ∧ Ext w w' :=
  (heldInt64SS_any t v k w hv hs h0 (by omega)).mono fun _ _ ⟨h1, h2⟩ => ⟨h1, h2.ext⟩
end Go.Proofs.Ytjhfieegkgndfaa

/-
  Contracts of OrderIn: reference and program.
-/
namespace Go.Proofs.Ytjhfieegkgndfaa
set_option linter.unusedVariables false
set_option linter.unusedSimpArgs false
open Go.RowKit

theorem allInB_one (a lo hi : Int) : allInB [a] lo hi = inR a lo hi := by
  rw [Bool.eq_iff_iff, allInB_iff, inR_iff]
  have h0 : ix [a] 0 = a := by rw [ix_eq]; rfl
  constructor
  · intro h; have := h 0 (by simp); rwa [h0] at this
  · intro h i hi
    have : i = 0 := by simp at hi; omega
    subst this; rw [h0]; exact h

end Go.Proofs.Ytjhfieegkgndfaa

/-
  Contracts: the index of a number, inverses.
-/
namespace Go.Proofs.Ytjhfieegkgndfaa
set_option linter.unusedVariables false
set_option linter.unusedSimpArgs false
open Go.RowKit

theorem slicesIndex_any (l : List Int) (v : Value) (n : Int) (w : World) (hv : Ints w v l) :
    Calls Try.prog 126 #[v, .int .i64 n] w fun e w' => e = .returned (.int .i64 (indexOf l n)) ∧ w = w' := by
  obtain ⟨hlen, b, o, c, rfl, hc⟩ := hv
  go_enter Try.func126, Try.ntmps126
  go_wp2
  go_loop [8] (fun i => ∃ k : Nat, k ≤ l.length ∧ i = .int .i64 k ∧ indexOf l n = indexFrom n (l.drop k) k) (fun i => l.length - (intOf i).toNat)
  case atStart => exact ⟨0, Nat.zero_le _, rfl, by unfold indexOf; rfl⟩
  case round =>
    obtain ⟨k, hk, rfl, hr⟩ := hrel
    have Hr := Lib.hid hr
    clear hr
    by_cases hlt : k < l.length
    · have hcell := hc k hlt
      by_cases he : (n == ix l k) = true
      · go_wp2
        go_ret
        exact ⟨ret_int (by rw [Hr.out, indexFrom_hit l n k hlt (eq_of_beq he).symm]), rfl⟩
      · have he' : (n == ix l k) = false := by simpa using he
        have hne : ¬ ix l k = n := fun h => he (by rw [h]; exact beq_self_eq_true n)
        have HN := Lib.hid hne
        clear he hne
        go_wp2
        go_round
        case rel => exact ⟨k + 1, by omega, by go_num, by rw [Hr.out, indexFrom_miss l n k hlt HN.out]⟩
        case measure => simp [intOf]; omega
    · go_wp2
      go_ret
      exact ⟨ret_int (by rw [Hr.out, indexFrom_end l n k (by omega)]), rfl⟩

theorem indexIn_any (l : List Int) (v : Value) (n : Int) (w : World) (hv : Ints w v l) :
    Calls Try.prog 132 #[v, .int .i64 n] w fun e w' => e = .returned (.int .i64 (indexOf l n)) ∧ w = w' := by
  go_enter Try.func132, Try.ntmps132
  go_wp2_with (go_at_call 126; refine (slicesIndex_any l _ _ _ hv).mono ?_; rintro e w' ⟨rfl, rfl⟩)
  go_ret
  exact ⟨rfl, rfl⟩

theorem l10Back_any (t : List (List Int)) (v : Value) (x : Nat) (w : World) (hv : Rows w v t) (hx : x < t.length) :
    Calls Try.prog 97 #[v, .int .i64 x] w fun e w' => e = .returned (.int .i64 (backF t x)) ∧ w = w' := by
  obtain ⟨hlen, b, o, c, rfl, hc⟩ := id hv
  obtain ⟨b1, o1, c1, hr, hc1, hl1⟩ := hc.get hx
  go_enter Try.func97, Try.ntmps97
  go_wp2_with (go_at_call 129; refine (l01Index_any (row t x) _ _ _ (hc1.ints hl1 c1)).mono ?_; rintro e w' ⟨rfl, rfl⟩; rw [backF_def])
  go_ret
  exact ⟨rfl, rfl⟩

theorem groupInverses_any (t : List (List Int)) (v : Value) (w : World) (hv : Rows w v t) :
    Calls Try.prog 102 #[v] w fun e w' => ∃ b c, e = .returned (.slice (some ⟨b, 0, none⟩) t.length c) ∧ IntsAt w' b 0 (backs t) ∧ Ext w w' := by
  obtain ⟨hlen, b, o, c, rfl, hc⟩ := id hv
  have hmk := run_make_row' (P := Try.prog) 65 2 (.int .i64 0) 8 Try.underlying65 infoInt rfl .i64 .i64 t.length (by omega) (by omega)
  go_enter Try.func102, Try.ntmps102
  go_wp2_with fail
  clear hmk
  have hx0 : Ext w (w.alloc (.cells (madeCells #[Value.int .i64 0] t.length) 2)) := (Ext.refl _).alloc _
  have hr0 := World.rowIs_made w (.int .i64 0) t.length 2
  go_loopw [11] (fun i wr => ∃ k : Nat, k ≤ t.length ∧ i = .int .i64 k ∧ wr.rowIs w.heap.size 2 t.length (fun i => .int .i64 (copyTo (backs t) k i)) ∧ Ext w wr) (fun i _ => t.length - (intOf i).toNat)
  case atStart => exact ⟨0, Nat.zero_le _, rfl, hr0.congr (fun i hi => by rw [copyTo_zero]), hx0⟩
  case round =>
    clear hx0 hr0
    obtain ⟨k, hk, rfl, hrow, hx⟩ := hrel
    by_cases hlt : k < t.length
    · obtain ⟨b1, o1, c1, hr, hc1, hl1⟩ := (hc.ext hx).get hlt
      have e2 := hrow.cell hlt
      have e3 := hrow.frozen k
      go_wp2_with (go_at_call 132; refine (indexIn_any (row t k) _ _ _ (hc1.ints hl1 c1)).mono ?_; rintro e w' ⟨rfl, rfl⟩; rw [backF_def])
      go_roundw
      case rel => exact ⟨k + 1, by omega, by go_num, (hrow.set k (.int .i64 (backF t k))).congr (fun i hi => by rw [copyTo_succ, ix_backs _ _ hlt]; split <;> rfl), hx.setNew (Nat.le_refl _) _⟩
      case measure => simp [intOf]; omega
    · go_wp2
      go_ret
      have hkk : k = t.length := by omega
      exact ⟨w.heap.size, t.length, rfl, fun i hi => by
        rw [length_backs] at hi
        rw [Nat.zero_add, hrow.cell hi, copyTo_all _ _ _ (by omega)], hx⟩

end Go.Proofs.Ytjhfieegkgndfaa

/-
  Contracts: sets of elements, subgroups.
-/
namespace Go.Proofs.Ytjhfieegkgndfaa
set_option linter.unusedVariables false
set_option linter.unusedSimpArgs false
open Go.RowKit

theorem pos_of_bit {m k : Nat} (h : bitB m k = true) (hm : m < 2 ^ 62) : 0 < (m : Int) / 2 ^ k := by
  rw [bitB_test hm] at h
  have := Nat.ge_two_pow_of_testBit h
  have h2 : 0 < m / 2 ^ k := Nat.div_pos this (Nat.two_pow_pos _)
  rw [cast_div_pow]
  omega
theorem lt_of_not_pos {m k : Nat} (h : ¬ 0 < (m : Int) / 2 ^ k) : m < 2 ^ k := by
  rw [cast_div_pow] at h
  have h2 : m / 2 ^ k = 0 := Nat.eq_zero_of_not_pos (fun h3 => h (Int.natCast_pos.2 h3))
  rcases (Nat.div_eq_zero_iff).1 h2 with h3 | h3
  · have := Nat.two_pow_pos k; omega
  · exact h3
theorem k_lt_of_pos {m k : Nat} (h : 0 < (m : Int) / 2 ^ k) (hm : m < 2 ^ 62) : k < 62 := by
  apply Classical.byContradiction
  intro hk
  have h1 : m < 2 ^ k := Nat.lt_of_lt_of_le hm (Nat.pow_le_pow_right (by decide) (by omega))
  rw [cast_div_pow, Nat.div_eq_of_lt h1] at h
  simp at h

end Go.Proofs.Ytjhfieegkgndfaa

/-
  Contracts: all subgroups.
-/
namespace Go.Proofs.Ytjhfieegkgndfaa
set_option linter.unusedVariables false
set_option linter.unusedSimpArgs false
open Go.RowKit

theorem wrapPow {n : Nat} (h : n ≤ 12) : wrap64 (2 ^ n) = ((2 ^ n : Nat) : Int) := by
  have := pow12 h
  have hc : ((2 : Int) ^ n) = ((2 ^ n : Nat) : Int) := by simp
  rw [hc]
  clear hc
  generalize 2 ^ n = P at this
  exact IntWalk.wrap64_in _ (by omega)
theorem even_pow {n : Nat} (h : 1 ≤ n) : 2 ^ n % 2 = 0 := by
  obtain ⟨m, rfl⟩ : ∃ m, n = m + 1 := ⟨n - 1, by omega⟩
  rw [Nat.pow_succ]; omega

end Go.Proofs.Ytjhfieegkgndfaa

/-
  Contracts: the table the other way round.
-/
namespace Go.Proofs.Ytjhfieegkgndfaa
set_option linter.unusedVariables false
set_option linter.unusedSimpArgs false
open Go.RowKit

end Go.Proofs.Ytjhfieegkgndfaa

/-
  Contracts: comparing lists and tables.
-/
namespace Go.Proofs.Ytjhfieegkgndfaa
set_option linter.unusedVariables false
set_option linter.unusedSimpArgs false
open Go.RowKit

theorem slicesEqual_any (l m : List Int) (v u : Value) (w : World) (hv : Ints w v l) (hu : Ints w u m) :
    Calls Try.prog 115 #[v, u] w fun e w' => e = .returned (.bool (eqIB l m)) ∧ Ext w w' := by
  obtain ⟨hl1, b1, o1, c1, rfl, hc1⟩ := hv
  obtain ⟨hl2, b2, o2, c2, rfl, hc2⟩ := hu
  by_cases hl : l.length = m.length
  case neg =>
    have hb : ((l.length : Int) != (m.length : Int)) = true := by simp; omega
    go_enter Try.func115, Try.ntmps115
    go_wp2
    go_ret
    exact ⟨ret_bool (eqIB_no (fun e => hl (by rw [e]))).symm, Ext.refl _⟩
  case pos =>
    rw [← hl]
    have Hl := Lib.hid hl
    clear hl
    go_enter Try.func115, Try.ntmps115
    go_wp2
    go_loopw [13] (fun i wr => ∃ k : Nat, k ≤ l.length ∧ i = .int .i64 k ∧ SameTo l m k ∧ Ext w wr) (fun i _ => l.length - (intOf i).toNat)
    case atStart => exact ⟨0, Nat.zero_le _, rfl, fun i hi => by omega, Ext.refl _⟩
    case round =>
      obtain ⟨k, hk, rfl, hto, hx⟩ := hrel
      by_cases hlt : k < l.length
      · have e1 := hc1.ext hx k hlt
        have e2 := hc2.ext hx k (by have := Hl.out; omega)
        cases he : (ix l k != ix m k) with
        | true =>
          go_wp2
          go_quiet (fail)
          go_wp2
          go_ret
          exact ⟨ret_bool (eqIB_no (fun e => by rw [e] at he; simp at he)).symm, hx.drewN _⟩
        | false =>
          go_wp2
          go_quiet (fail)
          go_wp2
          go_roundw
          case rel => exact ⟨k + 1, by omega, by go_num, all_succ hto (by simpa using he), hx.drewN _⟩
          case measure => simp [intOf]; omega
      · go_wp2
        go_ret
        exact ⟨ret_bool (eqIB_yes (ix_ext Hl.out (fun i hi => hto i (by omega)))).symm, hx⟩

theorem isNaN_any (a : Int) (w : World) : Calls Try.prog 153 #[.int .i64 a] w fun e w' => e = .returned (.bool false) ∧ w = w' := by
  have hb : (a != a) = false := by simp
  go_enter Try.func153, Try.ntmps153
  go_wp2
  go_ret
  exact ⟨rfl, rfl⟩

theorem cmpCompare_any (a b : Int) (w : World) : Calls Try.prog 138 #[.int .i64 a, .int .i64 b] w fun e w' => e = .returned (.int .i64 (cmpI a b)) ∧ w = w' := by
  unfold cmpI
  by_cases h : a < b
  · rw [if_pos h]
    go_enter Try.func138, Try.ntmps138
    go_wp2_with (go_at_call 153; refine (isNaN_any _ _).mono ?_; rintro e w' ⟨rfl, rfl⟩)
    go_ret
    exact ⟨rfl, rfl⟩
  · rw [if_neg h]
    by_cases h2 : b < a
    · rw [if_pos h2]
      go_enter Try.func138, Try.ntmps138
      go_wp2_with (go_at_call 153; refine (isNaN_any _ _).mono ?_; rintro e w' ⟨rfl, rfl⟩)
      go_ret
      exact ⟨rfl, rfl⟩
    · rw [if_neg h2]
      go_enter Try.func138, Try.ntmps138
      go_wp2_with (go_at_call 153; refine (isNaN_any _ _).mono ?_; rintro e w' ⟨rfl, rfl⟩)
      go_ret
      exact ⟨rfl, rfl⟩

theorem slicesCompare_any (l m : List Int) (v u : Value) (w : World) (hv : Ints w v l) (hu : Ints w u m) :
    Calls Try.prog 117 #[v, u] w fun e w' => e = .returned (.int .i64 (cmpL l m)) ∧ w = w' := by
  obtain ⟨hl1, b1, o1, c1, rfl, hc1⟩ := hv
  obtain ⟨hl2, b2, o2, c2, rfl, hc2⟩ := hu
  have h0 := cmpLF_zero l m
  have H0 := Lib.hid h0
  clear h0
  go_enter Try.func117, Try.ntmps117
  go_wp2
  go_loop [11] (fun i => ∃ k : Nat, k ≤ l.length ∧ i = .int .i64 k ∧ cmpL l m = cmpLF l m k) (fun i => l.length - (intOf i).toNat)
  case atStart => exact ⟨0, Nat.zero_le _, rfl, H0.out⟩
  case round =>
    clear H0
    obtain ⟨k, hk, rfl, hr⟩ := hrel
    have HR := Lib.hid hr
    clear hr
    by_cases hlt : k < l.length
    · have e1 := hc1 k hlt
      by_cases hlm : k < m.length
      · have e2 := hc2 k hlm
        cases hz : (cmpI (ix l k) (ix m k) != 0) with
        | true =>
          go_wp2_with (go_at_call 138; refine (cmpCompare_any _ _ _).mono ?_; rintro e w' ⟨rfl, rfl⟩)
          go_ret
          exact ⟨ret_int (by rw [HR.out, cmpLF_ne hlt hlm (by simpa using hz)]), rfl⟩
        | false =>
          go_wp2_with (go_at_call 138; refine (cmpCompare_any _ _ _).mono ?_; rintro e w' ⟨rfl, rfl⟩)
          go_round
          case rel => exact ⟨k + 1, by omega, by go_num, by rw [HR.out, cmpLF_eq hlt hlm (by simpa using hz)]⟩
          case measure => simp [intOf]; omega
      · go_wp2
        go_ret
        exact ⟨ret_int (by rw [HR.out, cmpLF_more hlt (by omega)]), rfl⟩
    · by_cases hlm : l.length < m.length
      · go_wp2
        go_ret
        exact ⟨ret_int (by rw [HR.out, cmpLF_less (by omega) (by omega)]), rfl⟩
      · go_wp2
        go_ret
        exact ⟨ret_int (by rw [HR.out, cmpLF_end (by omega) (by omega)]), rfl⟩

theorem compareTables1_any (l m : List Int) (v u : Value) (w : World) (hv : Ints w v l) (hu : Ints w u m) :
    Calls Try.prog 135 #[v, u] w fun e w' => e = .returned (.int .i64 (cmpL l m)) ∧ w = w' := by
  go_enter Try.func135, Try.ntmps135
  go_wp2_with (go_at_call 117; refine (slicesCompare_any l m _ _ _ hv hu).mono ?_; rintro e w' ⟨rfl, rfl⟩)
  go_ret
  exact ⟨rfl, rfl⟩

theorem callCompareTables1 (args : Array Value) (w : World) : (callFunc 135 args).run Try.prog w = .ok (.enter 135 args) w :=
  callFunc_enter Try.func135 (by kernel_rfl) rfl args w

theorem compareFunc_any (s t : List (List Int)) (v u : Value) (w : World) (hv : Rows w v s) (hu : Rows w u t) :
    Calls Try.prog 134 #[v, u, .func (.func 135) #[] #[]] w fun e w' => e = .returned (.int .i64 (cmpT s t)) ∧ w = w' := by
  obtain ⟨hl1, b1, o1, c1, rfl, hc1⟩ := hv
  obtain ⟨hl2, b2, o2, c2, rfl, hc2⟩ := hu
  have h0 := cmpTF_zero s t
  have H0 := Lib.hid h0
  clear h0
  have hcall := callCompareTables1
  go_enter Try.func134, Try.ntmps134
  go_wp2
  go_loop [13] (fun i => ∃ k : Nat, k ≤ s.length ∧ i = .int .i64 k ∧ cmpT s t = cmpTF s t k) (fun i => s.length - (intOf i).toNat)
  case atStart => exact ⟨0, Nat.zero_le _, rfl, H0.out⟩
  case round =>
    clear H0
    obtain ⟨k, hk, rfl, hr⟩ := hrel
    have HR := Lib.hid hr
    clear hr
    by_cases hlt : k < s.length
    · obtain ⟨d1, p1, q1, g1, i1, m1⟩ := hc1.get hlt
      have j1 := i1.ints m1 q1
      clear i1
      by_cases hlm : k < t.length
      · obtain ⟨d2, p2, q2, g2, i2, m2⟩ := hc2.get hlm
        have j2 := i2.ints m2 q2
        clear i2
        cases hz : (cmpL (row s k) (row t k) != 0) with
        | true =>
          go_wp2_with (refine (compareTables1_any (row s k) (row t k) _ _ _ j1 j2).mono ?_; rintro e w' ⟨rfl, rfl⟩)
          go_ret
          exact ⟨ret_int (by rw [HR.out, cmpTF_ne hlt hlm (by simpa using hz)]), rfl⟩
        | false =>
          go_wp2_with (refine (compareTables1_any (row s k) (row t k) _ _ _ j1 j2).mono ?_; rintro e w' ⟨rfl, rfl⟩)
          go_round
          case rel => exact ⟨k + 1, by omega, by go_num, by rw [HR.out, cmpTF_eq hlt hlm (by simpa using hz)]⟩
          case measure => simp [intOf]; omega
      · go_wp2
        go_ret
        exact ⟨ret_int (by rw [HR.out, cmpTF_more hlt (by omega)]), rfl⟩
    · by_cases hlm : s.length < t.length
      · go_wp2
        go_ret
        exact ⟨ret_int (by rw [HR.out, cmpTF_less (by omega) (by omega)]), rfl⟩
      · go_wp2
        go_ret
        exact ⟨ret_int (by rw [HR.out, cmpTF_end (by omega) (by omega)]), rfl⟩

theorem compareTables_any (s t : List (List Int)) (v u : Value) (w : World) (hv : Rows w v s) (hu : Rows w u t) :
    Calls Try.prog 110 #[v, u] w fun e w' => e = .returned (.int .i64 (cmpT s t)) ∧ w = w' := by
  go_enter Try.func110, Try.ntmps110
  go_wp2_with (go_at_call 134; refine (compareFunc_any s t _ _ _ hv hu).mono ?_; rintro e w' ⟨rfl, rfl⟩)
  go_ret
  exact ⟨rfl, rfl⟩

end Go.Proofs.Ytjhfieegkgndfaa

/-
  Contracts: faults of braces.
-/
namespace Go.Proofs.Ytjhfieegkgndfaa
set_option linter.unusedVariables false
set_option linter.unusedSimpArgs false
open Go.RowKit

/-- three numbers just made -/
theorem ints3 (w : World) (x y z : Int) (T : Nat) : IntsAt (w.alloc (.cells #[.int .i64 x, .int .i64 y, .int .i64 z] T)) w.heap.size 0 [x, y, z] := fun i hi => by
  rw [ix_eq]
  match i, hi with
  | 0, _ => simp [go_sem]
  | 1, _ => simp [go_sem]
  | 2, _ => simp [go_sem]
theorem own3 (w : World) (x y z : Int) (T : Nat) : OwnI w.heap.size (w.heap.size + 1) (w.alloc (.cells #[.int .i64 x, .int .i64 y, .int .i64 z] T)) w.heap.size 0 [x, y, z] :=
  ⟨Nat.le_refl _, by omega, ints3 w x y z T, fun i _ => by simp [go_sem]⟩

set_option maxRecDepth 100000 in
set_option maxHeartbeats 1000000 in
theorem l11Fault_any (t u : List (List Int)) (v y : Value) (w : World) (hv : Rows w v t) (hy : Rows w y u) (hG : GroupOk t) (hU : GroupOk u) (hl : t.length = u.length) :
    Calls Try.prog 64 #[.agg #[v, y]] w fun e w' => ∃ v, e = .returned v ∧ (∃ a c, v = .slice a (faultL t u).length c) ∧ IntsR w' v (faultL t u) ∧ Ext w w' := by
  obtain ⟨hlen, b, o, c, rfl, hc⟩ := id hv
  obtain ⟨hlen2, b2, o2, c2, rfl, hc2⟩ := id hy
  have h12 := hG.1.2.1
  have HT := Lib.hid hG
  have HU := Lib.hid hU
  have HB := Lib.hid (fun x (hx : x < t.length) => backF_ok hG hx)
  clear hG hU
  rw [← hl]
  have HL := Lib.hid hl
  clear hl
  have hx0 := ext_boxB w (.slice (some ⟨b, o, none⟩) t.length c) (.slice (some ⟨b2, o2, none⟩) t.length c2) 24
  have k0 := cell_new2a w (.slice (some ⟨b, o, none⟩) t.length c) (.slice (some ⟨b2, o2, none⟩) t.length c2) 24
  have k1 := cell_new2b w (.slice (some ⟨b, o, none⟩) t.length c) (.slice (some ⟨b2, o2, none⟩) t.length c2) 24
  go_enter Try.func64, Try.ntmps64
  go_wp2
  generalize (w.alloc (.cells #[.slice (some ⟨b, o, none⟩) t.length c, .slice (some ⟨b2, o2, none⟩) t.length c2] 24)) = A at *
  go_loopw [4] (fun i wr => ∃ x : Nat, x ≤ t.length ∧ i = .int .i64 x ∧ NoX t u x ∧ Ext A wr) (fun i _ => t.length - (intOf i).toNat)
  case atStart => exact ⟨0, Nat.zero_le _, rfl, NoX.zero t u, Ext.refl _⟩
  case round =>
    obtain ⟨x, hx, rfl, hno, hxA⟩ := hrel
    have HX := Lib.hid hno
    clear hno
    have j0 := hxA.cell k0
    have j1 := hxA.cell k1
    by_cases hxl : x < t.length
    case neg =>
      go_wp2
      go_ret
      have hxx : x = t.length := by omega
      subst hxx
      rw [faultL_none HX.out]
      exact ⟨_, rfl, ⟨none, 0, rfl⟩, IntsR.nil _ _, hx0.trans hxA⟩
    case pos =>
      obtain ⟨w2, rfl⟩ : ∃ w2 : World, w2 = wr := ⟨_, rfl⟩
      have hb := HB.out x hxl
      go_wp2_with (go_at_call 97; refine (l10Back_any t _ x _ (hv.ext (hx0.trans hxA)) hxl).mono ?_; rintro e w' ⟨rfl, rfl⟩)
      go_loopw [6] (fun i wr => ∃ y : Nat, y ≤ t.length ∧ i = .int .i64 y ∧ NoY t u x y ∧ Ext w2 wr) (fun i _ => t.length - (intOf i).toNat)
      case atStart => exact ⟨0, Nat.zero_le _, rfl, NoY.zero t u x, Ext.refl _⟩
      case round =>
        obtain ⟨y, hyy, rfl, hno, hxB⟩ := hrel
        have HY := Lib.hid hno
        clear hno
        by_cases hyl : y < t.length
        case neg =>
          go_wp2
          go_roundw
          case rel =>
            have hyy : y = t.length := by omega
            subst hyy
            exact ⟨x + 1, by omega, by go_num, HX.out.succ HY.out, hxA.trans hxB⟩
          case measure => simp [intOf]; omega
        case pos =>
          obtain ⟨w3, rfl⟩ : ∃ w3 : World, w3 = wr := ⟨_, rfl⟩
          go_wp2
          go_loopw [7] (fun i wr => ∃ z : Nat, z ≤ t.length ∧ i = .int .i64 z ∧ NoZ t u x y z ∧ Ext w3 wr) (fun i _ => t.length - (intOf i).toNat)
          case atStart => exact ⟨0, Nat.zero_le _, rfl, NoZ.zero t u x y, Ext.refl _⟩
          case round =>
            obtain ⟨z, hzz, rfl, hno, hxC⟩ := hrel
            have HZ := Lib.hid hno
            clear hno
            by_cases hzl : z < t.length
            case neg =>
              go_wp2
              go_roundw
              case rel =>
                have hzz : z = t.length := by omega
                subst hzz
                exact ⟨y + 1, by omega, by go_num, HY.out.succ HZ.out, hxB.trans hxC⟩
              case measure => simp [intOf]; omega
            case pos =>
              have hXC := (hx0.trans hxA).trans (hxB.trans hxC)
              have i0 := (hxB.trans hxC).cell j0
              have i1 := (hxB.trans hxC).cell j1
              have p := HT.out.1.bd hyl hzl
              have q := HU.out.1.bd (x := x) (y := y) (by have := HL.out; omega) (by have := HL.out; omega)
              rw [← HL.out] at q
              obtain ⟨d1, s1, m1, r1, l1, -⟩ := (hc2.ext hXC).get (i := x) (by have := HL.out; omega)
              obtain ⟨d2, s2, m2, r2, l2, -⟩ := (hc.ext hXC).get (i := y) (by omega)
              obtain ⟨d3, s3, m3, r3, l3, -⟩ := (hc.ext hXC).get (i := (ent u x y).toNat) (by omega)
              have g := HT.out.1.bd (x := (ent u x y).toNat) (y := (backF t x).toNat) (by omega) (by omega)
              obtain ⟨d4, s4, m4, r4, l4, -⟩ := (hc.ext hXC).get (i := (ent t (ent u x y).toNat (backF t x).toNat).toNat) (by omega)
              have qz := HU.out.1.bd (x := x) (y := z) (by have := HL.out; omega) (by have := HL.out; omega)
              rw [← HL.out] at qz
              have lx := HU.out.1.len (x := x) (by have := HL.out; omega)
              rw [← HL.out] at lx
              have f1 := l1.ent lx (y := y) (by omega)
              have f2 := l1.ent lx (y := z) (by omega)
              have f3 := l2.ent (HT.out.1.len (x := y) (by omega)) (y := z) (by omega)
              have f4 := l1.ent lx (y := (ent t y z).toNat) (by omega)
              have f5 := l3.ent (HT.out.1.len (x := (ent u x y).toNat) (by omega)) (y := (backF t x).toNat) (by omega)
              have f6 := l4.ent (HT.out.1.len (x := (ent t (ent u x y).toNat (backF t x).toNat).toNat) (by omega)) (y := (ent u x z).toNat) (by omega)
              rw [lx] at r1
              rw [HT.out.1.len (x := y) (by omega)] at r2
              rw [HT.out.1.len (x := (ent u x y).toNat) (by omega)] at r3
              rw [HT.out.1.len (x := (ent t (ent u x y).toNat (backF t x).toNat).toNat) (by omega)] at r4
              rw [leftF_def] at f4
              rw [rightF_def] at f6
              clear l1 l2 l3 l4 lx
              cases hne : (leftF t u x y z != rightF t u x y z) with
              | true =>
                go_wp2
                go_quiet (fail)
                go_wp2
                go_quiet (fail)
                go_wp2
                go_ret
                rw [faultL_at hxl hyl hzl (by simpa using hne) HX.out HY.out HZ.out]
                exact ⟨_, rfl, ⟨_, _, rfl⟩, ⟨_, _, rfl, fun _ => ⟨_, _, rfl, ints3 _ _ _ _ _⟩⟩, (hXC.drewN _).alloc _⟩
              | false =>
                go_wp2
                go_quiet (fail)
                go_wp2
                go_quiet (fail)
                go_wp2
                go_roundw
                case rel => exact ⟨z + 1, by omega, by go_num, HZ.out.succ (by simpa using hne), hxC.drewN _⟩
                case measure => simp [intOf]; omega

/-- what braceFault returns: nil or three numbers, in new memory -/
def FaultV (t u : List (List Int)) (w : World) (e : Ending) (w' : World) : Prop :=
  ∃ v, e = .returned v ∧ OwnIV w.heap.size w'.heap.size w' v (faultL t u) ∧ ((faultL t u = [] ∧ v = .slice none 0 0) ∨ ((faultL t u).length = 3 ∧ ∃ b c, v = .slice (some ⟨b, 0, none⟩) 3 c)) ∧ Ext w w'

set_option maxRecDepth 100000 in
set_option maxHeartbeats 1000000 in
theorem braceFault_any (t u : List (List Int)) (v y : Value) (w : World) (hv : Rows w v t) (hy : Rows w y u) (hG : GroupOk t) (hU : GroupOk u) (hl : t.length = u.length) :
    Calls Try.prog 69 #[.agg #[v, y]] w (FaultV t u w) := by
  obtain ⟨hlen, b, o, c, rfl, hc⟩ := id hv
  obtain ⟨hlen2, b2, o2, c2, rfl, hc2⟩ := id hy
  have h12 := hG.1.2.1
  have HT := Lib.hid hG
  have HU := Lib.hid hU
  have HB := Lib.hid (fun x (hx : x < t.length) => backF_ok hG hx)
  clear hG hU
  rw [← hl]
  have HL := Lib.hid hl
  clear hl
  have hx0 := ext_boxB w (.slice (some ⟨b, o, none⟩) t.length c) (.slice (some ⟨b2, o2, none⟩) t.length c2) 24
  have k0 := cell_new2a w (.slice (some ⟨b, o, none⟩) t.length c) (.slice (some ⟨b2, o2, none⟩) t.length c2) 24
  have k1 := cell_new2b w (.slice (some ⟨b, o, none⟩) t.length c) (.slice (some ⟨b2, o2, none⟩) t.length c2) 24
  go_enter Try.func69, Try.ntmps69
  go_wp2_with fail
  generalize (w.alloc (.cells #[.slice (some ⟨b, o, none⟩) t.length c, .slice (some ⟨b2, o2, none⟩) t.length c2] 24)) = A0 at *
  refine (groupInverses_any t _ _ (hv.ext hx0)).mono ?_
  rintro e A ⟨bb, cb, rfl, hib, hxb⟩
  replace k0 := hxb.cell k0
  replace k1 := hxb.cell k1
  replace hx0 := hx0.trans hxb
  clear hxb
  go_wp2
  go_loopw [15] (fun i wr => ∃ x : Nat, x ≤ t.length ∧ i = .int .i64 x ∧ NoX t u x ∧ Ext A wr) (fun i _ => t.length - (intOf i).toNat)
  case atStart => exact ⟨0, Nat.zero_le _, rfl, NoX.zero t u, Ext.refl _⟩
  case round =>
    obtain ⟨x, hx, rfl, hno, hxA⟩ := hrel
    have HX := Lib.hid hno
    clear hno
    have j0 := hxA.cell k0
    have j1 := hxA.cell k1
    by_cases hxl : x < t.length
    case neg =>
      go_wp2
      go_ret
      have hxx : x = t.length := by omega
      subst hxx
      have hf := faultL_none HX.out
      refine ⟨_, rfl, ?_, .inl ⟨hf, rfl⟩, hx0.trans hxA⟩
      rw [hf]; exact OwnIV.nil _ _ _
    case pos =>
      obtain ⟨w2, rfl⟩ : ∃ w2 : World, w2 = wr := ⟨_, rfl⟩
      have hb := HB.out x hxl
      go_wp2
      go_loopw [19] (fun i wr => ∃ y : Nat, y ≤ t.length ∧ i = .int .i64 y ∧ NoY t u x y ∧ Ext w2 wr) (fun i _ => t.length - (intOf i).toNat)
      case atStart => exact ⟨0, Nat.zero_le _, rfl, NoY.zero t u x, Ext.refl _⟩
      case round =>
        obtain ⟨y, hyy, rfl, hno, hxB⟩ := hrel
        have HY := Lib.hid hno
        clear hno
        by_cases hyl : y < t.length
        case neg =>
          go_wp2
          go_roundw
          case rel =>
            have hyy : y = t.length := by omega
            subst hyy
            exact ⟨x + 1, by omega, by go_num, HX.out.succ HY.out, hxA.trans hxB⟩
          case measure => simp [intOf]; omega
        case pos =>
          obtain ⟨w3, rfl⟩ : ∃ w3 : World, w3 = wr := ⟨_, rfl⟩
          go_wp2
          go_loopw [23] (fun i wr => ∃ z : Nat, z ≤ t.length ∧ i = .int .i64 z ∧ NoZ t u x y z ∧ Ext w3 wr) (fun i _ => t.length - (intOf i).toNat)
          case atStart => exact ⟨0, Nat.zero_le _, rfl, NoZ.zero t u x y, Ext.refl _⟩
          case round =>
            obtain ⟨z, hzz, rfl, hno, hxC⟩ := hrel
            have HZ := Lib.hid hno
            clear hno
            by_cases hzl : z < t.length
            case neg =>
              go_wp2
              go_roundw
              case rel =>
                have hzz : z = t.length := by omega
                subst hzz
                exact ⟨y + 1, by omega, by go_num, HY.out.succ HZ.out, hxB.trans hxC⟩
              case measure => simp [intOf]; omega
            case pos =>
              have hXC := (hx0.trans hxA).trans (hxB.trans hxC)
              have i0 := (hxB.trans hxC).cell j0
              have i1 := (hxB.trans hxC).cell j1
              have ib := (hib.ext (hxA.trans (hxB.trans hxC))) x (by rw [length_backs]; exact hxl)
              rw [ix_backs _ _ hxl, Nat.zero_add] at ib
              have p := HT.out.1.bd hyl hzl
              have q := HU.out.1.bd (x := x) (y := y) (by have := HL.out; omega) (by have := HL.out; omega)
              rw [← HL.out] at q
              obtain ⟨d1, s1, m1, r1, l1, -⟩ := (hc2.ext hXC).get (i := x) (by have := HL.out; omega)
              obtain ⟨d2, s2, m2, r2, l2, -⟩ := (hc.ext hXC).get (i := y) (by omega)
              obtain ⟨d3, s3, m3, r3, l3, -⟩ := (hc.ext hXC).get (i := (ent u x y).toNat) (by omega)
              have g := HT.out.1.bd (x := (ent u x y).toNat) (y := (backF t x).toNat) (by omega) (by omega)
              obtain ⟨d4, s4, m4, r4, l4, -⟩ := (hc.ext hXC).get (i := (ent t (ent u x y).toNat (backF t x).toNat).toNat) (by omega)
              have qz := HU.out.1.bd (x := x) (y := z) (by have := HL.out; omega) (by have := HL.out; omega)
              rw [← HL.out] at qz
              have lx := HU.out.1.len (x := x) (by have := HL.out; omega)
              rw [← HL.out] at lx
              have f1 := l1.ent lx (y := y) (by omega)
              have f2 := l1.ent lx (y := z) (by omega)
              have f3 := l2.ent (HT.out.1.len (x := y) (by omega)) (y := z) (by omega)
              have f4 := l1.ent lx (y := (ent t y z).toNat) (by omega)
              have f5 := l3.ent (HT.out.1.len (x := (ent u x y).toNat) (by omega)) (y := (backF t x).toNat) (by omega)
              have f6 := l4.ent (HT.out.1.len (x := (ent t (ent u x y).toNat (backF t x).toNat).toNat) (by omega)) (y := (ent u x z).toNat) (by omega)
              rw [lx] at r1
              rw [HT.out.1.len (x := y) (by omega)] at r2
              rw [HT.out.1.len (x := (ent u x y).toNat) (by omega)] at r3
              rw [HT.out.1.len (x := (ent t (ent u x y).toNat (backF t x).toNat).toNat) (by omega)] at r4
              rw [leftF_def] at f4
              rw [rightF_def] at f6
              clear l1 l2 l3 l4 lx
              cases hne : (leftF t u x y z != rightF t u x y z) with
              | true =>
                go_wp2
                go_quiet (fail)
                go_wp2
                go_ret
                have hf := faultL_at hxl hyl hzl (by simpa using hne) HX.out HY.out HZ.out
                have hsz := hXC.size
                refine ⟨_, rfl, ?_, .inr ⟨by rw [hf]; rfl, _, _, rfl⟩, (hXC.drewN _).alloc _⟩
                rw [hf]
                exact ⟨by simp, _, _, rfl, fun _ => ⟨_, _, rfl, (own3 _ _ _ _ _).mono (by simpa using hsz) (by simp)⟩⟩
              | false =>
                go_wp2
                go_quiet (fail)
                go_wp2
                go_roundw
                case rel => exact ⟨z + 1, by omega, by go_num, HZ.out.succ (by simpa using hne), hxC.drewN _⟩
                case measure => simp [intOf]; omega
end Go.Proofs.Ytjhfieegkgndfaa

/-
  Contracts of IsBrace, BraceFault, IsBiSkewBrace: reference and program.
-/
namespace Go.Proofs.Ytjhfieegkgndfaa
set_option linter.unusedVariables false
set_option linter.unusedSimpArgs false
open Go.RowKit

/-- what BraceFault returns -/
@[irreducible] noncomputable def bfL (t u : List (List Int)) : List Int := if twoB t u = true then faultL t u else []
@[irreducible] noncomputable def bfC (t u : List (List Int)) : Int := if twoB t u = true then (if faultL t u = [] then 4 else 0) else 1
theorem bf_no {t u} (h : twoB t u = false) : bfL t u = [] ∧ bfC t u = 1 := by unfold bfL bfC; rw [if_neg (by rw [h]; simp), if_neg (by rw [h]; simp)]; exact ⟨rfl, rfl⟩
theorem bf_none {t u} (h : twoB t u = true) (h2 : faultL t u = []) : bfL t u = [] ∧ bfC t u = 4 := by unfold bfL bfC; rw [if_pos h, if_pos h, if_pos h2]; exact ⟨h2, rfl⟩
theorem bf_yes {t u} (h : twoB t u = true) (h2 : faultL t u ≠ []) : bfL t u = faultL t u ∧ bfC t u = 0 := by unfold bfL bfC; rw [if_pos h, if_pos h, if_neg h2]; exact ⟨rfl, rfl⟩
@[irreducible] noncomputable def noFaultB (t u : List (List Int)) : Bool := (faultL t u).isEmpty
theorem noFault_yes {t u} (h : faultL t u = []) : noFaultB t u = true := by unfold noFaultB; simp [h]
theorem noFault_no {t u} (h : faultL t u ≠ []) : noFaultB t u = false := by unfold noFaultB; simp [h]
set_option maxRecDepth 1000000 in
theorem eqNil0 (w : World) : (binOp .eql 65 (.slice none 0 0) (.slice none 0 0)).run Try.prog w = .ok (.bool true) w := rfl
set_option maxRecDepth 1000000 in
theorem eqNil1 (b n c : Nat) (w : World) : (binOp .eql 65 (.slice (some ⟨b, 0, none⟩) n c) (.slice none 0 0)).run Try.prog w = .ok (.bool false) w := rfl

set_option maxRecDepth 100000 in
theorem areBraceTables_any (t u : List (List Int)) (v y : Value) (w : World) (hv : Rows w v t) (hy : Rows w y u) :
    Calls Try.prog 68 #[.agg #[v, y]] w fun e w' => e = .returned (.bool (twoB t u)) ∧ Ext w w' := by
  obtain ⟨hlen, b, o, c, rfl, hc⟩ := id hv
  obtain ⟨hlen2, b2, o2, c2, rfl, hc2⟩ := id hy
  have hx0 := ext_boxB w (.slice (some ⟨b, o, none⟩) t.length c) (.slice (some ⟨b2, o2, none⟩) u.length c2) 24
  have k0 := cell_new2a w (.slice (some ⟨b, o, none⟩) t.length c) (.slice (some ⟨b2, o2, none⟩) u.length c2) 24
  have k1 := cell_new2b w (.slice (some ⟨b, o, none⟩) t.length c) (.slice (some ⟨b2, o2, none⟩) u.length c2) 24
  cases hg : groupB t with
  | false =>
    rw [twoB_1 hg]
    go_enter Try.func68, Try.ntmps68
    go_wp2_with fail
    refine (isGroupTable_any t _ _ (hv.ext hx0)).mono ?_
    rintro e w1 ⟨rfl, hx1⟩
    rw [hg]
    go_wp2
    go_ret
    exact ⟨rfl, hx0.trans hx1⟩
  | true =>
    cases hg2 : groupB u with
    | false =>
      rw [twoB_2 hg2]
      go_enter Try.func68, Try.ntmps68
      go_wp2_with fail
      refine (isGroupTable_any t _ _ (hv.ext hx0)).mono ?_
      rintro e w1 ⟨rfl, hx1⟩
      rw [hg]
      have j1 := hx1.cell k1
      go_wp2_with fail
      refine (isGroupTable_any u _ _ (hy.ext (hx0.trans hx1))).mono ?_
      rintro e w2 ⟨rfl, hx2⟩
      rw [hg2]
      go_wp2
      go_ret
      exact ⟨rfl, (hx0.trans hx1).trans hx2⟩
    | true =>
      cases hl : ((t.length : Int) == (u.length : Int)) with
      | false =>
        rw [twoB_3 (fun h => by rw [h] at hl; simp at hl)]
        go_enter Try.func68, Try.ntmps68
        go_wp2_with fail
        refine (isGroupTable_any t _ _ (hv.ext hx0)).mono ?_
        rintro e w1 ⟨rfl, hx1⟩
        rw [hg]
        have j0 := hx1.cell k0
        have j1 := hx1.cell k1
        go_wp2_with fail
        refine (isGroupTable_any u _ _ (hy.ext (hx0.trans hx1))).mono ?_
        rintro e w2 ⟨rfl, hx2⟩
        rw [hg2]
        have i0 := hx2.cell j0
        have i1 := hx2.cell j1
        go_wp2
        go_ret
        exact ⟨rfl, (hx0.trans hx1).trans hx2⟩
      | true =>
        rw [twoB_yes hg hg2 (by have := eq_of_beq hl; omega)]
        go_enter Try.func68, Try.ntmps68
        go_wp2_with fail
        refine (isGroupTable_any t _ _ (hv.ext hx0)).mono ?_
        rintro e w1 ⟨rfl, hx1⟩
        rw [hg]
        have j0 := hx1.cell k0
        have j1 := hx1.cell k1
        go_wp2_with fail
        refine (isGroupTable_any u _ _ (hy.ext (hx0.trans hx1))).mono ?_
        rintro e w2 ⟨rfl, hx2⟩
        rw [hg2]
        have i0 := hx2.cell j0
        have i1 := hx2.cell j1
        go_wp2
        go_ret
        exact ⟨rfl, (hx0.trans hx1).trans hx2⟩

set_option maxRecDepth 100000 in
theorem IsBrace_impl (t u : List (List Int)) (v y : Value) (w : World) (hv : Rows w v t) (hy : Rows w y u) :
    Calls Try.prog 45 #[.agg #[v, y]] w fun e w' => e = .returned (.bool (braceB t u)) ∧ Ext w w' := by
  obtain ⟨hlen, b, o, c, rfl, hc⟩ := id hv
  obtain ⟨hlen2, b2, o2, c2, rfl, hc2⟩ := id hy
  have hx0 := ext_boxB w (.slice (some ⟨b, o, none⟩) t.length c) (.slice (some ⟨b2, o2, none⟩) u.length c2) 24
  have k0 := cell_new2a w (.slice (some ⟨b, o, none⟩) t.length c) (.slice (some ⟨b2, o2, none⟩) u.length c2) 24
  have k1 := cell_new2b w (.slice (some ⟨b, o, none⟩) t.length c) (.slice (some ⟨b2, o2, none⟩) u.length c2) 24
  cases hg : twoB t u with
  | false =>
    rw [braceB_1 hg]
    go_enter Try.func45, Try.ntmps45
    go_wp2_with fail
    refine (areBraceTables_any t u _ _ _ (hv.ext hx0) (hy.ext hx0)).mono ?_
    rintro e w1 ⟨rfl, hx1⟩
    rw [hg]
    go_wp2
    go_ret
    exact ⟨rfl, hx0.trans hx1⟩
  | true =>
    obtain ⟨hG, hU, hl⟩ := twoB_iff.1 hg
    have HL := Lib.hid hl
    clear hl
    have e0 := eqNil0
    have e1 := eqNil1
    by_cases hf : faultL t u = []
    · rw [braceB_yes hg hf]
      have HF := Lib.hid hf
      clear hf
      go_enter Try.func45, Try.ntmps45
      go_wp2_with fail
      refine (areBraceTables_any t u _ _ _ (hv.ext hx0) (hy.ext hx0)).mono ?_
      rintro e w1 ⟨rfl, hx1⟩
      rw [hg]
      have j0 := hx1.cell k0
      have j1 := hx1.cell k1
      go_wp2_with fail
      refine (braceFault_any t u _ _ _ (hv.ext (hx0.trans hx1)) (hy.ext (hx0.trans hx1)) hG hU HL.out).mono ?_
      rintro e w2 ⟨r, rfl, -, hr, hx2⟩
      rcases hr with ⟨-, rfl⟩ | ⟨h3, -⟩
      · go_wp2
        go_ret
        exact ⟨rfl, (hx0.trans hx1).trans hx2⟩
      · rw [HF.out] at h3; simp at h3
    · rw [braceB_2 hf]
      have HF := Lib.hid hf
      clear hf
      go_enter Try.func45, Try.ntmps45
      go_wp2_with fail
      refine (areBraceTables_any t u _ _ _ (hv.ext hx0) (hy.ext hx0)).mono ?_
      rintro e w1 ⟨rfl, hx1⟩
      rw [hg]
      have j0 := hx1.cell k0
      have j1 := hx1.cell k1
      go_wp2_with fail
      refine (braceFault_any t u _ _ _ (hv.ext (hx0.trans hx1)) (hy.ext (hx0.trans hx1)) hG hU HL.out).mono ?_
      rintro e w2 ⟨r, rfl, -, hr, hx2⟩
      rcases hr with ⟨h3, -⟩ | ⟨-, rb, rc, rfl⟩
      · exact absurd h3 HF.out
      · go_wp2
        go_ret
        exact ⟨rfl, (hx0.trans hx1).trans hx2⟩
end Go.Proofs.Ytjhfieegkgndfaa
