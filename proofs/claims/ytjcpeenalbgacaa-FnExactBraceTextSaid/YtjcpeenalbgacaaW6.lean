/-
  Contract of the program: is it the table of a group.
-/
import Derived.Test.YtjcpeenalbgacaaProg
import Derived.Test.YtjcpeenalbgacaaBase
import Derived.Test.YtjcpeenalbgacaaPure1
import Derived.Test.YtjcpeenalbgacaaW1
import Derived.Test.YtjcpeenalbgacaaW5
namespace Go.Proofs.Ytjcpeenalbgacaa
set_option linter.unusedVariables false
set_option linter.unusedSimpArgs false
open Go.RowKit

set_option maxRecDepth 100000 in
theorem isGroupTable_any (t : List (List Int)) (v : Value) (w : World) (hv : Rows w v t) :
    Calls Try.prog 132 #[v] w fun e w' => e = .returned (.bool (groupB t)) ∧ Ext w w' := by
  by_cases hT : TableOk t
  case neg =>
    have hB := tableB_no hT
    go_enter Try.func132, Try.ntmps132
    go_wp2_with fail
    refine (IsTable_any t _ _ hv).mono ?_
    rintro e w1 ⟨rfl, hx1⟩
    go_wp2
    go_ret
    exact ⟨ret_bool (groupB_no (fun h => hT h.1)).symm, hx1⟩
  case pos =>
    have hB := tableB_yes hT
    cases hP : permRowsB t with
    | false =>
      go_enter Try.func132, Try.ntmps132
      go_wp2_with fail
      refine (IsTable_any t _ _ hv).mono ?_
      rintro e w1 ⟨rfl, hx1⟩
      go_wp2_with fail
      refine (permutationRows_any t _ _ (hv.ext hx1)).mono ?_
      rintro e w2 ⟨rfl, hx2⟩
      go_wp2
      go_ret
      exact ⟨ret_bool (groupB_no (fun h => absurd (permRowsB_iff.2 h.2.1) (by rw [hP]; simp))).symm, hx1.trans hx2⟩
    | true =>
    have hv' := hv
    obtain ⟨hlen, b, o, c, rfl, hc⟩ := hv
    have HT := Lib.hid hT
    have h1 := hT.1
    have h2 := hT.2.1
    clear hT
    have HP := Lib.hid (permRowsB_iff.1 hP)
    go_enter Try.func132, Try.ntmps132
    go_wp2_with fail
    refine (IsTable_any t _ _ hv').mono ?_
    rintro e w1 ⟨rfl, hx1⟩
    go_wp2_with fail
    refine (permutationRows_any t _ _ (hv'.ext hx1)).mono ?_
    rintro e w2 ⟨rfl, hx2⟩
    have hx := hx1.trans hx2
    clear hx1 hx2
    go_wp2
    clear hB hP
    go_loopw [16] (fun x wr => ∃ k : Nat, k ≤ t.length ∧ x = .int .i64 k ∧ UnitAssocTo t t.length k ∧ Ext w wr) (fun x _ => t.length - (intOf x).toNat)
    case atStart => exact ⟨0, Nat.zero_le _, rfl, UnitAssocTo.zero _ _, hx⟩
    case round =>
      clear hx
      obtain ⟨k, hk, rfl, hua, hx⟩ := hrel
      by_cases hlt : k < t.length
      case neg =>
        go_wp2
        go_ret
        exact ⟨ret_bool (groupB_yes ⟨HT.out, HP.out, hua.mono (by omega)⟩).symm, hx⟩
      case pos =>
        obtain ⟨b0, o0, c0, hr0, hc0, -⟩ := (hc.ext hx).head (by omega)
        obtain ⟨b1, o1, c1, hr, hc1, hl⟩ := (hc.ext hx).get hlt
        have hl0 := HT.out.len (x := 0) (by omega)
        have hl1 := HT.out.len hlt
        have e0 := hc0.ent hl0 hlt
        have e1 := hc1.ent0 hl1 (by omega)
        rw [hl0] at hr0
        rw [hl1] at hr
        clear hl0 hc0
        cases hu0 : (ent t 0 k != (k : Int)) with
        | true =>
          go_wp2
          go_ret
          exact ⟨ret_bool (groupB_no (fun h => absurd (h.2.2 k hlt).1.1 (by simpa using hu0))).symm, hx⟩
        | false =>
          cases hu1 : (ent t k 0 != (k : Int)) with
          | true =>
            go_wp2
            go_ret
            exact ⟨ret_bool (groupB_no (fun h => absurd (h.2.2 k hlt).1.2 (by simpa using hu1))).symm, hx⟩
          | false =>
            have hun : UnitAt t k := ⟨by simpa using hu0, by simpa using hu1⟩
            go_wp2
            clear hu0 hu1 e0 e1 hr0 hr hc1
            obtain ⟨w3, rfl⟩ : ∃ w1 : World, w1 = wr := ⟨_, rfl⟩
            go_loopw [39] (fun y wr => ∃ m : Nat, m ≤ t.length ∧ y = .int .i64 m ∧ AssocY t t.length k m ∧ Ext w wr) (fun y _ => t.length - (intOf y).toNat)
            case atStart => exact ⟨0, Nat.zero_le _, rfl, AssocY.zero _ _ _, hx⟩
            case round =>
              clear hx
              obtain ⟨m, hm, rfl, hay, hx⟩ := hrel
              by_cases hml : m < t.length
              case neg =>
                go_wp2
                go_roundw
                case rel => exact ⟨k + 1, by omega, by go_num, hua.succ hun (hay.mono (by omega)), hx⟩
                case measure => simp [intOf]; omega
              case pos =>
                go_wp2
                obtain ⟨w4, rfl⟩ : ∃ w1 : World, w1 = wr := ⟨_, rfl⟩
                go_loopw [44] (fun z wr => ∃ j : Nat, j ≤ t.length ∧ z = .int .i64 j ∧ AssocTo t k m j ∧ Ext w wr) (fun z _ => t.length - (intOf z).toNat)
                case atStart => exact ⟨0, Nat.zero_le _, rfl, AssocTo.zero _ _ _, hx⟩
                case round =>
                  clear hx
                  obtain ⟨j, hj, rfl, hato, hx⟩ := hrel
                  by_cases hjl : j < t.length
                  case neg =>
                    go_wp2
                    go_roundw
                    case rel => exact ⟨m + 1, by omega, by go_num, hay.succ (hato.mono (by omega)), hx⟩
                    case measure => simp [intOf]; omega
                  case pos =>
                    have bxy := HT.out.bd hlt hml
                    have byz := HT.out.bd hml hjl
                    have hcw := hc.ext hx
                    obtain ⟨b1, o1, c1, hr, hc1, -⟩ := hcw.get hlt
                    obtain ⟨b2, o2, c2, hrm, hc2, -⟩ := hcw.get hml
                    obtain ⟨b3, o3, c3, hrx, hc3, -⟩ := hcw.get (i := (ent t k m).toNat) (by omega)
                    have f1 := hc1.ent hl1 hml
                    have f2 := hc2.ent (HT.out.len hml) hjl
                    have f3 := hc1.ent (y := (ent t m j).toNat) hl1 (by omega)
                    have f4 := hc3.ent (HT.out.len (by omega)) hjl
                    clear hc1 hc2 hc3 hcw
                    rw [HT.out.len hml] at hrm
                    rw [HT.out.len hlt] at hr
                    rw [HT.out.len (x := (ent t k m).toNat) (by omega)] at hrx
                    cases ha : (ent t (ent t k m).toNat j != ent t k (ent t m j).toNat) with
                    | true =>
                      go_wp2
                      go_quiet (fail)
                      go_wp2
                      go_ret
                      exact ⟨ret_bool (groupB_no (fun h => absurd ((h.2.2 k hlt).2 m hml j hjl) (by simpa using ha))).symm, hx.drewN _⟩
                    | false =>
                      go_wp2
                      go_quiet (fail)
                      go_wp2
                      go_roundw
                      case rel => exact ⟨j + 1, by omega, by go_num, hato.succ (by simpa using ha), hx.drewN _⟩
                      case measure => simp [intOf]; omega

end Go.Proofs.Ytjcpeenalbgacaa
