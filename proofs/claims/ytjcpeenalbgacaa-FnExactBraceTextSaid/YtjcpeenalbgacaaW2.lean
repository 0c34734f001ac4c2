/-
  Contracts: is it a table, by the reference and by the program.
-/
import Derived.Test.YtjcpeenalbgacaaProg
import Derived.Test.YtjcpeenalbgacaaBase
import Derived.Test.YtjcpeenalbgacaaPure1
import Derived.Test.YtjcpeenalbgacaaW1
namespace Go.Proofs.Ytjcpeenalbgacaa
set_option linter.unusedVariables false
set_option linter.unusedSimpArgs false
open Go.RowKit

theorem l01Table_any (t : List (List Int)) (v : Value) (w : World) (hv : Rows w v t) :
    Calls Try.prog 129 #[v] w fun e w' => e = .returned (.bool (tableB t)) ∧ w = w' := by
  obtain ⟨hlen, b, o, c, rfl, hc⟩ := hv
  cases hin : inR t.length 1 12 with
  | false =>
    go_enter Try.func129, Try.ntmps129
    go_wp2_with (go_at_call 121; refine (l01In_any _ _ _ _).mono ?_; rintro e w' ⟨rfl, rfl⟩)
    go_ret
    have := inR_false.1 hin
    exact ⟨ret_bool (tableB_no (fun h => this ⟨by have := h.1; omega, by have := h.2.1; omega⟩)).symm, rfl⟩
  | true =>
    have hb := inR_iff.1 hin
    go_enter Try.func129, Try.ntmps129
    go_wp2_with (go_at_call 121; refine (l01In_any _ _ _ _).mono ?_; rintro e w' ⟨rfl, rfl⟩)
    clear hin
    go_loop [4] (fun x => ∃ k : Nat, k ≤ t.length ∧ x = .int .i64 k ∧ RowsOk t t.length k) (fun x => t.length - (intOf x).toNat)
    case atStart => exact ⟨0, Nat.zero_le _, rfl, RowsOk.zero _ _⟩
    case round =>
      obtain ⟨k, hk, rfl, hok⟩ := hrel
      by_cases hlt : k < t.length
      · obtain ⟨b1, o1, c1, hr, hc1, hrl⟩ := hc.get hlt
        by_cases hw : (row t k).length = t.length
        · go_wp2
          go_loop [5] (fun y => ∃ j : Nat, j ≤ t.length ∧ y = .int .i64 j ∧ RowTo t t.length k j) (fun y => t.length - (intOf y).toNat)
          case atStart => exact ⟨0, Nat.zero_le _, rfl, RowTo.zero _ _ _⟩
          case round =>
            obtain ⟨j, hj, rfl, hto⟩ := hrel
            by_cases hjl : j < t.length
            · have hcell := hc1.ent hw hjl
              cases hin : inR (ent t k j) 0 (t.length - 1) with
              | false =>
                go_wp2_with (go_at_call 121; refine (l01In_any _ _ _ _).mono ?_; rintro e w' ⟨rfl, rfl⟩)
                go_ret
                exact ⟨ret_bool (tableB_no (fun h => inR_false.1 hin ((h.2.2 k hlt).2 j hjl))).symm, rfl⟩
              | true =>
                go_wp2_with (go_at_call 121; refine (l01In_any _ _ _ _).mono ?_; rintro e w' ⟨rfl, rfl⟩)
                go_round
                case rel => exact ⟨j + 1, by omega, by go_num, hto.succ (inR_iff.1 hin)⟩
                case measure => simp [intOf]; omega
            · have hjn : t.length ≤ j := by omega
              go_wp2
              go_round
              case rel => exact ⟨k + 1, by omega, by go_num, hok.succ ⟨hw, hto.mono hjn⟩⟩
              case measure => simp [intOf]; omega
        · go_wp2
          go_ret
          exact ⟨ret_bool (tableB_no (fun h => hw (h.2.2 k hlt).1)).symm, rfl⟩
      · go_wp2
        go_ret
        exact ⟨ret_bool (tableB_yes ⟨by omega, by omega, hok.mono (by omega)⟩).symm, rfl⟩
end Go.Proofs.Ytjcpeenalbgacaa
