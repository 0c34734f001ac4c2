/-
  Contracts of the smallest functions: ranges, the index of a number in a list, equality of lists.
-/
import Derived.Test.YtjcpeenalbgacaaProg
import Derived.Test.YtjcpeenalbgacaaBase
import Derived.Test.YtjcpeenalbgacaaPure1
namespace Go.Proofs.Ytjcpeenalbgacaa
set_option linter.unusedVariables false
set_option linter.unusedSimpArgs false
open Go.RowKit

theorem l01In_any (n lo hi : Int) (w : World) : Calls Try.prog 121 #[.int .i64 n, .int .i64 lo, .int .i64 hi] w fun e w' => e = .returned (.bool (inR n lo hi)) ∧ w = w' := by
  go_enter Try.func121, Try.ntmps121
  go_wp2
  all_goals go_ret
  all_goals exact ⟨by unfold inR; apply ret_bool; simp; omega, rfl⟩

theorem within_any (n lo hi : Int) (w : World) : Calls Try.prog 122 #[.int .i64 n, .int .i64 lo, .int .i64 hi] w fun e w' => e = .returned (.bool (inR n lo hi)) ∧ w = w' := by
  go_enter Try.func122, Try.ntmps122
  go_wp2
  all_goals go_ret
  all_goals exact ⟨by unfold inR; apply ret_bool; simp; omega, rfl⟩

theorem l01Index_any (l : List Int) (v : Value) (n : Int) (w : World) (hv : Ints w v l) :
    Calls Try.prog 116 #[v, .int .i64 n] w fun e w' => e = .returned (.int .i64 (indexOf l n)) ∧ w = w' := by
  obtain ⟨hlen, b, o, c, rfl, hc⟩ := hv
  go_enter Try.func116, Try.ntmps116
  go_wp2
  go_loop [5] (fun i => ∃ k : Nat, k ≤ l.length ∧ i = .int .i64 k ∧ indexOf l n = indexFrom n (l.drop k) k) (fun i => l.length - (intOf i).toNat)
  case atStart => exact ⟨0, Nat.zero_le _, rfl, by unfold indexOf; rfl⟩
  case round =>
    obtain ⟨k, hk, rfl, hr⟩ := hrel
    have Hr := Lib.hid hr
    clear hr
    by_cases hlt : k < l.length
    · have hcell := hc k hlt
      by_cases he : (ix l k == n) = true
      · go_wp2
        go_ret
        exact ⟨ret_int (by rw [Hr.out, indexFrom_hit l n k hlt (by simpa using he)]), rfl⟩
      · have he' : (ix l k == n) = false := by simpa using he
        clear he
        go_wp2
        go_round
        case rel => exact ⟨k + 1, by omega, by go_num, by rw [Hr.out, indexFrom_miss l n k hlt (by simpa using he')]⟩
        case measure => simp [intOf]; omega
    · go_wp2
      go_ret
      exact ⟨ret_int (by rw [Hr.out, indexFrom_end l n k (by omega)]), rfl⟩

theorem l01Has_any (l : List Int) (v : Value) (n : Int) (w : World) (hv : Ints w v l) :
    Calls Try.prog 143 #[v, .int .i64 n] w fun e w' => e = .returned (.bool (hasB l n)) ∧ w = w' := by
  go_enter Try.func143, Try.ntmps143
  go_wp2_with (go_at_call 116; refine (l01Index_any l _ _ _ hv).mono ?_; rintro e w' ⟨rfl, rfl⟩)
  go_ret
  exact ⟨ret_bool (by rw [hasB_def]), rfl⟩
end Go.Proofs.Ytjcpeenalbgacaa
