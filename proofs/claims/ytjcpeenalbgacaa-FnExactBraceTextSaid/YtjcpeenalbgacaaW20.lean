/-
  Contracts: the index of a number, inverses.
-/
import Derived.Test.YtjcpeenalbgacaaProg
import Derived.Test.YtjcpeenalbgacaaBase
import Derived.Test.YtjcpeenalbgacaaBase2
import Derived.Test.YtjcpeenalbgacaaRet
import Derived.Test.YtjcpeenalbgacaaPure1
import Derived.Test.YtjcpeenalbgacaaPureOrd
import Derived.Test.YtjcpeenalbgacaaPureInv
import Derived.Test.YtjcpeenalbgacaaW1
import Derived.Test.YtjcpeenalbgacaaW3
import Derived.Test.YtjcpeenalbgacaaW6
import Derived.Test.YtjcpeenalbgacaaW8
import Derived.Test.YtjcpeenalbgacaaW11
import Derived.Test.YtjcpeenalbgacaaW17
namespace Go.Proofs.Ytjcpeenalbgacaa
set_option linter.unusedVariables false
set_option linter.unusedSimpArgs false
open Go.RowKit

theorem slicesIndex_any (l : List Int) (v : Value) (n : Int) (w : World) (hv : Ints w v l) :
    Calls Try.prog 144 #[v, .int .i64 n] w fun e w' => e = .returned (.int .i64 (indexOf l n)) ∧ w = w' := by
  obtain ⟨hlen, b, o, c, rfl, hc⟩ := hv
  go_enter Try.func144, Try.ntmps144
  go_wp2
  go_loop [8] (fun i => ∃ k : Nat, k ≤ l.length ∧ i = .int .i64 k ∧ indexOf l n = indexFrom n (l.drop k) k) (fun i => l.length - (intOf i).toNat)
  case atStart => exact ⟨0, Nat.zero_le _, rfl, by unfold indexOf; rfl⟩
  case round =>
    obtain ⟨k, hk, rfl, hr⟩ := hrel
    have Hr := Lib.hid hr
    clear hr
    by_cases hlt : k < l.length
    · have hcell := hc k hlt
      by_cases he : (n == ix l k) = true
      · go_wp2
        go_ret
        exact ⟨ret_int (by rw [Hr.out, indexFrom_hit l n k hlt (eq_of_beq he).symm]), rfl⟩
      · have he' : (n == ix l k) = false := by simpa using he
        have hne : ¬ ix l k = n := fun h => he (by rw [h]; exact beq_self_eq_true n)
        have HN := Lib.hid hne
        clear he hne
        go_wp2
        go_round
        case rel => exact ⟨k + 1, by omega, by go_num, by rw [Hr.out, indexFrom_miss l n k hlt HN.out]⟩
        case measure => simp [intOf]; omega
    · go_wp2
      go_ret
      exact ⟨ret_int (by rw [Hr.out, indexFrom_end l n k (by omega)]), rfl⟩

theorem indexIn_any (l : List Int) (v : Value) (n : Int) (w : World) (hv : Ints w v l) :
    Calls Try.prog 140 #[v, .int .i64 n] w fun e w' => e = .returned (.int .i64 (indexOf l n)) ∧ w = w' := by
  go_enter Try.func140, Try.ntmps140
  go_wp2_with (go_at_call 144; refine (slicesIndex_any l _ _ _ hv).mono ?_; rintro e w' ⟨rfl, rfl⟩)
  go_ret
  exact ⟨rfl, rfl⟩

theorem l10Back_any (t : List (List Int)) (v : Value) (x : Nat) (w : World) (hv : Rows w v t) (hx : x < t.length) :
    Calls Try.prog 135 #[v, .int .i64 x] w fun e w' => e = .returned (.int .i64 (backF t x)) ∧ w = w' := by
  obtain ⟨hlen, b, o, c, rfl, hc⟩ := id hv
  obtain ⟨b1, o1, c1, hr, hc1, hl1⟩ := hc.get hx
  go_enter Try.func135, Try.ntmps135
  go_wp2_with (go_at_call 116; refine (l01Index_any (row t x) _ _ _ (hc1.ints hl1 c1)).mono ?_; rintro e w' ⟨rfl, rfl⟩; rw [backF_def])
  go_ret
  exact ⟨rfl, rfl⟩

theorem groupInverses_any (t : List (List Int)) (v : Value) (w : World) (hv : Rows w v t) :
    Calls Try.prog 117 #[v] w fun e w' => ∃ b c, e = .returned (.slice (some ⟨b, 0, none⟩) t.length c) ∧ IntsAt w' b 0 (backs t) ∧ Ext w w' := by
  obtain ⟨hlen, b, o, c, rfl, hc⟩ := id hv
  have hmk := run_make_row' (P := Try.prog) 26 2 (.int .i64 0) 8 Try.underlying26 infoInt rfl .i64 .i64 t.length (by omega) (by omega)
  go_enter Try.func117, Try.ntmps117
  go_wp2_with fail
  clear hmk
  have hx0 : Ext w (w.alloc (.cells (madeCells #[Value.int .i64 0] t.length) 2)) := (Ext.refl _).alloc _
  have hr0 := World.rowIs_made w (.int .i64 0) t.length 2
  go_loopw [11] (fun i wr => ∃ k : Nat, k ≤ t.length ∧ i = .int .i64 k ∧ wr.rowIs w.heap.size 2 t.length (fun i => .int .i64 (copyTo (backs t) k i)) ∧ Ext w wr) (fun i _ => t.length - (intOf i).toNat)
  case atStart => exact ⟨0, Nat.zero_le _, rfl, hr0.congr (fun i hi => by rw [copyTo_zero]), hx0⟩
  case round =>
    clear hx0 hr0
    obtain ⟨k, hk, rfl, hrow, hx⟩ := hrel
    by_cases hlt : k < t.length
    · obtain ⟨b1, o1, c1, hr, hc1, hl1⟩ := (hc.ext hx).get hlt
      have e2 := hrow.cell hlt
      have e3 := hrow.frozen k
      go_wp2_with (go_at_call 140; refine (indexIn_any (row t k) _ _ _ (hc1.ints hl1 c1)).mono ?_; rintro e w' ⟨rfl, rfl⟩; rw [backF_def])
      go_roundw
      case rel => exact ⟨k + 1, by omega, by go_num, (hrow.set k (.int .i64 (backF t k))).congr (fun i hi => by rw [copyTo_succ, ix_backs _ _ hlt]; split <;> rfl), hx.setNew (Nat.le_refl _) _⟩
      case measure => simp [intOf]; omega
    · go_wp2
      go_ret
      have hkk : k = t.length := by omega
      exact ⟨w.heap.size, t.length, rfl, fun i hi => by
        rw [length_backs] at hi
        rw [Nat.zero_add, hrow.cell hi, copyTo_all _ _ _ (by omega)], hx⟩

end Go.Proofs.Ytjcpeenalbgacaa