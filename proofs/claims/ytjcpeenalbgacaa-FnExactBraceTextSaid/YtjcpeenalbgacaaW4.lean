/-
  Contracts of the program: is it a table, are the rows permutations, is it the table of a group.
-/
import Derived.Test.YtjcpeenalbgacaaProg
import Derived.Test.YtjcpeenalbgacaaBase
import Derived.Test.YtjcpeenalbgacaaPure1
import Derived.Test.YtjcpeenalbgacaaW1
namespace Go.Proofs.Ytjcpeenalbgacaa
set_option linter.unusedVariables false
set_option linter.unusedSimpArgs false
open Go.RowKit

/-- all entries of l are in lo .. hi -/
theorem allWithin_any (l : List Int) (v : Value) (lo hi : Int) (w : World) (hv : Ints w v l) :
    Calls Try.prog 160 #[v, .int .i64 lo, .int .i64 hi] w fun e w' => e = .returned (.bool (allInB l lo hi)) ∧ w = w' := by
  obtain ⟨hlen, b, o, c, rfl, hc⟩ := hv
  go_enter Try.func160, Try.ntmps160
  go_wp2
  go_loop [11] (fun i => ∃ k : Nat, k ≤ l.length ∧ i = .int .i64 k ∧ AllInTo l lo hi k) (fun i => l.length - (intOf i).toNat)
  case atStart => exact ⟨0, Nat.zero_le _, rfl, AllInTo.zero _ _ _⟩
  case round =>
    obtain ⟨k, hk, rfl, hto⟩ := hrel
    by_cases hlt : k < l.length
    · have hcell := hc k hlt
      cases hin : inR (ix l k) lo hi with
      | true =>
        go_wp2_with (go_at_call 122; refine (within_any _ _ _ _).mono ?_; rintro e w' ⟨rfl, rfl⟩)
        go_round
        case rel => exact ⟨k + 1, by omega, by go_num, hto.succ (inR_iff.1 hin)⟩
        case measure => simp [intOf]; omega
      | false =>
        go_wp2_with (go_at_call 122; refine (within_any _ _ _ _).mono ?_; rintro e w' ⟨rfl, rfl⟩)
        go_ret
        exact ⟨ret_bool (allInB_no (fun h => inR_false.1 hin (h k hlt))).symm, rfl⟩
    · go_wp2
      go_ret
      exact ⟨ret_bool (allInB_yes (hto.mono (by omega))).symm, rfl⟩

theorem IndexFunc_any (t : List (List Int)) (p : List Int → Bool) (F : Nat) (cap : Array Value) (v : Value) (w : World) (hv : Rows w v t)
    (hcall : ∀ (args : Array Value) (w : World), (callFunc F args).run Try.prog w = .ok (.enter F args) w)
    (hf : ∀ w1 r i, Ext w w1 → i < t.length → Ints w1 r (row t i) → Calls Try.prog F (#[r] ++ cap) w1 fun e w' => e = .returned (.bool (p (row t i))) ∧ Ext w1 w') :
    Calls Try.prog 165 #[v, .func (.func F) #[] cap] w fun e w' => e = .returned (.int .i64 (findIx p t)) ∧ Ext w w' := by
  obtain ⟨hlen, b, o, c, rfl, hc⟩ := hv
  have HF := Lib.hid hf
  clear hf
  go_enter Try.func165, Try.ntmps165
  go_wp2
  go_loopw [8] (fun i wr => ∃ k : Nat, k ≤ t.length ∧ i = .int .i64 k ∧ findIx p t = findFrom p (t.drop k) k ∧ Ext w wr) (fun i _ => t.length - (intOf i).toNat)
  case atStart => exact ⟨0, Nat.zero_le _, rfl, by unfold findIx; rfl, Ext.refl _⟩
  case round =>
    obtain ⟨k, hk, rfl, hr, hx⟩ := hrel
    have Hr := Lib.hid hr
    clear hr
    by_cases hlt : k < t.length
    · obtain ⟨b1, o1, c1, hrow, hc1, hl⟩ := (hc.ext hx).get hlt
      have hri := hc1.ints hl c1
      cases hp : p (row t k) with
      | true =>
        go_wp2_with fail
        refine (HF.out _ _ k hx hlt hri).mono ?_
        rintro e w1 ⟨rfl, hx1⟩
        rw [hp]
        go_wp2
        go_ret
        exact ⟨ret_int (by rw [Hr.out, findFrom_hit p t k hlt hp]), hx.trans hx1⟩
      | false =>
        go_wp2_with fail
        refine (HF.out _ _ k hx hlt hri).mono ?_
        rintro e w1 ⟨rfl, hx1⟩
        rw [hp]
        go_wp2
        go_roundw
        case rel => exact ⟨k + 1, by omega, by go_num, by rw [Hr.out, findFrom_miss p t k hlt hp], hx.trans hx1⟩
        case measure => simp [intOf]; omega
    · go_wp2
      go_ret
      exact ⟨ret_int (by rw [Hr.out, findFrom_end p t k (by omega)]), hx⟩

theorem ContainsFunc_any (t : List (List Int)) (p : List Int → Bool) (F : Nat) (cap : Array Value) (v : Value) (w : World) (hv : Rows w v t)
    (hcall : ∀ (args : Array Value) (w : World), (callFunc F args).run Try.prog w = .ok (.enter F args) w)
    (hf : ∀ w1 r i, Ext w w1 → i < t.length → Ints w1 r (row t i) → Calls Try.prog F (#[r] ++ cap) w1 fun e w' => e = .returned (.bool (p (row t i))) ∧ Ext w1 w') :
    Calls Try.prog 158 #[v, .func (.func F) #[] cap] w fun e w' => e = .returned (.bool (anyB p t)) ∧ Ext w w' := by
  go_enter Try.func158, Try.ntmps158
  go_wp2_with fail
  refine (IndexFunc_any t p F cap v _ hv hcall hf).mono ?_
  rintro e w1 ⟨rfl, hx1⟩
  clear hcall hf
  go_wp2
  go_ret
  exact ⟨ret_bool (anyB_find p t).symm, hx1⟩
end Go.Proofs.Ytjcpeenalbgacaa
