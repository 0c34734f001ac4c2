/-
  Contracts of slices.Reverse, nextPermutation.
-/
import Derived.Test.YtjhfieegkgndfaaProg
import Derived.Deep.DeepCutAuto
import Derived.Deep.RegionWith
import Derived.Deep.RegionHeld3
import Derived.Deep.DrawnRows
import Derived.StillTailTactics
import Derived.Test.YtjhfieegkgndfaaJx0
import Derived.Test.YtjhfieegkgndfaaJx1
import Derived.Test.YtjhfieegkgndfaaJx3
import Derived.Test.YtjhfieegkgndfaaJx8
import Derived.Test.YtjhfieegkgndfaaJx2
import Derived.Test.YtjhfieegkgndfaaJx4
import Derived.Test.YtjhfieegkgndfaaJx5
import Derived.Test.YtjhfieegkgndfaaJx15
import Derived.Test.YtjhfieegkgndfaaJx23
import Derived.Test.YtjhfieegkgndfaaJx21
import Derived.Test.YtjhfieegkgndfaaJx6
import Derived.Test.YtjhfieegkgndfaaJx9
import Derived.Test.YtjhfieegkgndfaaJx7
import Derived.Test.YtjhfieegkgndfaaJx13
import Derived.Test.YtjhfieegkgndfaaJx22
namespace Go.Proofs.Ytjhfieegkgndfaa
set_option linter.unusedVariables false
set_option linter.unusedSimpArgs false
open Go.RowKit
attribute [local go_sem ↓] Go.wp_at_zero Go.wp_at_succ
open Go.Deep

set_option maxRecDepth 100000 in
set_option maxHeartbeats 2000000 in
theorem reverse_any (n i : Nat) (c : Nat → Int) (b T cap : Nat) (w : World) (hr : w.rowIs b T n (fun x => .int .i64 (c x))) (hi : i + 1 ≤ n) (h12 : n ≤ 12) :
    Calls Try.prog 133 #[.slice (some ⟨b, i + 1, none⟩) (n - (i + 1)) cap] w fun e w' => (∃ v, e = .returned v) ∧ w'.rowIs b T n (fun x => .int .i64 (turnC c i n x)) ∧ Only (fun k => k = b) w w' := by
  go_enter Try.func133, Try.ntmps133
  go_wp2_with fail
  go_loopw [2, 3] (fun x y wr => ∃ r : Nat, i + 1 + r ≤ n ∧ x = .int .i64 r ∧ y = .int .i64 ((n : Int) - (i + 1) - 1 - r) ∧ wr.rowIs b T n (fun x => .int .i64 (turnTo c i n r x)) ∧ Only (fun k => k = b) w wr) (fun x _ _ => n - (intOf x).toNat)
  case atStart => exact ⟨0, by omega, rfl, by go_num, hr.congr (fun x _ => by rw [turnTo_zero]), Only.refl _ _⟩
  case round =>
    clear hr
    obtain ⟨r, hr, rfl, rfl, hrow, ho⟩ := hrel
    by_cases hlt : i + 1 + r < n - 1 - r
    · have e1 := hrow.cell (i := i + 1 + r) (by omega)
      have e2 := hrow.cell (i := n - 1 - r) (by omega)
      rw [turnTo_left _ _ _ _ hlt] at e1
      rw [turnTo_right _ _ _ _ hlt] at e2
      have f1 := hrow.frozen (i + 1 + r)
      have f2 := hrow.frozen (n - 1 - r)
      have hsn := turnTo_succ c i n r
      have hj : n - 1 - r = i + 1 + (n - (i + 1) - 1 - r) := by omega
      rw [hj] at e2 f2
      have hi1 : (r : Int) < (n : Int) - (i + 1) - 1 - r := by omega
      have HR := Lib.hid hrow
      have HO := Lib.hid ho
      have HJ := Lib.hid hj
      have HSN := Lib.hid (fun x => hsn x hlt)
      clear hrow ho hj hsn hr
      go_wp2_with fail
      go_region
      all_goals
        go_wp2_with fail
        go_roundw
        case rel => exact ⟨r + 1, by omega, by go_num, by go_num, (((HR.out.set (i + 1 + r) _).set (i + 1 + (n - (i + 1) - 1 - r)) _).congr (fun x hx => by
          have h := HSN.out x
          rw [HJ.out] at h
          rw [h]
          by_cases e1 : x = i + 1 + (n - (i + 1) - 1 - r)
          · rw [if_pos e1, if_pos e1]
          · rw [if_neg e1, if_neg e1]
            by_cases e2 : x = i + 1 + r
            · rw [if_pos e2, if_pos e2]
            · rw [if_neg e2, if_neg e2])).drew, ((HO.out.trans (only_set (p := fun k => k = b) rfl _)).trans (only_set (p := fun k => k = b) rfl _)).trans (only_drew _ _)⟩
        case measure => simp [intOf]; omega
    · go_wp2
      go_end0
      exact ⟨⟨_, rfl⟩, hrow.congr (fun x hx => by rw [turnTo_done _ _ _ _ _ hlt hr hx]), ho⟩

theorem falls_more {p : List Int} {i : Nat} (h : Falls p (i + 1)) (h2 : ix p (i + 1) < ix p i) : Falls p i := fun j hj hl => by
  by_cases e : j = i
  · subst e; exact h2
  · exact h j (by omega) hl
theorem falls_end {p : List Int} {n : Nat} (hl : p.length = n) : Falls p (n - 1) := fun j hj h => by omega
def NextPost (n : Nat) (p : List Int) (b T : Nat) (w : World) (e : Ending) (w' : World) : Prop :=
  Only (fun k => k = b) w w' ∧ ((e = .returned (.bool false) ∧ Falls p 0) ∨ (∃ q i, e = .returned (.bool true) ∧ IsoOk n [] [] q ∧ NextP n p q i ∧ w'.rowIs b T n (fun x => .int .i64 (ix q x))))

set_option maxRecDepth 100000 in
set_option maxHeartbeats 4000000 in
theorem nextPermutation_any (n b T : Nat) (p : List Int) (w : World) (hr : w.rowIs b T n (fun x => .int .i64 (ix p x))) (hp : IsoOk n [] [] p) (h1 : 1 ≤ n) (h12 : n ≤ 12) :
    Calls Try.prog 106 #[.slice (some ⟨b, 0, none⟩) n n] w (NextPost n p b T w) := by
  have HP := Lib.hid hp
  have HPL := Lib.hid hp.1
  clear hp
  go_enter Try.func106, Try.ntmps106
  go_wp2_with fail
  go_loopw [3] (fun x wr => ∃ k : Nat, k + 1 ≤ n ∧ x = .int .i64 ((k : Int) - 1) ∧ Falls p k ∧ Drawn w wr) (fun x _ => (intOf x + 1).toNat)
  case atStart => exact ⟨n - 1, by omega, by go_num, falls_end HPL.out, Drawn.refl _⟩
  case round =>
    obtain ⟨k, hk, rfl, hF, hd⟩ := hrel
    have HF := Lib.hid hF
    have HD := Lib.hid hd
    clear hF hd
    by_cases hk0 : k = 0
    case pos =>
      subst hk0
      go_wp2_with fail
      go_quiet (fail)
      go_wp2_with fail
      go_ret
      exact ⟨Only.ext (HD.out.ext.trans ((Ext.refl _).drewN _)), .inl ⟨rfl, HF.out⟩⟩
    case neg =>
      obtain ⟨i, rfl⟩ : ∃ i, k = i + 1 := ⟨k - 1, by omega⟩
      have hrw := hr.of_block (HD.out.ext.block b hr.lt)
      have e1 := hrw.cell (i := i) (by omega)
      have e2 := hrw.cell (i := i + 1) (by omega)
      cases hgt : decide (ix p i > ix p (i + 1)) with
      | true =>
        have HF2 := Lib.hid (falls_more HF.out (by simpa using hgt))
        go_wp2_with fail
        go_quiet (fail)
        go_wp2_with fail
        go_roundw
        case rel => exact ⟨i, by omega, by go_num, HF2.out, HD.out.trans ((Drawn.refl _).drewN _)⟩
        case measure => simp [intOf] <;> omega
      | false =>
        have hne : ix p i ≠ ix p (i + 1) := fun e => by have := HP.out.inj (x := i) (y := i + 1) (by omega) (by omega) e; omega
        have hup : ix p i < ix p (i + 1) := by
          have : ¬ ix p (i + 1) < ix p i := by simpa using hgt
          omega
        have HF2 := Lib.hid HF.out
        clear hne hrw
        go_wp2_with fail
        go_quiet (fail)
        go_wp2_with fail
        go_loopw [4] (fun x wr => ∃ k : Nat, i < k ∧ k < n ∧ x = .int .i64 k ∧ (∀ j, k < j → j < n → ix p j < ix p i) ∧ Drawn w wr) (fun x _ => (intOf x).toNat)
        case atStart => exact ⟨n - 1, by omega, by omega, by go_num, fun j h1 h2 => by omega, HD.out.trans ((Drawn.refl _).drewN _)⟩
        case round =>
          clear e1 e2 HD
          obtain ⟨k, hik, hkn, rfl, hlow, hd⟩ := hrel
          have HD := Lib.hid hd
          have HL := Lib.hid hlow
          clear hd hlow
          have hrw := hr.of_block (HD.out.ext.block b hr.lt)
          have e1 := hrw.cell (i := k) hkn
          have e2 := hrw.cell (i := i) (by omega)
          cases hlt : decide (ix p k < ix p i) with
          | true =>
            have hlt' : ix p k < ix p i := by simpa using hlt
            have hki : i + 1 < k := by
              apply Classical.byContradiction
              intro h
              have : k = i + 1 := by omega
              subst this; omega
            clear hlt hrw
            go_wp2_with fail
            go_quiet (fail)
            go_wp2_with fail
            go_roundw
            case rel => exact ⟨k - 1, by omega, by omega, by go_num, fun j h1 h2 => by
              by_cases e : j = k
              · subst e; exact hlt'
              · exact HL.out j (by omega) h2, HD.out.trans ((Drawn.refl _).drewN _)⟩
            case measure => simp [intOf] <;> omega
          | false =>
            have hge : ix p i < ix p k := by
              have h1 : ¬ ix p k < ix p i := by simpa using hlt
              have h2 : ix p k ≠ ix p i := fun e => by have := HP.out.inj (x := k) (y := i) (by omega) (by omega) e; omega
              omega
            have hnl : ¬ ix p k < ix p i := by omega
            have HN := Lib.hid (nextC_next HP.out (i := i) (k := k) (by omega) hkn hik HF2.out hge HL.out)
            have HNP := Lib.hid (nextC_perm HP.out (i := i) (k := k) (by omega) hkn hik)
            have f1 := hrw.frozen k
            have f2 := hrw.frozen i
            have HRW := Lib.hid hrw
            clear hlt hrw
            go_wp2_with fail
            go_quiet (fail)
            go_wp2_with fail
            go_region
            all_goals
              go_wp2_with fail
              refine Calls.mono (reverse_any n i (swapC (ix p) i k) b T _ _ ?_ (by omega) h12) ?_
              · refine World.rowIs.congr (((HRW.out.of_block (show (wr.drewN _).heap[b]? = wr.heap[b]? from rfl)).set i _).set k _) (fun x hx => ?_)
                unfold swapC
                by_cases e1 : x = k
                · rw [if_pos e1, if_neg (by omega), if_pos e1]
                · rw [if_neg e1]
                  by_cases e2 : x = i
                  · rw [if_pos e2, if_pos e2]
                  · rw [if_neg e2, if_neg e2, if_neg e1]
              · rintro e w6 ⟨⟨rv, rfl⟩, hr6, ho6⟩
                have HR6 := Lib.hid (show w6.rowIs b T n (fun x => .int .i64 (ix (listC (nextC (ix p) i k n) n) x)) from hr6.congr (fun x hx => by rw [ix_listC _ _ _ hx]; rfl))
                have HO6 := Lib.hid ho6
                clear hr6 ho6
                go_wp2_with fail
                go_ret
                exact ⟨(((Only.ext (HD.out.ext.trans ((Ext.refl _).drewN _))).trans (only_set (p := fun k => k = b) rfl _)).trans (only_set (p := fun k => k = b) rfl _)).trans HO6.out, .inr ⟨_, i, rfl, HNP.out, HN.out, HR6.out⟩⟩
end Go.Proofs.Ytjhfieegkgndfaa
