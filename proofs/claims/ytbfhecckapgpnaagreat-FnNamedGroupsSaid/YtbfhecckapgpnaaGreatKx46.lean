/-
  Contracts of slices.Reverse, nextPermutation.
-/
import Derived.Test.YtbfhecckapgpnaaGreatProg
import Derived.Deep.DeepCutAuto
import Derived.Deep.RegionWith
import Derived.Deep.RegionHeld3
import Derived.Deep.DrawnRows
import Derived.StillTailTactics
import Derived.Test.YtbfhecckapgpnaaGreatKx0
import Derived.Test.YtbfhecckapgpnaaGreatKx1
import Derived.Test.YtbfhecckapgpnaaGreatKx2
import Derived.Test.YtbfhecckapgpnaaGreatKx8
import Derived.Test.YtbfhecckapgpnaaGreatKx9
import Derived.Test.YtbfhecckapgpnaaGreatKx7
import Derived.Test.YtbfhecckapgpnaaGreatKx20
import Derived.Test.YtbfhecckapgpnaaGreatKx22
import Derived.Test.YtbfhecckapgpnaaGreatKx5
import Derived.Test.YtbfhecckapgpnaaGreatKx10
import Derived.Test.YtbfhecckapgpnaaGreatKx6
import Derived.Test.YtbfhecckapgpnaaGreatKx14
import Derived.Test.YtbfhecckapgpnaaGreatKx21
import Derived.Test.YtbfhecckapgpnaaGreatKx12
namespace Go.Proofs.YtbfhecckapgpnaaGreat
set_option linter.unusedVariables false
set_option linter.unusedSimpArgs false
open Go.RowKit
attribute [local go_sem ↓] Go.wp_at_zero Go.wp_at_succ
open Go.Deep

theorem falls_more {p : List Int} {i : Nat} (h : Falls p (i + 1)) (h2 : ix p (i + 1) < ix p i) : Falls p i := fun j hj hl => by
  by_cases e : j = i
  · subst e; exact h2
  · exact h j (by omega) hl
theorem falls_end {p : List Int} {n : Nat} (hl : p.length = n) : Falls p (n - 1) := fun j hj h => by omega
def NextPost (n : Nat) (p : List Int) (b T : Nat) (w : World) (e : Ending) (w' : World) : Prop :=
  Only (fun k => k = b) w w' ∧ ((e = .returned (.bool false) ∧ Falls p 0) ∨ (∃ q i, e = .returned (.bool true) ∧ IsoOk n [] [] q ∧ NextP n p q i ∧ w'.rowIs b T n (fun x => .int .i64 (ix q x))))

end Go.Proofs.YtbfhecckapgpnaaGreat

/-
  Contracts: slices.SortFunc at lists of at most twelve rows.
-/
namespace Go.Proofs.YtbfhecckapgpnaaGreat
set_option linter.unusedVariables false
set_option linter.unusedSimpArgs false
open Go.RowKit
attribute [local go_sem ↓] Go.wp_at_zero Go.wp_at_succ
open Go.Deep

/-- block g holds slices of the rows of S, which lie elsewhere -/
def SortSt (w : World) (g : Nat) (S : List (List Int)) : Prop := ∀ i, i < S.length → ∃ b c, w.cell? ⟨g, i, none⟩ = some (.slice (some ⟨b, 0, none⟩) (row S i).length c) ∧ IntsAt w b 0 (row S i) ∧ (row S i).length ≤ 1048576 ∧ b ≠ g ∧ w.frozen? ⟨g, i, none⟩ = false
theorem Only.extQ {p : Nat → Prop} {w w' : World} (h : Ext w w') : Only p w w' := ⟨h.os, h.tape, h.output, h.size, fun k hk _ => h.block k hk⟩
theorem SortSt.ext {w w' : World} {g : Nat} {S : List (List Int)} (h : SortSt w g S) (hx : Ext w w') : SortSt w' g S := fun i hi => by
  obtain ⟨b, c, h1, h2, h3, h4, h5⟩ := h i hi
  exact ⟨b, c, hx.cell h1, h2.ext hx, h3, h4, hx.free h5 (World.block_lt_of_cell? _ _ h1)⟩
theorem SortSt.swap {w : World} {g j : Nat} {S : List (List Int)} {b c b2 c2 n n2 : Nat} (h : SortSt w g S) (hj : j + 1 < S.length) (h1 : w.cell? ⟨g, j, none⟩ = some (.slice (some ⟨b, 0, none⟩) n c)) (h2 : w.cell? ⟨g, j + 1, none⟩ = some (.slice (some ⟨b2, 0, none⟩) n2 c2)) :
    SortSt ((w.setCell ⟨g, j + 1, none⟩ (.slice (some ⟨b, 0, none⟩) n c)).setCell ⟨g, j, none⟩ (.slice (some ⟨b2, 0, none⟩) n2 c2)) g (swapS S j) := fun i hi => by
  rw [length_swapS] at hi
  obtain ⟨b3, c3, a1, a2, a3, a4, a5⟩ := h j (by omega)
  obtain ⟨b4, c4, e1, e2, e3, e4, e5⟩ := h (j + 1) hj
  rw [h1] at a1
  rw [h2] at e1
  simp only [Option.some.injEq, Value.slice.injEq, Addr.mk.injEq, and_true] at a1 e1
  obtain ⟨rfl, rfl, rfl⟩ := a1
  obtain ⟨rfl, rfl, rfl⟩ := e1
  rw [row_swapS S j i hj hi]
  by_cases g1 : i = j
  · subst g1
    rw [if_pos rfl]
    exact ⟨b2, c2, kc_same (kc_set2 (by simp) h1), ki_set e4 (ki_set e4 e2), e3, e4, kf_set (kf_set a5)⟩
  · rw [if_neg g1]
    by_cases g2 : i = j + 1
    · subst g2
      rw [if_pos rfl]
      exact ⟨b, c, kc_set2 (by simp) (kc_same h2), ki_set a4 (ki_set a4 a2), a3, a4, kf_set (kf_set e5)⟩
    · rw [if_neg g2]
      obtain ⟨b5, c5, f1, f2, f3, f4, f5⟩ := h i hi
      exact ⟨b5, c5, kc_set2 (by simpa using g1) (kc_set2 (by simpa using g2) f1), ki_set f4 (ki_set f4 f2), f3, f4, kf_set (kf_set f5)⟩
theorem callSlicesCompare (args : Array Value) (w : World) : (callFunc 90 args).run Tryz.prog w = .ok (.enter 90 args) w :=
  callFunc_enter Tryz.func90 (by kernel_rfl) rfl args w

theorem le_of_cmp {a b : List Int} (hne : a ≠ b) (h : ¬ cmpL b a < 0) : a < b := by
  rcases less_tri a b with h1 | h1 | h1
  · exact h1
  · exact absurd h1 hne
  · exact absurd ((cmpL_neg _ _).2 h1) h

set_option maxRecDepth 100000 in
set_option maxHeartbeats 4000000 in
theorem insertionSort_any (R : List (List Int)) (g cap L : Nat) (w : World) (hL : L = R.length) (hs : SortSt w g R) (hn : R.Nodup) (h1 : 1 ≤ L) (h12 : L ≤ 12) :
    Calls Tryz.prog 126 #[.slice (some ⟨g, 0, none⟩) L cap, .int .i64 0, .int .i64 L, .func (.func 90) #[] #[]] w fun e w' => (∃ v, e = .returned v) ∧ ∃ S, S.Perm R ∧ S.Pairwise (· < ·) ∧ SortSt w' g S ∧ Only (fun k => k = g) w w' := by
  have hcall := callSlicesCompare
  have HN := Lib.hid hn
  have HL := Lib.hid hL
  clear hn hL
  go_enter Tryz.func126, Tryz.ntmps126
  go_wp2_with fail
  go_loopw [8] (fun x wr => ∃ i S, x = .int .i64 (i : Nat) ∧ 1 ≤ i ∧ i ≤ L ∧ S.Perm R ∧ SortTo S i ∧ SortSt wr g S ∧ Only (fun k => k = g) w wr) (fun x _ => L - (intOf x).toNat)
  case atStart => exact ⟨1, R, rfl, by omega, h1, List.Perm.refl _, SortTo.one _, hs, Only.refl _ _⟩
  case round =>
    clear hs
    obtain ⟨i, S, rfl, hi1, hiL, hp, hso, hs, ho⟩ := hrel
    have HP := Lib.hid hp
    have HSO := Lib.hid hso
    have HS := Lib.hid hs
    have HO := Lib.hid ho
    have hSL := And.intro (Nat.le_of_eq (hp.length_eq.trans HL.out.symm)) (Nat.le_of_eq (hp.length_eq.trans HL.out.symm).symm)
    clear hp hso hs ho
    by_cases hlt : i < L
    case neg =>
      have HPW := Lib.hid (show S.Pairwise (· < ·) from SortTo.pairwise (fun a b h1 h2 => HSO.out a b h1 (by omega)))
      go_wp2_with fail
      go_end0
      exact ⟨⟨_, rfl⟩, S, HP.out, HPW.out, HS.out, HO.out⟩
    case pos =>
      have hii : (i : Int) < (L : Int) := by omega
      go_wp2_with fail
      go_loopw [9] (fun x wr => ∃ j S, x = .int .i64 (j : Nat) ∧ j ≤ i ∧ S.Perm R ∧ InsTo S i j ∧ SortSt wr g S ∧ Only (fun k => k = g) w wr) (fun x _ => (intOf x).toNat)
      case atStart => exact ⟨i, S, rfl, by omega, HP.out, HSO.out.inner, HS.out, HO.out⟩
      case round =>
        clear HP HSO HS HO hSL
        obtain ⟨j, S, rfl, hj, hp, hin, hs, ho⟩ := hrel
        have HP := Lib.hid hp
        have HIN := Lib.hid hin
        have HS := Lib.hid hs
        have HO := Lib.hid ho
        have hSL := And.intro (Nat.le_of_eq (hp.length_eq.trans HL.out.symm)) (Nat.le_of_eq (hp.length_eq.trans HL.out.symm).symm)
        clear hp hin hs ho
        by_cases hj0 : j = 0
        case pos =>
          subst hj0
          have HZ := Lib.hid HIN.out.zero
          go_wp2_with fail
          go_quiet (fail)
          go_wp2_with fail
          go_roundw
          case rel => exact ⟨i + 1, S, by go_num, by omega, by omega, HP.out, HZ.out, HS.out.ext ((Ext.refl _).drewN _), HO.out.trans (Only.extQ ((Ext.refl _).drewN _))⟩
          case measure => simp [intOf]; omega
        case neg =>
          obtain ⟨m, rfl⟩ : ∃ m, j = m + 1 := ⟨j - 1, by omega⟩
          have hmj : (0 : Int) < ((m + 1 : Nat) : Int) := by omega
          obtain ⟨b3, c3, a1, a2, a3, a4, a5⟩ := HS.out m (by omega)
          obtain ⟨b4, c4, e1, e2, e3, e4, e5⟩ := HS.out (m + 1) (by omega)
          have A2 := Lib.hid (a2.ints a3 c3)
          have E2 := Lib.hid (e2.ints e3 c4)
          have HNE := Lib.hid (row_ne (HP.out.nodup_iff.2 HN.out) (i := m) (j := m + 1) (by omega) (by omega) (by omega))
          clear a2 e2
          cases hc : decide (cmpL (row S (m + 1)) (row S m) < 0) with
          | true =>
            have hcl : cmpL (row S (m + 1)) (row S m) < 0 := of_decide_eq_true hc
            have HLT := Lib.hid ((cmpL_neg _ _).1 hcl)
            go_wp2_with fail
            go_quiet ((exact Calls.quiet_of_same ((slicesCompare_any (row S (m + 1)) (row S m) _ _ _ (E2.out.ext ((Ext.refl _).drewN _)) (A2.out.ext ((Ext.refl _).drewN _))).mono fun _ _ ⟨h1, h2⟩ => ⟨h1, h2.symm⟩)))
            have A1 := Lib.hid a1
            have E1 := Lib.hid e1
            have HJL := Lib.hid (show m + 1 < S.length by omega)
            have HJI := Lib.hid (show m + 1 ≤ i by omega)
            have HIL := Lib.hid (show i < S.length by omega)
            clear hcl hc
            go_wp2_with fail
            go_region
            all_goals
              go_wp2_with fail
              go_roundw
              case rel => exact ⟨m, swapS S m, by go_num, by omega, (swapS_perm S m HJL.out).trans HP.out, HIN.out.step HIL.out HJI.out HLT.out, ((HS.out.ext ((Ext.refl _).drewN _)).swap HJL.out (((Ext.refl _).drewN _).cell A1.out) (((Ext.refl _).drewN _).cell E1.out)), (((HO.out.trans (Only.extQ ((Ext.refl _).drewN _))).trans (only_set (p := fun k => k = g) rfl _)).trans (only_set (p := fun k => k = g) rfl _))⟩
              case measure => simp [intOf] <;> omega
          | false =>
            have hcl : ¬ cmpL (row S (m + 1)) (row S m) < 0 := of_decide_eq_false hc
            have HST := Lib.hid (HIN.out.stop (le_of_cmp HNE.out hcl))
            go_wp2_with fail
            go_quiet ((exact Calls.quiet_of_same ((slicesCompare_any (row S (m + 1)) (row S m) _ _ _ (E2.out.ext ((Ext.refl _).drewN _)) (A2.out.ext ((Ext.refl _).drewN _))).mono fun _ _ ⟨h1, h2⟩ => ⟨h1, h2.symm⟩)))
            go_wp2_with fail
            go_roundw
            case rel => exact ⟨i + 1, S, by go_num, by omega, by omega, HP.out, HST.out, HS.out.ext ((Ext.refl _).drewN _), HO.out.trans (Only.extQ ((Ext.refl _).drewN _))⟩
            case measure => simp [intOf] <;> omega
end Go.Proofs.YtbfhecckapgpnaaGreat

/-
  Contracts: bits.Len of small numbers, slices.SortFunc at lists of at most twelve rows.
-/
namespace Go.Proofs.YtbfhecckapgpnaaGreat
set_option linter.unusedVariables false
set_option linter.unusedSimpArgs false
open Go.RowKit
attribute [local go_sem ↓] Go.wp_at_zero Go.wp_at_succ
open Go.Deep

set_option maxRecDepth 100000 in
set_option maxHeartbeats 1000000 in
theorem len64_any (k : Nat) (hk : k ≤ 12) (w : World) :
    Calls Tryz.prog 135 #[.int .u64 k] w fun e w' => (∃ v, e = .returned (.int .i64 v)) ∧ w' = w := by
  obtain rfl | rfl | rfl | rfl | rfl | rfl | rfl | rfl | rfl | rfl | rfl | rfl | rfl : k = 0 ∨ k = 1 ∨ k = 2 ∨ k = 3 ∨ k = 4 ∨ k = 5 ∨ k = 6 ∨ k = 7 ∨ k = 8 ∨ k = 9 ∨ k = 10 ∨ k = 11 ∨ k = 12 := by omega
  all_goals
    go_enter Tryz.func135, Tryz.ntmps135
    go_wp2_with fail
    go_ret
    exact ⟨⟨_, rfl⟩, rfl⟩

set_option maxRecDepth 100000 in
set_option maxHeartbeats 1000000 in
theorem bitsLen_any (k : Nat) (hk : k ≤ 12) (w : World) :
    Calls Tryz.prog 115 #[.int .u64 k] w fun e w' => (∃ v, e = .returned (.int .i64 v)) ∧ w' = w := by
  go_enter Tryz.func115, Tryz.ntmps115
  go_wp2_with fail
  refine (len64_any k hk _).mono ?_
  rintro e w1 ⟨⟨v, rfl⟩, rfl⟩
  go_wp2_with fail
  go_ret
  exact ⟨⟨_, rfl⟩, rfl⟩

set_option maxRecDepth 100000 in
set_option maxHeartbeats 1000000 in
theorem pdqsort_any (R : List (List Int)) (g cap L : Nat) (lim : Int) (w : World) (hL : L = R.length) (hs : SortSt w g R) (hn : R.Nodup) (h1 : 1 ≤ L) (h12 : L ≤ 12) :
    Calls Tryz.prog 114 #[.slice (some ⟨g, 0, none⟩) L cap, .int .i64 0, .int .i64 L, .int .i64 lim, .func (.func 90) #[] #[]] w fun e w' => (∃ v, e = .returned v) ∧ ∃ S, S.Perm R ∧ S.Pairwise (· < ·) ∧ SortSt w' g S ∧ Only (fun k => k = g) w w' := by
  have hL12 : (L : Int) ≤ 12 := by omega
  have HL := Lib.hid hL
  have HS0 := Lib.hid hs
  have HN := Lib.hid hn
  clear hL hs hn
  go_enter Tryz.func114, Tryz.ntmps114
  go_wp2_with fail
  go_loopw [1, 2] (fun x y wr => x = .int .i64 0 ∧ y = .int .i64 L ∧ wr = w) (fun x _ _ => 0)
  case atStart => exact ⟨rfl, rfl, rfl⟩
  case round =>
    obtain ⟨rfl, rfl, rfl⟩ := hrel
    go_wp2_with fail
    refine (insertionSort_any R g cap L _ HL.out HS0.out HN.out h1 h12).mono ?_
    rintro e w1 ⟨⟨v, rfl⟩, hS⟩
    go_wp2_with fail
    refine bodyPost_ret (results_none rfl _ _ _) rfl ?_
    exact ⟨⟨_, rfl⟩, hS⟩

set_option maxRecDepth 100000 in
set_option maxHeartbeats 1000000 in
theorem sortFunc_any (R : List (List Int)) (g cap L : Nat) (w : World) (hL : L = R.length) (hs : SortSt w g R) (hn : R.Nodup) (h1 : 1 ≤ L) (h12 : L ≤ 12) :
    Calls Tryz.prog 89 #[.slice (some ⟨g, 0, none⟩) L cap, .func (.func 90) #[] #[]] w fun e w' => (∃ v, e = .returned v) ∧ ∃ S, S.Perm R ∧ S.Pairwise (· < ·) ∧ SortSt w' g S ∧ Only (fun k => k = g) w w' := by
  have HL := Lib.hid hL
  clear hL
  go_enter Tryz.func89, Tryz.ntmps89
  go_wp2_with fail
  refine (bitsLen_any L h12 _).mono ?_
  rintro e w1 ⟨⟨v, rfl⟩, rfl⟩
  go_wp2_with fail
  refine (pdqsort_any R g cap L v _ HL.out hs hn h1 h12).mono ?_
  rintro e w1 ⟨⟨v, rfl⟩, hS⟩
  go_wp2_with fail
  go_end0
  exact ⟨⟨_, rfl⟩, hS⟩
end Go.Proofs.YtbfhecckapgpnaaGreat
