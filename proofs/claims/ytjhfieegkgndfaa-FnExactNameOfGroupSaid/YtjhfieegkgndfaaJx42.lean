/-
  Contracts of slices.Reverse, nextPermutation.
-/
import Derived.Test.YtjhfieegkgndfaaProg
import Derived.Deep.DeepCutAuto
import Derived.Deep.RegionWith
import Derived.Deep.RegionHeld3
import Derived.Deep.DrawnRows
import Derived.StillTailTactics
import Derived.Test.YtjhfieegkgndfaaJx0
import Derived.Test.YtjhfieegkgndfaaJx1
import Derived.Test.YtjhfieegkgndfaaJx3
import Derived.Test.YtjhfieegkgndfaaJx8
import Derived.Test.YtjhfieegkgndfaaJx2
import Derived.Test.YtjhfieegkgndfaaJx4
import Derived.Test.YtjhfieegkgndfaaJx5
import Derived.Test.YtjhfieegkgndfaaJx15
import Derived.Test.YtjhfieegkgndfaaJx23
import Derived.Test.YtjhfieegkgndfaaJx40
import Derived.Test.YtjhfieegkgndfaaJx21
import Derived.Test.YtjhfieegkgndfaaJx6
import Derived.Test.YtjhfieegkgndfaaJx9
import Derived.Test.YtjhfieegkgndfaaJx7
import Derived.Test.YtjhfieegkgndfaaJx13
import Derived.Test.YtjhfieegkgndfaaJx22
import Derived.Test.YtjhfieegkgndfaaJx11
namespace Go.Proofs.Ytjhfieegkgndfaa
set_option linter.unusedVariables false
set_option linter.unusedSimpArgs false
open Go.RowKit
attribute [local go_sem ↓] Go.wp_at_zero Go.wp_at_succ
open Go.Deep

set_option maxRecDepth 100000 in
set_option maxHeartbeats 2000000 in
theorem reverse_any (n i : Nat) (c : Nat → Int) (b T cap : Nat) (w : World) (hr : w.rowIs b T n (fun x => .int .i64 (c x))) (hi : i + 1 ≤ n) (h12 : n ≤ 12) :
    Calls Try.prog 133 #[.slice (some ⟨b, i + 1, none⟩) (n - (i + 1)) cap] w fun e w' => (∃ v, e = .returned v) ∧ w'.rowIs b T n (fun x => .int .i64 (turnC c i n x)) ∧ Only (fun k => k = b) w w' := by
  go_enter Try.func133, Try.ntmps133
  go_wp2_with fail
  go_loopw [2, 3] (fun x y wr => ∃ r : Nat, i + 1 + r ≤ n ∧ x = .int .i64 r ∧ y = .int .i64 ((n : Int) - (i + 1) - 1 - r) ∧ wr.rowIs b T n (fun x => .int .i64 (turnTo c i n r x)) ∧ Only (fun k => k = b) w wr) (fun x _ _ => n - (intOf x).toNat)
  case atStart => exact ⟨0, by omega, rfl, by go_num, hr.congr (fun x _ => by rw [turnTo_zero]), Only.refl _ _⟩
  case round =>
    clear hr
    obtain ⟨r, hr, rfl, rfl, hrow, ho⟩ := hrel
    by_cases hlt : i + 1 + r < n - 1 - r
    · have e1 := hrow.cell (i := i + 1 + r) (by omega)
      have e2 := hrow.cell (i := n - 1 - r) (by omega)
      rw [turnTo_left _ _ _ _ hlt] at e1
      rw [turnTo_right _ _ _ _ hlt] at e2
      have f1 := hrow.frozen (i + 1 + r)
      have f2 := hrow.frozen (n - 1 - r)
      have hsn := turnTo_succ c i n r
      have hj : n - 1 - r = i + 1 + (n - (i + 1) - 1 - r) := by omega
      rw [hj] at e2 f2
      have hi1 : (r : Int) < (n : Int) - (i + 1) - 1 - r := by omega
      have HR := Lib.hid hrow
      have HO := Lib.hid ho
      have HJ := Lib.hid hj
      have HSN := Lib.hid (fun x => hsn x hlt)
      clear hrow ho hj hsn hr
      go_wp2_with fail
      go_region
      all_goals
        go_wp2_with fail
        go_roundw
        case rel => exact ⟨r + 1, by omega, by go_num, by go_num, (((HR.out.set (i + 1 + r) _).set (i + 1 + (n - (i + 1) - 1 - r)) _).congr (fun x hx => by
          have h := HSN.out x
          rw [HJ.out] at h
          rw [h]
          by_cases e1 : x = i + 1 + (n - (i + 1) - 1 - r)
          · rw [if_pos e1, if_pos e1]
          · rw [if_neg e1, if_neg e1]
            by_cases e2 : x = i + 1 + r
            · rw [if_pos e2, if_pos e2]
            · rw [if_neg e2, if_neg e2])).drew, ((HO.out.trans (only_set (p := fun k => k = b) rfl _)).trans (only_set (p := fun k => k = b) rfl _)).trans (only_drew _ _)⟩
        case measure => simp [intOf]; omega
    · go_wp2
      go_end0
      exact ⟨⟨_, rfl⟩, hrow.congr (fun x hx => by rw [turnTo_done _ _ _ _ _ hlt hr hx]), ho⟩

theorem falls_more {p : List Int} {i : Nat} (h : Falls p (i + 1)) (h2 : ix p (i + 1) < ix p i) : Falls p i := fun j hj hl => by
  by_cases e : j = i
  · subst e; exact h2
  · exact h j (by omega) hl
theorem falls_end {p : List Int} {n : Nat} (hl : p.length = n) : Falls p (n - 1) := fun j hj h => by omega
def NextPost (n : Nat) (p : List Int) (b T : Nat) (w : World) (e : Ending) (w' : World) : Prop :=
  Only (fun k => k = b) w w' ∧ ((e = .returned (.bool false) ∧ Falls p 0) ∨ (∃ q i, e = .returned (.bool true) ∧ IsoOk n [] [] q ∧ NextP n p q i ∧ w'.rowIs b T n (fun x => .int .i64 (ix q x))))

set_option maxRecDepth 100000 in
set_option maxHeartbeats 4000000 in
theorem nextPermutation_any (n b T : Nat) (p : List Int) (w : World) (hr : w.rowIs b T n (fun x => .int .i64 (ix p x))) (hp : IsoOk n [] [] p) (h1 : 1 ≤ n) (h12 : n ≤ 12) :
    Calls Try.prog 106 #[.slice (some ⟨b, 0, none⟩) n n] w (NextPost n p b T w) := by
  have HP := Lib.hid hp
  have HPL := Lib.hid hp.1
  clear hp
  go_enter Try.func106, Try.ntmps106
  go_wp2_with fail
  go_loopw [3] (fun x wr => ∃ k : Nat, k + 1 ≤ n ∧ x = .int .i64 ((k : Int) - 1) ∧ Falls p k ∧ Drawn w wr) (fun x _ => (intOf x + 1).toNat)
  case atStart => exact ⟨n - 1, by omega, by go_num, falls_end HPL.out, Drawn.refl _⟩
  case round =>
    obtain ⟨k, hk, rfl, hF, hd⟩ := hrel
    have HF := Lib.hid hF
    have HD := Lib.hid hd
    clear hF hd
    by_cases hk0 : k = 0
    case pos =>
      subst hk0
      go_wp2_with fail
      go_quiet (fail)
      go_wp2_with fail
      go_ret
      exact ⟨Only.ext (HD.out.ext.trans ((Ext.refl _).drewN _)), .inl ⟨rfl, HF.out⟩⟩
    case neg =>
      obtain ⟨i, rfl⟩ : ∃ i, k = i + 1 := ⟨k - 1, by omega⟩
      have hrw := hr.of_block (HD.out.ext.block b hr.lt)
      have e1 := hrw.cell (i := i) (by omega)
      have e2 := hrw.cell (i := i + 1) (by omega)
      cases hgt : decide (ix p i > ix p (i + 1)) with
      | true =>
        have HF2 := Lib.hid (falls_more HF.out (by simpa using hgt))
        go_wp2_with fail
        go_quiet (fail)
        go_wp2_with fail
        go_roundw
        case rel => exact ⟨i, by omega, by go_num, HF2.out, HD.out.trans ((Drawn.refl _).drewN _)⟩
        case measure => simp [intOf] <;> omega
      | false =>
        have hne : ix p i ≠ ix p (i + 1) := fun e => by have := HP.out.inj (x := i) (y := i + 1) (by omega) (by omega) e; omega
        have hup : ix p i < ix p (i + 1) := by
          have : ¬ ix p (i + 1) < ix p i := by simpa using hgt
          omega
        have HF2 := Lib.hid HF.out
        clear hne hrw
        go_wp2_with fail
        go_quiet (fail)
        go_wp2_with fail
        go_loopw [4] (fun x wr => ∃ k : Nat, i < k ∧ k < n ∧ x = .int .i64 k ∧ (∀ j, k < j → j < n → ix p j < ix p i) ∧ Drawn w wr) (fun x _ => (intOf x).toNat)
        case atStart => exact ⟨n - 1, by omega, by omega, by go_num, fun j h1 h2 => by omega, HD.out.trans ((Drawn.refl _).drewN _)⟩
        case round =>
          clear e1 e2 HD
          obtain ⟨k, hik, hkn, rfl, hlow, hd⟩ := hrel
          have HD := Lib.hid hd
          have HL := Lib.hid hlow
          clear hd hlow
          have hrw := hr.of_block (HD.out.ext.block b hr.lt)
          have e1 := hrw.cell (i := k) hkn
          have e2 := hrw.cell (i := i) (by omega)
          cases hlt : decide (ix p k < ix p i) with
          | true =>
            have hlt' : ix p k < ix p i := by simpa using hlt
            have hki : i + 1 < k := by
              apply Classical.byContradiction
              intro h
              have : k = i + 1 := by omega
              subst this; omega
            clear hlt hrw
            go_wp2_with fail
            go_quiet (fail)
            go_wp2_with fail
            go_roundw
            case rel => exact ⟨k - 1, by omega, by omega, by go_num, fun j h1 h2 => by
              by_cases e : j = k
              · subst e; exact hlt'
              · exact HL.out j (by omega) h2, HD.out.trans ((Drawn.refl _).drewN _)⟩
            case measure => simp [intOf] <;> omega
          | false =>
            have hge : ix p i < ix p k := by
              have h1 : ¬ ix p k < ix p i := by simpa using hlt
              have h2 : ix p k ≠ ix p i := fun e => by have := HP.out.inj (x := k) (y := i) (by omega) (by omega) e; omega
              omega
            have hnl : ¬ ix p k < ix p i := by omega
            have HN := Lib.hid (nextC_next HP.out (i := i) (k := k) (by omega) hkn hik HF2.out hge HL.out)
            have HNP := Lib.hid (nextC_perm HP.out (i := i) (k := k) (by omega) hkn hik)
            have f1 := hrw.frozen k
            have f2 := hrw.frozen i
            have HRW := Lib.hid hrw
            clear hlt hrw
            go_wp2_with fail
            go_quiet (fail)
            go_wp2_with fail
            go_region
            all_goals
              go_wp2_with fail
              refine Calls.mono (reverse_any n i (swapC (ix p) i k) b T _ _ ?_ (by omega) h12) ?_
              · refine World.rowIs.congr (((HRW.out.of_block (show (wr.drewN _).heap[b]? = wr.heap[b]? from rfl)).set i _).set k _) (fun x hx => ?_)
                unfold swapC
                by_cases e1 : x = k
                · rw [if_pos e1, if_neg (by omega), if_pos e1]
                · rw [if_neg e1]
                  by_cases e2 : x = i
                  · rw [if_pos e2, if_pos e2]
                  · rw [if_neg e2, if_neg e2, if_neg e1]
              · rintro e w6 ⟨⟨rv, rfl⟩, hr6, ho6⟩
                have HR6 := Lib.hid (show w6.rowIs b T n (fun x => .int .i64 (ix (listC (nextC (ix p) i k n) n) x)) from hr6.congr (fun x hx => by rw [ix_listC _ _ _ hx]; rfl))
                have HO6 := Lib.hid ho6
                clear hr6 ho6
                go_wp2_with fail
                go_ret
                exact ⟨(((Only.ext (HD.out.ext.trans ((Ext.refl _).drewN _))).trans (only_set (p := fun k => k = b) rfl _)).trans (only_set (p := fun k => k = b) rfl _)).trans HO6.out, .inr ⟨_, i, rfl, HNP.out, HN.out, HR6.out⟩⟩
end Go.Proofs.Ytjhfieegkgndfaa

/-
  Contracts: slices.SortFunc at lists of at most twelve rows.
-/
namespace Go.Proofs.Ytjhfieegkgndfaa
set_option linter.unusedVariables false
set_option linter.unusedSimpArgs false
open Go.RowKit
attribute [local go_sem ↓] Go.wp_at_zero Go.wp_at_succ
open Go.Deep

/-- block g holds slices of the rows of S, which lie elsewhere -/
def SortSt (w : World) (g : Nat) (S : List (List Int)) : Prop := ∀ i, i < S.length → ∃ b c, w.cell? ⟨g, i, none⟩ = some (.slice (some ⟨b, 0, none⟩) (row S i).length c) ∧ IntsAt w b 0 (row S i) ∧ (row S i).length ≤ 1048576 ∧ b ≠ g ∧ w.frozen? ⟨g, i, none⟩ = false
theorem Only.extQ {p : Nat → Prop} {w w' : World} (h : Ext w w') : Only p w w' := ⟨h.os, h.tape, h.output, h.size, fun k hk _ => h.block k hk⟩
theorem SortSt.ext {w w' : World} {g : Nat} {S : List (List Int)} (h : SortSt w g S) (hx : Ext w w') : SortSt w' g S := fun i hi => by
  obtain ⟨b, c, h1, h2, h3, h4, h5⟩ := h i hi
  exact ⟨b, c, hx.cell h1, h2.ext hx, h3, h4, hx.free h5 (World.block_lt_of_cell? _ _ h1)⟩
theorem SortSt.swap {w : World} {g j : Nat} {S : List (List Int)} {b c b2 c2 n n2 : Nat} (h : SortSt w g S) (hj : j + 1 < S.length) (h1 : w.cell? ⟨g, j, none⟩ = some (.slice (some ⟨b, 0, none⟩) n c)) (h2 : w.cell? ⟨g, j + 1, none⟩ = some (.slice (some ⟨b2, 0, none⟩) n2 c2)) :
    SortSt ((w.setCell ⟨g, j + 1, none⟩ (.slice (some ⟨b, 0, none⟩) n c)).setCell ⟨g, j, none⟩ (.slice (some ⟨b2, 0, none⟩) n2 c2)) g (swapS S j) := fun i hi => by
  rw [length_swapS] at hi
  obtain ⟨b3, c3, a1, a2, a3, a4, a5⟩ := h j (by omega)
  obtain ⟨b4, c4, e1, e2, e3, e4, e5⟩ := h (j + 1) hj
  rw [h1] at a1
  rw [h2] at e1
  simp only [Option.some.injEq, Value.slice.injEq, Addr.mk.injEq, and_true] at a1 e1
  obtain ⟨rfl, rfl, rfl⟩ := a1
  obtain ⟨rfl, rfl, rfl⟩ := e1
  rw [row_swapS S j i hj hi]
  by_cases g1 : i = j
  · subst g1
    rw [if_pos rfl]
    exact ⟨b2, c2, kc_same (kc_set2 (by simp) h1), ki_set e4 (ki_set e4 e2), e3, e4, kf_set (kf_set a5)⟩
  · rw [if_neg g1]
    by_cases g2 : i = j + 1
    · subst g2
      rw [if_pos rfl]
      exact ⟨b, c, kc_set2 (by simp) (kc_same h2), ki_set a4 (ki_set a4 a2), a3, a4, kf_set (kf_set e5)⟩
    · rw [if_neg g2]
      obtain ⟨b5, c5, f1, f2, f3, f4, f5⟩ := h i hi
      exact ⟨b5, c5, kc_set2 (by simpa using g1) (kc_set2 (by simpa using g2) f1), ki_set f4 (ki_set f4 f2), f3, f4, kf_set (kf_set f5)⟩
theorem callSlicesCompare (args : Array Value) (w : World) : (callFunc 117 args).run Try.prog w = .ok (.enter 117 args) w :=
  callFunc_enter Try.func117 (by kernel_rfl) rfl args w

theorem le_of_cmp {a b : List Int} (hne : a ≠ b) (h : ¬ cmpL b a < 0) : a < b := by
  rcases less_tri a b with h1 | h1 | h1
  · exact h1
  · exact absurd h1 hne
  · exact absurd ((cmpL_neg _ _).2 h1) h

set_option maxRecDepth 100000 in
set_option maxHeartbeats 4000000 in
theorem insertionSort_any (R : List (List Int)) (g cap L : Nat) (w : World) (hL : L = R.length) (hs : SortSt w g R) (hn : R.Nodup) (h1 : 1 ≤ L) (h12 : L ≤ 12) :
    Calls Try.prog 143 #[.slice (some ⟨g, 0, none⟩) L cap, .int .i64 0, .int .i64 L, .func (.func 117) #[] #[]] w fun e w' => (∃ v, e = .returned v) ∧ ∃ S, S.Perm R ∧ S.Pairwise (· < ·) ∧ SortSt w' g S ∧ Only (fun k => k = g) w w' := by
  have hcall := callSlicesCompare
  have HN := Lib.hid hn
  have HL := Lib.hid hL
  clear hn hL
  go_enter Try.func143, Try.ntmps143
  go_wp2_with fail
  go_loopw [8] (fun x wr => ∃ i S, x = .int .i64 (i : Nat) ∧ 1 ≤ i ∧ i ≤ L ∧ S.Perm R ∧ SortTo S i ∧ SortSt wr g S ∧ Only (fun k => k = g) w wr) (fun x _ => L - (intOf x).toNat)
  case atStart => exact ⟨1, R, rfl, by omega, h1, List.Perm.refl _, SortTo.one _, hs, Only.refl _ _⟩
  case round =>
    clear hs
    obtain ⟨i, S, rfl, hi1, hiL, hp, hso, hs, ho⟩ := hrel
    have HP := Lib.hid hp
    have HSO := Lib.hid hso
    have HS := Lib.hid hs
    have HO := Lib.hid ho
    have hSL := And.intro (Nat.le_of_eq (hp.length_eq.trans HL.out.symm)) (Nat.le_of_eq (hp.length_eq.trans HL.out.symm).symm)
    clear hp hso hs ho
    by_cases hlt : i < L
    case neg =>
      have HPW := Lib.hid (show S.Pairwise (· < ·) from SortTo.pairwise (fun a b h1 h2 => HSO.out a b h1 (by omega)))
      go_wp2_with fail
      go_end0
      exact ⟨⟨_, rfl⟩, S, HP.out, HPW.out, HS.out, HO.out⟩
    case pos =>
      have hii : (i : Int) < (L : Int) := by omega
      go_wp2_with fail
      go_loopw [9] (fun x wr => ∃ j S, x = .int .i64 (j : Nat) ∧ j ≤ i ∧ S.Perm R ∧ InsTo S i j ∧ SortSt wr g S ∧ Only (fun k => k = g) w wr) (fun x _ => (intOf x).toNat)
      case atStart => exact ⟨i, S, rfl, by omega, HP.out, HSO.out.inner, HS.out, HO.out⟩
      case round =>
        clear HP HSO HS HO hSL
        obtain ⟨j, S, rfl, hj, hp, hin, hs, ho⟩ := hrel
        have HP := Lib.hid hp
        have HIN := Lib.hid hin
        have HS := Lib.hid hs
        have HO := Lib.hid ho
        have hSL := And.intro (Nat.le_of_eq (hp.length_eq.trans HL.out.symm)) (Nat.le_of_eq (hp.length_eq.trans HL.out.symm).symm)
        clear hp hin hs ho
        by_cases hj0 : j = 0
        case pos =>
          subst hj0
          have HZ := Lib.hid HIN.out.zero
          go_wp2_with fail
          go_quiet (fail)
          go_wp2_with fail
          go_roundw
          case rel => exact ⟨i + 1, S, by go_num, by omega, by omega, HP.out, HZ.out, HS.out.ext ((Ext.refl _).drewN _), HO.out.trans (Only.extQ ((Ext.refl _).drewN _))⟩
          case measure => simp [intOf]; omega
        case neg =>
          obtain ⟨m, rfl⟩ : ∃ m, j = m + 1 := ⟨j - 1, by omega⟩
          have hmj : (0 : Int) < ((m + 1 : Nat) : Int) := by omega
          obtain ⟨b3, c3, a1, a2, a3, a4, a5⟩ := HS.out m (by omega)
          obtain ⟨b4, c4, e1, e2, e3, e4, e5⟩ := HS.out (m + 1) (by omega)
          have A2 := Lib.hid (a2.ints a3 c3)
          have E2 := Lib.hid (e2.ints e3 c4)
          have HNE := Lib.hid (row_ne (HP.out.nodup_iff.2 HN.out) (i := m) (j := m + 1) (by omega) (by omega) (by omega))
          clear a2 e2
          cases hc : decide (cmpL (row S (m + 1)) (row S m) < 0) with
          | true =>
            have hcl : cmpL (row S (m + 1)) (row S m) < 0 := of_decide_eq_true hc
            have HLT := Lib.hid ((cmpL_neg _ _).1 hcl)
            go_wp2_with fail
            go_quiet ((exact Calls.quiet_of_same ((slicesCompare_any (row S (m + 1)) (row S m) _ _ _ (E2.out.ext ((Ext.refl _).drewN _)) (A2.out.ext ((Ext.refl _).drewN _))).mono fun _ _ ⟨h1, h2⟩ => ⟨h1, h2.symm⟩)))
            have A1 := Lib.hid a1
            have E1 := Lib.hid e1
            have HJL := Lib.hid (show m + 1 < S.length by omega)
            have HJI := Lib.hid (show m + 1 ≤ i by omega)
            have HIL := Lib.hid (show i < S.length by omega)
            clear hcl hc
            go_wp2_with fail
            go_region
            all_goals
              go_wp2_with fail
              go_roundw
              case rel => exact ⟨m, swapS S m, by go_num, by omega, (swapS_perm S m HJL.out).trans HP.out, HIN.out.step HIL.out HJI.out HLT.out, ((HS.out.ext ((Ext.refl _).drewN _)).swap HJL.out (((Ext.refl _).drewN _).cell A1.out) (((Ext.refl _).drewN _).cell E1.out)), (((HO.out.trans (Only.extQ ((Ext.refl _).drewN _))).trans (only_set (p := fun k => k = g) rfl _)).trans (only_set (p := fun k => k = g) rfl _))⟩
              case measure => simp [intOf] <;> omega
          | false =>
            have hcl : ¬ cmpL (row S (m + 1)) (row S m) < 0 := of_decide_eq_false hc
            have HST := Lib.hid (HIN.out.stop (le_of_cmp HNE.out hcl))
            go_wp2_with fail
            go_quiet ((exact Calls.quiet_of_same ((slicesCompare_any (row S (m + 1)) (row S m) _ _ _ (E2.out.ext ((Ext.refl _).drewN _)) (A2.out.ext ((Ext.refl _).drewN _))).mono fun _ _ ⟨h1, h2⟩ => ⟨h1, h2.symm⟩)))
            go_wp2_with fail
            go_roundw
            case rel => exact ⟨i + 1, S, by go_num, by omega, by omega, HP.out, HST.out, HS.out.ext ((Ext.refl _).drewN _), HO.out.trans (Only.extQ ((Ext.refl _).drewN _))⟩
            case measure => simp [intOf] <;> omega
end Go.Proofs.Ytjhfieegkgndfaa

/-
  Contracts: bits.Len of small numbers, slices.SortFunc at lists of at most twelve rows.
-/
namespace Go.Proofs.Ytjhfieegkgndfaa
set_option linter.unusedVariables false
set_option linter.unusedSimpArgs false
open Go.RowKit
attribute [local go_sem ↓] Go.wp_at_zero Go.wp_at_succ
open Go.Deep

set_option maxRecDepth 100000 in
set_option maxHeartbeats 1000000 in
theorem len64_any (k : Nat) (hk : k ≤ 12) (w : World) :
    Calls Try.prog 152 #[.int .u64 k] w fun e w' => (∃ v, e = .returned (.int .i64 v)) ∧ w' = w := by
  obtain rfl | rfl | rfl | rfl | rfl | rfl | rfl | rfl | rfl | rfl | rfl | rfl | rfl : k = 0 ∨ k = 1 ∨ k = 2 ∨ k = 3 ∨ k = 4 ∨ k = 5 ∨ k = 6 ∨ k = 7 ∨ k = 8 ∨ k = 9 ∨ k = 10 ∨ k = 11 ∨ k = 12 := by omega
  all_goals
    go_enter Try.func152, Try.ntmps152
    go_wp2_with fail
    go_ret
    exact ⟨⟨_, rfl⟩, rfl⟩

set_option maxRecDepth 100000 in
set_option maxHeartbeats 1000000 in
theorem bitsLen_any (k : Nat) (hk : k ≤ 12) (w : World) :
    Calls Try.prog 137 #[.int .u64 k] w fun e w' => (∃ v, e = .returned (.int .i64 v)) ∧ w' = w := by
  go_enter Try.func137, Try.ntmps137
  go_wp2_with fail
  refine (len64_any k hk _).mono ?_
  rintro e w1 ⟨⟨v, rfl⟩, rfl⟩
  go_wp2_with fail
  go_ret
  exact ⟨⟨_, rfl⟩, rfl⟩

set_option maxRecDepth 100000 in
set_option maxHeartbeats 1000000 in
theorem pdqsort_any (R : List (List Int)) (g cap L : Nat) (lim : Int) (w : World) (hL : L = R.length) (hs : SortSt w g R) (hn : R.Nodup) (h1 : 1 ≤ L) (h12 : L ≤ 12) :
    Calls Try.prog 136 #[.slice (some ⟨g, 0, none⟩) L cap, .int .i64 0, .int .i64 L, .int .i64 lim, .func (.func 117) #[] #[]] w fun e w' => (∃ v, e = .returned v) ∧ ∃ S, S.Perm R ∧ S.Pairwise (· < ·) ∧ SortSt w' g S ∧ Only (fun k => k = g) w w' := by
  have hL12 : (L : Int) ≤ 12 := by omega
  have HL := Lib.hid hL
  have HS0 := Lib.hid hs
  have HN := Lib.hid hn
  clear hL hs hn
  go_enter Try.func136, Try.ntmps136
  go_wp2_with fail
  go_loopw [1, 2] (fun x y wr => x = .int .i64 0 ∧ y = .int .i64 L ∧ wr = w) (fun x _ _ => 0)
  case atStart => exact ⟨rfl, rfl, rfl⟩
  case round =>
    obtain ⟨rfl, rfl, rfl⟩ := hrel
    go_wp2_with fail
    refine (insertionSort_any R g cap L _ HL.out HS0.out HN.out h1 h12).mono ?_
    rintro e w1 ⟨⟨v, rfl⟩, hS⟩
    go_wp2_with fail
    refine bodyPost_ret (results_none rfl _ _ _) rfl ?_
    exact ⟨⟨_, rfl⟩, hS⟩

set_option maxRecDepth 100000 in
set_option maxHeartbeats 1000000 in
theorem sortFunc_any (R : List (List Int)) (g cap L : Nat) (w : World) (hL : L = R.length) (hs : SortSt w g R) (hn : R.Nodup) (h1 : 1 ≤ L) (h12 : L ≤ 12) :
    Calls Try.prog 116 #[.slice (some ⟨g, 0, none⟩) L cap, .func (.func 117) #[] #[]] w fun e w' => (∃ v, e = .returned v) ∧ ∃ S, S.Perm R ∧ S.Pairwise (· < ·) ∧ SortSt w' g S ∧ Only (fun k => k = g) w w' := by
  have HL := Lib.hid hL
  clear hL
  go_enter Try.func116, Try.ntmps116
  go_wp2_with fail
  refine (bitsLen_any L h12 _).mono ?_
  rintro e w1 ⟨⟨v, rfl⟩, rfl⟩
  go_wp2_with fail
  refine (pdqsort_any R g cap L v _ HL.out hs hn h1 h12).mono ?_
  rintro e w1 ⟨⟨v, rfl⟩, hS⟩
  go_wp2_with fail
  go_end0
  exact ⟨⟨_, rfl⟩, hS⟩
end Go.Proofs.Ytjhfieegkgndfaa
