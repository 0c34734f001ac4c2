/-
  Contracts: the index of a number, inverses.
-/
import Derived.Test.YtnkbdnimpcipfaaProg
import Derived.Test.YtnkbdnimpcipfaaBase
import Derived.Test.YtnkbdnimpcipfaaBase2
import Derived.Test.YtnkbdnimpcipfaaRet
import Derived.Test.YtnkbdnimpcipfaaPure1
import Derived.Test.YtnkbdnimpcipfaaPureOrd
import Derived.Test.YtnkbdnimpcipfaaPureInv
import Derived.Test.YtnkbdnimpcipfaaW1
import Derived.Test.YtnkbdnimpcipfaaW3
import Derived.Test.YtnkbdnimpcipfaaW6
import Derived.Test.YtnkbdnimpcipfaaW8
import Derived.Test.YtnkbdnimpcipfaaW11
import Derived.Test.YtnkbdnimpcipfaaW17
namespace Go.Proofs.Ytnkbdnimpcipfaa
set_option linter.unusedVariables false
set_option linter.unusedSimpArgs false
open Go.RowKit

theorem slicesIndex_any (l : List Int) (v : Value) (n : Int) (w : World) (hv : Ints w v l) :
    Calls Try.prog 107 #[v, .int .i64 n] w fun e w' => e = .returned (.int .i64 (indexOf l n)) ∧ w = w' := by
  obtain ⟨hlen, b, o, c, rfl, hc⟩ := hv
  go_enter Try.func107, Try.ntmps107
  go_wp2
  go_loop [8] (fun i => ∃ k : Nat, k ≤ l.length ∧ i = .int .i64 k ∧ indexOf l n = indexFrom n (l.drop k) k) (fun i => l.length - (intOf i).toNat)
  case atStart => exact ⟨0, Nat.zero_le _, rfl, by unfold indexOf; rfl⟩
  case round =>
    obtain ⟨k, hk, rfl, hr⟩ := hrel
    have Hr := Lib.hid hr
    clear hr
    by_cases hlt : k < l.length
    · have hcell := hc k hlt
      by_cases he : (n == ix l k) = true
      · go_wp2
        go_ret
        exact ⟨ret_int (by rw [Hr.out, indexFrom_hit l n k hlt (eq_of_beq he).symm]), rfl⟩
      · have he' : (n == ix l k) = false := by simpa using he
        have hne : ¬ ix l k = n := fun h => he (by rw [h]; exact beq_self_eq_true n)
        have HN := Lib.hid hne
        clear he hne
        go_wp2
        go_round
        case rel => exact ⟨k + 1, by omega, by go_num, by rw [Hr.out, indexFrom_miss l n k hlt HN.out]⟩
        case measure => simp [intOf]; omega
    · go_wp2
      go_ret
      exact ⟨ret_int (by rw [Hr.out, indexFrom_end l n k (by omega)]), rfl⟩

theorem indexIn_any (l : List Int) (v : Value) (n : Int) (w : World) (hv : Ints w v l) :
    Calls Try.prog 90 #[v, .int .i64 n] w fun e w' => e = .returned (.int .i64 (indexOf l n)) ∧ w = w' := by
  go_enter Try.func90, Try.ntmps90
  go_wp2_with (go_at_call 107; refine (slicesIndex_any l _ _ _ hv).mono ?_; rintro e w' ⟨rfl, rfl⟩)
  go_ret
  exact ⟨rfl, rfl⟩

theorem l10Back_any (t : List (List Int)) (v : Value) (x : Nat) (w : World) (hv : Rows w v t) (hx : x < t.length) :
    Calls Try.prog 57 #[v, .int .i64 x] w fun e w' => e = .returned (.int .i64 (backF t x)) ∧ w = w' := by
  obtain ⟨hlen, b, o, c, rfl, hc⟩ := id hv
  obtain ⟨b1, o1, c1, hr, hc1, hl1⟩ := hc.get hx
  go_enter Try.func57, Try.ntmps57
  go_wp2_with (go_at_call 86; refine (l01Index_any (row t x) _ _ _ (hc1.ints hl1 c1)).mono ?_; rintro e w' ⟨rfl, rfl⟩; rw [backF_def])
  go_ret
  exact ⟨rfl, rfl⟩

theorem groupInverses_any (t : List (List Int)) (v : Value) (w : World) (hv : Rows w v t) :
    Calls Try.prog 61 #[v] w fun e w' => ∃ b c, e = .returned (.slice (some ⟨b, 0, none⟩) t.length c) ∧ IntsAt w' b 0 (backs t) ∧ Ext w w' := by
  obtain ⟨hlen, b, o, c, rfl, hc⟩ := id hv
  have hmk := run_make_row' (P := Try.prog) 49 2 (.int .i64 0) 8 Try.underlying49 infoInt rfl .i64 .i64 t.length (by omega) (by omega)
  go_enter Try.func61, Try.ntmps61
  go_wp2_with fail
  clear hmk
  have hx0 : Ext w (w.alloc (.cells (madeCells #[Value.int .i64 0] t.length) 2)) := (Ext.refl _).alloc _
  have hr0 := World.rowIs_made w (.int .i64 0) t.length 2
  go_loopw [11] (fun i wr => ∃ k : Nat, k ≤ t.length ∧ i = .int .i64 k ∧ wr.rowIs w.heap.size 2 t.length (fun i => .int .i64 (copyTo (backs t) k i)) ∧ Ext w wr) (fun i _ => t.length - (intOf i).toNat)
  case atStart => exact ⟨0, Nat.zero_le _, rfl, hr0.congr (fun i hi => by rw [copyTo_zero]), hx0⟩
  case round =>
    clear hx0 hr0
    obtain ⟨k, hk, rfl, hrow, hx⟩ := hrel
    by_cases hlt : k < t.length
    · obtain ⟨b1, o1, c1, hr, hc1, hl1⟩ := (hc.ext hx).get hlt
      have e2 := hrow.cell hlt
      have e3 := hrow.frozen k
      go_wp2_with (go_at_call 90; refine (indexIn_any (row t k) _ _ _ (hc1.ints hl1 c1)).mono ?_; rintro e w' ⟨rfl, rfl⟩; rw [backF_def])
      go_roundw
      case rel => exact ⟨k + 1, by omega, by go_num, (hrow.set k (.int .i64 (backF t k))).congr (fun i hi => by rw [copyTo_succ, ix_backs _ _ hlt]; split <;> rfl), hx.setNew (Nat.le_refl _) _⟩
      case measure => simp [intOf]; omega
    · go_wp2
      go_ret
      have hkk : k = t.length := by omega
      exact ⟨w.heap.size, t.length, rfl, fun i hi => by
        rw [length_backs] at hi
        rw [Nat.zero_add, hrow.cell hi, copyTo_all _ _ _ (by omega)], hx⟩

theorem InverseIn_spec (t : List (List Int)) (v : Value) (a : Int) (w : World) (hv : Rows w v t) :
    Calls Try.prog 16 #[.agg #[v], .int .i64 a] w (RetII (invV t a) (elemC t a) w) := by
  obtain ⟨hlen, b, o, c, rfl, hc⟩ := id hv
  have hx0 := ext_box w (.slice (some ⟨b, o, none⟩) t.length c) 28
  have b0 := cell_new w (.slice (some ⟨b, o, none⟩) t.length c) 28
  cases hz : (elemC t a != 0) with
  | true =>
    rw [invV_bad (by simpa using hz)]
    go_enter Try.func16, Try.ntmps16
    go_wp2_with fail
    refine (l10Code_any t _ _ _ (hv.ext hx0)).mono ?_
    rintro e w1 ⟨rfl, hx1⟩
    go_wp2
    go_ret2
    exact ⟨rfl, hx0.trans hx1⟩
  | false =>
    have hz' : elemC t a = 0 := by simpa using hz
    have hb : 0 ≤ a ∧ a ≤ (t.length : Int) - 1 := by
      apply Classical.byContradiction
      intro hb
      cases hg : groupB t with
      | true => rw [elemC_2 hg hb] at hz'; omega
      | false => rw [elemC_1 hg] at hz'; omega
    obtain ⟨x, rfl⟩ := Int.eq_ofNat_of_zero_le hb.1
    rw [invV_good hz', hz']
    have HZ := Lib.hid hz'
    clear hz hz'
    go_enter Try.func16, Try.ntmps16
    go_wp2_with fail
    refine (l10Code_any t _ _ _ (hv.ext hx0)).mono ?_
    rintro e w1 ⟨rfl, hx1⟩
    rw [HZ.out]
    have b1 := hx1.cell b0
    have hx := hx0.trans hx1
    clear b0
    go_wp2_with (go_at_call 57; refine (l10Back_any t _ x _ (hv.ext hx) (by omega)).mono ?_; rintro e w' ⟨rfl, rfl⟩)
    go_ret2
    exact ⟨rfl, hx⟩

theorem InverseIn_impl (t : List (List Int)) (v : Value) (a : Int) (w : World) (hv : Rows w v t) :
    Calls Try.prog 18 #[.agg #[v], .int .i64 a] w (RetII (invV t a) (elemC t a) w) := by
  obtain ⟨hlen, b, o, c, rfl, hc⟩ := id hv
  have hx0 := ext_box w (.slice (some ⟨b, o, none⟩) t.length c) 28
  have b0 := cell_new w (.slice (some ⟨b, o, none⟩) t.length c) 28
  cases hg : groupB t with
  | false =>
    rw [invV_bad (by rw [elemC_1 hg]; omega), elemC_1 hg]
    go_enter Try.func18, Try.ntmps18
    go_wp2_with fail
    refine (IsGroup_impl t _ _ (hv.ext hx0)).mono ?_
    rintro e w1 ⟨rfl, hx1⟩
    go_wp2
    go_ret2
    exact ⟨rfl, hx0.trans hx1⟩
  | true =>
    cases hin : inR a 0 (t.length - 1) with
    | false =>
      rw [invV_bad (by rw [elemC_2 hg (inR_false.1 hin)]; omega), elemC_2 hg (inR_false.1 hin)]
      go_enter Try.func18, Try.ntmps18
      go_wp2_with fail
      refine (IsGroup_impl t _ _ (hv.ext hx0)).mono ?_
      rintro e w1 ⟨rfl, hx1⟩
      have b1 := hx1.cell b0
      have hal : allInB [a] 0 (t.length - 1) = false := by rw [allInB_one]; exact hin
      go_wp2_with fail
      refine (areElements_any t.length [a] _ _ ⟨by simp, _, _, 1, rfl, fun i hi => by
        have : i = 0 := by simp at hi; omega
        subst this; rw [ix_eq]; simp⟩ hlen).mono ?_
      rintro e w2 ⟨rfl, rfl⟩
      go_wp2
      go_ret2
      exact ⟨rfl, (hx0.trans hx1).alloc _⟩
    | true =>
      have hb := inR_iff.1 hin
      obtain ⟨x, rfl⟩ := Int.eq_ofNat_of_zero_le (a := a) (by omega)
      have hz' := elemC_0 hg hb
      rw [invV_good hz', hz']
      have hxl : x < t.length := by omega
      clear hz'
      go_enter Try.func18, Try.ntmps18
      go_wp2_with fail
      refine (IsGroup_impl t _ _ (hv.ext hx0)).mono ?_
      rintro e w1 ⟨rfl, hx1⟩
      have b1 := hx1.cell b0
      have hx := hx0.trans hx1
      have hal : allInB [(x : Int)] 0 (t.length - 1) = true := by rw [allInB_one]; exact hin
      clear b0
      go_wp2_with fail
      refine (areElements_any t.length [(x : Int)] _ _ ⟨by simp, _, _, 1, rfl, fun i hi => by
        have : i = 0 := by simp at hi; omega
        subst this; rw [ix_eq]; simp⟩ hlen).mono ?_
      rintro e w2 ⟨rfl, rfl⟩
      have hx2 : Ext w1 (w1.alloc (.cells #[.int .i64 x] 2)) := (Ext.refl _).alloc _
      have b2 := hx2.cell b1
      have hxx := hx.trans hx2
      clear hx hx2 b1 hin
      go_wp2_with fail
      refine (groupInverses_any t _ _ (hv.ext hxx)).mono ?_
      rintro e w3 ⟨b3, c3, rfl, hi3, hx3⟩
      have f3 := hi3 x (by rw [length_backs]; exact hxl)
      rw [ix_backs _ _ hxl, Nat.zero_add] at f3
      clear hi3
      go_wp2
      go_ret2
      exact ⟨rfl, hxx.trans hx3⟩
end Go.Proofs.Ytnkbdnimpcipfaa
