/-
  Contracts of OrderIn: reference and program.
-/
import Derived.Test.YtpldifgngkefjaaProg
import Derived.Test.YtpldifgngkefjaaBase
import Derived.Test.YtpldifgngkefjaaBase2
import Derived.Test.YtpldifgngkefjaaRet
import Derived.Test.YtpldifgngkefjaaPure1
import Derived.Test.YtpldifgngkefjaaPureOrd
import Derived.Test.YtpldifgngkefjaaW1
import Derived.Test.YtpldifgngkefjaaW3
import Derived.Test.YtpldifgngkefjaaW4
import Derived.Test.YtpldifgngkefjaaW6
import Derived.Test.YtpldifgngkefjaaW11
namespace Go.Proofs.Ytpldifgngkefjaa
set_option linter.unusedVariables false
set_option linter.unusedSimpArgs false
open Go.RowKit

theorem l10Code_any (t : List (List Int)) (v : Value) (a : Int) (w : World) (hv : Rows w v t) :
    Calls Try.prog 47 #[.agg #[v], .int .i64 a] w fun e w' => e = .returned (.int .i64 (elemC t a)) ∧ Ext w w' := by
  obtain ⟨hlen, b, o, c, rfl, -⟩ := id hv
  have hx0 := ext_box w (.slice (some ⟨b, o, none⟩) t.length c) 24
  have b0 := cell_new w (.slice (some ⟨b, o, none⟩) t.length c) 24
  cases hg : groupB t with
  | false =>
    rw [elemC_1 hg]
    go_enter Try.func47, Try.ntmps47
    go_wp2_with fail
    refine (l10Is_any t _ _ (hv.ext hx0)).mono ?_
    rintro e w1 ⟨rfl, hx1⟩
    go_wp2
    go_ret
    exact ⟨rfl, hx0.trans hx1⟩
  | true =>
    cases hin : inR a 0 (t.length - 1) with
    | false =>
      rw [elemC_2 hg (inR_false.1 hin)]
      go_enter Try.func47, Try.ntmps47
      go_wp2_with fail
      refine (l10Is_any t _ _ (hv.ext hx0)).mono ?_
      rintro e w1 ⟨rfl, hx1⟩
      have b1 := hx1.cell b0
      go_wp2_with (go_at_call 29; refine (l01In_any _ _ _ _).mono ?_; rintro e w' ⟨rfl, rfl⟩)
      go_ret
      exact ⟨rfl, hx0.trans hx1⟩
    | true =>
      rw [elemC_0 hg (inR_iff.1 hin)]
      go_enter Try.func47, Try.ntmps47
      go_wp2_with fail
      refine (l10Is_any t _ _ (hv.ext hx0)).mono ?_
      rintro e w1 ⟨rfl, hx1⟩
      have b1 := hx1.cell b0
      go_wp2_with (go_at_call 29; refine (l01In_any _ _ _ _).mono ?_; rintro e w' ⟨rfl, rfl⟩)
      go_ret
      exact ⟨rfl, hx0.trans hx1⟩

theorem areElements_any (n : Nat) (l : List Int) (v : Value) (w : World) (hv : Ints w v l) (hn : n ≤ 1048576) :
    Calls Try.prog 48 #[.int .i64 n, v] w fun e w' => e = .returned (.bool (allInB l 0 (n - 1))) ∧ w = w' := by
  go_enter Try.func48, Try.ntmps48
  go_wp2_with (go_at_call 61; refine (allWithin_any l _ _ _ _ hv).mono ?_; rintro e w' ⟨rfl, rfl⟩)
  go_ret
  exact ⟨rfl, rfl⟩

theorem allInB_one (a lo hi : Int) : allInB [a] lo hi = inR a lo hi := by
  rw [Bool.eq_iff_iff, allInB_iff, inR_iff]
  have h0 : ix [a] 0 = a := by rw [ix_eq]; rfl
  constructor
  · intro h; have := h 0 (by simp); rwa [h0] at this
  · intro h i hi
    have : i = 0 := by simp at hi; omega
    subst this; rw [h0]; exact h

set_option maxRecDepth 100000 in
theorem OrderIn_spec (t : List (List Int)) (v : Value) (a : Int) (w : World) (hv : Rows w v t) :
    Calls Try.prog 27 #[.agg #[v], .int .i64 a] w (RetII (ordInV t a) (elemC t a) w) := by
  obtain ⟨hlen, b, o, c, rfl, hc⟩ := id hv
  have hx0 := ext_box w (.slice (some ⟨b, o, none⟩) t.length c) 24
  have b0 := cell_new w (.slice (some ⟨b, o, none⟩) t.length c) 24
  cases hz : (elemC t a != 0) with
  | true =>
    rw [ordInV_bad (by simpa using hz)]
    go_enter Try.func27, Try.ntmps27
    go_wp2_with fail
    refine (l10Code_any t _ _ _ (hv.ext hx0)).mono ?_
    rintro e w1 ⟨rfl, hx1⟩
    go_wp2
    go_ret2
    exact ⟨rfl, hx0.trans hx1⟩
  | false =>
    have hz' : elemC t a = 0 := by simpa using hz
    have hg : groupB t = true := by
      cases hg : groupB t with
      | true => rfl
      | false => rw [elemC_1 hg] at hz'; omega
    have hb : 0 ≤ a ∧ a ≤ (t.length : Int) - 1 := by
      apply Classical.byContradiction
      intro hb; rw [elemC_2 hg hb] at hz'; omega
    obtain ⟨x, rfl⟩ := Int.eq_ofNat_of_zero_le hb.1
    rw [ordInV_good hz']
    have hG := groupB_iff.1 hg
    obtain ⟨d, hd, ho, hpz, hpn⟩ := ordOf_spec hG (x := x) (by omega)
    rw [ho]
    have HG := Lib.hid hG
    have HPZ := Lib.hid hpz
    have HPN := Lib.hid hpn
    have h12 := hG.1.2.1
    rw [hz']
    have HZ := Lib.hid hz'
    clear hG hpz hpn hg ho hz hz'
    go_enter Try.func27, Try.ntmps27
    go_wp2_with fail
    refine (l10Code_any t _ _ _ (hv.ext hx0)).mono ?_
    rintro e w1 ⟨rfl, hx1⟩
    rw [HZ.out]
    have b1 := hx1.cell b0
    have hx := hx0.trans hx1
    clear b0
    go_wp2
    go_loop [7, 8] (fun k y => ∃ m : Nat, m ≤ d ∧ k = .int .i64 (m + 1) ∧ y = .int .i64 (pw t x m)) (fun k _ => d + 1 - (intOf k).toNat)
    case atStart => exact ⟨0, Nat.zero_le _, by rfl, rfl⟩
    case round =>
      obtain ⟨m, hm, rfl, rfl⟩ := hrel
      by_cases hmd : m = d
      case pos =>
        subst hmd
        have hpb : (pw t x m != 0) = false := by rw [HPZ.out]; rfl
        go_wp2
        go_ret2
        exact ⟨rfl, hx⟩
      case neg =>
        have hpb : (pw t x m != 0) = true := by simpa using HPN.out m (by omega)
        have hbd := pw_bd HG.out.1 (x := x) (by omega) m
        obtain ⟨b1', o1, c1, hr, hc1, -⟩ := (hc.ext hx).get (i := (pw t x m).toNat) (by omega)
        have f1 := hc1.ent (y := x) (HG.out.1.len (by omega)) (by omega)
        have hpw : ent t (pw t x m).toNat x = pw t x (m + 1) := rfl
        rw [hpw] at f1
        rw [HG.out.1.len (by omega)] at hr
        clear hc1 hpw
        go_wp2
        go_round
        case rel => exact ⟨m + 1, by omega, by go_num, rfl⟩
        case measure => simp [intOf]; omega

set_option maxRecDepth 100000 in
theorem OrderIn_impl (t : List (List Int)) (v : Value) (a : Int) (w : World) (hv : Rows w v t) :
    Calls Try.prog 28 #[.agg #[v], .int .i64 a] w (RetII (ordInV t a) (elemC t a) w) := by
  obtain ⟨hlen, b, o, c, rfl, hc⟩ := id hv
  have hx0 := ext_box w (.slice (some ⟨b, o, none⟩) t.length c) 24
  have b0 := cell_new w (.slice (some ⟨b, o, none⟩) t.length c) 24
  cases hg : groupB t with
  | false =>
    rw [ordInV_bad (by rw [elemC_1 hg]; omega), elemC_1 hg]
    go_enter Try.func28, Try.ntmps28
    go_wp2_with fail
    refine (IsGroup_impl t _ _ (hv.ext hx0)).mono ?_
    rintro e w1 ⟨rfl, hx1⟩
    go_wp2
    go_ret2
    exact ⟨rfl, hx0.trans hx1⟩
  | true =>
    cases hin : inR a 0 (t.length - 1) with
    | false =>
      rw [ordInV_bad (by rw [elemC_2 hg (inR_false.1 hin)]; omega), elemC_2 hg (inR_false.1 hin)]
      go_enter Try.func28, Try.ntmps28
      go_wp2_with fail
      refine (IsGroup_impl t _ _ (hv.ext hx0)).mono ?_
      rintro e w1 ⟨rfl, hx1⟩
      have b1 := hx1.cell b0
      have hal : allInB [a] 0 (t.length - 1) = false := by rw [allInB_one]; exact hin
      go_wp2_with fail
      refine (areElements_any t.length [a] _ _ ⟨by simp, _, _, 1, rfl, fun i hi => by
        have : i = 0 := by simp at hi; omega
        subst this; rw [ix_eq]; simp⟩ hlen).mono ?_
      rintro e w2 ⟨rfl, rfl⟩
      go_wp2
      go_ret2
      exact ⟨rfl, (hx0.trans hx1).alloc _⟩
    | true =>
      have hb := inR_iff.1 hin
      obtain ⟨x, rfl⟩ := Int.eq_ofNat_of_zero_le (a := a) (by omega)
      have hz' := elemC_0 hg hb
      rw [ordInV_good hz', hz']
      have hG := groupB_iff.1 hg
      obtain ⟨d, hd, ho, hpz, hpn⟩ := ordOf_spec hG (x := x) (by omega)
      rw [ho]
      have HG := Lib.hid hG
      have HPZ := Lib.hid hpz
      have HPN := Lib.hid hpn
      have h12 := hG.1.2.1
      clear hG hpz hpn ho hz'
      go_enter Try.func28, Try.ntmps28
      go_wp2_with fail
      refine (IsGroup_impl t _ _ (hv.ext hx0)).mono ?_
      rintro e w1 ⟨rfl, hx1⟩
      have b1 := hx1.cell b0
      have hx := hx0.trans hx1
      have hal : allInB [(x : Int)] 0 (t.length - 1) = true := by rw [allInB_one]; exact hin
      clear b0
      go_wp2_with fail
      refine (areElements_any t.length [(x : Int)] _ _ ⟨by simp, _, _, 1, rfl, fun i hi => by
        have : i = 0 := by simp at hi; omega
        subst this; rw [ix_eq]; simp⟩ hlen).mono ?_
      rintro e w2 ⟨rfl, rfl⟩
      have hx2 : Ext w1 (w1.alloc (.cells #[.int .i64 x] 2)) := (Ext.refl _).alloc _
      have b2 := hx2.cell b1
      have hxx := hx.trans hx2
      clear hx hx2 b1 hin
      go_wp2
      go_loop [6, 7] (fun k y => ∃ m : Nat, m ≤ d ∧ k = .int .i64 (m + 1) ∧ y = .int .i64 (pw t x m)) (fun k _ => d + 1 - (intOf k).toNat)
      case atStart => exact ⟨0, Nat.zero_le _, by rfl, rfl⟩
      case round =>
        obtain ⟨m, hm, rfl, rfl⟩ := hrel
        by_cases hmd : m = d
        case pos =>
          subst hmd
          have hpb : (pw t x m != 0) = false := by rw [HPZ.out]; rfl
          go_wp2
          go_ret2
          exact ⟨rfl, hxx⟩
        case neg =>
          have hpb : (pw t x m != 0) = true := by simpa using HPN.out m (by omega)
          have hbd := pw_bd HG.out.1 (x := x) (by omega) m
          obtain ⟨b1', o1, c1, hr, hc1, -⟩ := (hc.ext hxx).get (i := (pw t x m).toNat) (by omega)
          have f1 := hc1.ent (y := x) (HG.out.1.len (by omega)) (by omega)
          have hpw : ent t (pw t x m).toNat x = pw t x (m + 1) := rfl
          rw [hpw] at f1
          rw [HG.out.1.len (by omega)] at hr
          clear hc1 hpw
          go_wp2
          go_round
          case rel => exact ⟨m + 1, by omega, by go_num, rfl⟩
          case measure => simp [intOf]; omega
end Go.Proofs.Ytpldifgngkefjaa
