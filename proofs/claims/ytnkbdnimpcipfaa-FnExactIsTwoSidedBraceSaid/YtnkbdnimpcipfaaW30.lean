/-
  Contracts of IsTwoSidedBrace.
-/
import Derived.Test.YtnkbdnimpcipfaaProg
import Derived.Test.YtnkbdnimpcipfaaBase
import Derived.Test.YtnkbdnimpcipfaaBase2
import Derived.Test.YtnkbdnimpcipfaaRet
import Derived.Test.YtnkbdnimpcipfaaPure1
import Derived.Test.YtnkbdnimpcipfaaPureOrd
import Derived.Test.YtnkbdnimpcipfaaPureInv
import Derived.Test.YtnkbdnimpcipfaaPureTurn
import Derived.Test.YtnkbdnimpcipfaaPureBr
import Derived.Test.YtnkbdnimpcipfaaW1
import Derived.Test.YtnkbdnimpcipfaaW3
import Derived.Test.YtnkbdnimpcipfaaW6
import Derived.Test.YtnkbdnimpcipfaaW8
import Derived.Test.YtnkbdnimpcipfaaW11
import Derived.Test.YtnkbdnimpcipfaaW20
import Derived.Test.YtnkbdnimpcipfaaW26
import Derived.Test.YtnkbdnimpcipfaaW28
import Derived.Test.YtnkbdnimpcipfaaW29
import Derived.Test.YtnkbdnimpcipfaaK2
import Derived.Test.YtnkbdnimpcipfaaK3
namespace Go.Proofs.Ytnkbdnimpcipfaa
set_option linter.unusedVariables false
set_option linter.unusedSimpArgs false
open Go.RowKit

/-- (x + y) o z -/
@[irreducible] def leftS (t u : List (List Int)) (x y z : Nat) : Int := ent u (ent t x y).toNat z
/-- ((x o z) - z) + (y o z) -/
@[irreducible] def rightS (t u : List (List Int)) (x y z : Nat) : Int := ent t (ent t (ent u x z).toNat (backF t z).toNat).toNat (ent u y z).toNat
theorem leftS_def (t u : List (List Int)) (x y z : Nat) : ent u (ent t x y).toNat z = leftS t u x y z := by unfold leftS; rfl
theorem rightS_def (t u : List (List Int)) (x y z : Nat) : ent t (ent t (ent u x z).toNat (backF t z).toNat).toNat (ent u y z).toNat = rightS t u x y z := by unfold rightS; rfl
def TsZ (t u : List (List Int)) (x y k : Nat) : Prop := ∀ z, z < k → leftS t u x y z = rightS t u x y z
def TsY (t u : List (List Int)) (x k : Nat) : Prop := ∀ y, y < k → TsZ t u x y t.length
def TsX (t u : List (List Int)) (k : Nat) : Prop := ∀ x, x < k → TsY t u x t.length
instance (t u x y k) : Decidable (TsZ t u x y k) := by unfold TsZ; infer_instance
instance (t u x k) : Decidable (TsY t u x k) := by unfold TsY; infer_instance
instance (t u k) : Decidable (TsX t u k) := by unfold TsX; infer_instance
@[irreducible] def twoSB (t u : List (List Int)) : Bool := decide (TsX t u t.length)
theorem twoSB_yes {t u} (h : TsX t u t.length) : twoSB t u = true := by unfold twoSB; simpa using h
theorem twoSB_no {t u : List (List Int)} {x y z : Nat} (hx : x < t.length) (hy : y < t.length) (hz : z < t.length) (h : leftS t u x y z ≠ rightS t u x y z) : twoSB t u = false := by
  unfold twoSB
  rw [decide_eq_false_iff_not]
  intro k; exact h (k x hx y hy z hz)
theorem ret_bi {a b : Bool} {k : IntKind} {c : Int} (h : a = b) : Ending.returned (.tuple #[.bool a, .int k c]) = .returned (.tuple #[.bool b, .int k c]) := by rw [h]
theorem l10Back_drawn (t : List (List Int)) (v : Value) (x : Nat) (w : World) (hv : Rows w v t) (hx : x < t.length) :
    Calls Try.prog 57 #[v, .int .i64 x] w fun e w' => e = .returned (.int .i64 (backF t x)) ∧ Drawn w w' :=
  (l10Back_any t v x w hv hx).mono fun _ _ ⟨h1, h2⟩ => ⟨h1, h2 ▸ Drawn.refl _⟩

set_option maxRecDepth 100000 in
set_option maxHeartbeats 2000000 in
theorem IsTwoSidedBrace_spec (t u : List (List Int)) (v y : Value) (w : World) (hv : Rows w v t) (hy : Rows w y u) :
    Calls Try.prog 42 #[.agg #[v, y]] w (RetBI (ifB t u (twoSB t u) false) (codeB t u) w) := by
  obtain ⟨hlen, b, o, c, rfl, hc⟩ := id hv
  obtain ⟨hlen2, b2, o2, c2, rfl, hc2⟩ := id hy
  have hX := ext_boxB w (.slice (some ⟨b, o, none⟩) t.length c) (.slice (some ⟨b2, o2, none⟩) u.length c2) 38
  have k0 := cell_new2a w (.slice (some ⟨b, o, none⟩) t.length c) (.slice (some ⟨b2, o2, none⟩) u.length c2) 38
  have k1 := cell_new2b w (.slice (some ⟨b, o, none⟩) t.length c) (.slice (some ⟨b2, o2, none⟩) u.length c2) 38
  cases hb : braceB t u with
  | false =>
    rw [ifB_no hb, codeB_no hb]
    go_enter Try.func42, Try.ntmps42
    go_wp2_with fail
    refine (l11Is_any t u _ _ _ (hv.ext hX) (hy.ext hX)).mono ?_
    rintro e w1 ⟨rfl, hx1⟩
    rw [hb]
    go_wp2
    go_ret2
    exact ⟨rfl, hX.trans hx1⟩
  | true =>
    rw [ifB_yes hb, codeB_yes hb]
    obtain ⟨hG, hU, hL⟩ := braceB_ok hb
    have HL := Lib.hid hL
    have h12 := hG.1.2.1
    have HT := Lib.hid hG
    have HU := Lib.hid hU
    have HB := Lib.hid (fun x (hx : x < t.length) => backF_ok hG hx)
    clear hL hG hU
    go_enter Try.func42, Try.ntmps42
    go_wp2_with fail
    refine (l11Is_any t u _ _ _ (hv.ext hX) (hy.ext hX)).mono ?_
    rintro e A ⟨rfl, hx⟩
    rw [hb]
    replace hX := hX.trans hx
    replace k0 := hx.cell k0
    replace k1 := hx.cell k1
    clear hx hb
    rw [← HL.out] at k1
    go_wp2
    go_loopw [5] (fun i wr => ∃ x : Nat, x ≤ t.length ∧ i = .int .i64 x ∧ TsX t u x ∧ Ext A wr) (fun i _ => t.length - (intOf i).toNat)
    case atStart => exact ⟨0, Nat.zero_le _, rfl, all_zero, Ext.refl _⟩
    case round =>
      obtain ⟨x, hx, rfl, hno, hxA⟩ := hrel
      have HX := Lib.hid hno
      clear hno
      have j0 := hxA.cell k0
      have j1 := hxA.cell k1
      by_cases hxl : x < t.length
      case neg =>
        go_wp2
        go_ret2
        have hxx : x = t.length := by omega
        subst hxx
        exact ⟨ret_bi (twoSB_yes HX.out).symm, hX.trans hxA⟩
      case pos =>
        obtain ⟨w2, rfl⟩ : ∃ w2 : World, w2 = wr := ⟨_, rfl⟩
        go_wp2
        go_loopw [6] (fun i wr => ∃ y : Nat, y ≤ t.length ∧ i = .int .i64 y ∧ TsY t u x y ∧ Ext w2 wr) (fun i _ => t.length - (intOf i).toNat)
        case atStart => exact ⟨0, Nat.zero_le _, rfl, all_zero, Ext.refl _⟩
        case round =>
          obtain ⟨y, hyy, rfl, hno, hxB⟩ := hrel
          have HY := Lib.hid hno
          clear hno
          have e0 := hxB.cell j0
          have e1 := hxB.cell j1
          by_cases hyl : y < t.length
          case neg =>
            go_wp2
            go_roundw
            case rel =>
              have hyy : y = t.length := by omega
              subst hyy
              exact ⟨x + 1, by omega, by go_num, all_succ HX.out HY.out, hxA.trans hxB⟩
            case measure => simp [intOf]; omega
          case pos =>
            obtain ⟨w3, rfl⟩ : ∃ w3 : World, w3 = wr := ⟨_, rfl⟩
            go_wp2
            go_loopw [7] (fun i wr => ∃ z : Nat, z ≤ t.length ∧ i = .int .i64 z ∧ TsZ t u x y z ∧ Ext w3 wr) (fun i _ => t.length - (intOf i).toNat)
            case atStart => exact ⟨0, Nat.zero_le _, rfl, all_zero, Ext.refl _⟩
            case round =>
              obtain ⟨z, hzz, rfl, hno, hxC⟩ := hrel
              have HZ := Lib.hid hno
              clear hno
              by_cases hzl : z < t.length
              case neg =>
                go_wp2
                go_roundw
                case rel =>
                  have hzz : z = t.length := by omega
                  subst hzz
                  exact ⟨y + 1, by omega, by go_num, all_succ HY.out HZ.out, hxB.trans hxC⟩
                case measure => simp [intOf]; omega
              case pos =>
                have hXC := (hX.trans hxA).trans (hxB.trans hxC)
                have i0 := hxC.cell e0
                have i1 := hxC.cell e1
                have hb := HB.out z hzl
                have p := HT.out.1.bd hxl hyl
                have q := HU.out.1.bd (x := x) (y := z) (by have := HL.out; omega) (by have := HL.out; omega)
                rw [← HL.out] at q
                have qy := HU.out.1.bd (x := y) (y := z) (by have := HL.out; omega) (by have := HL.out; omega)
                rw [← HL.out] at qy
                obtain ⟨d1, s1, m1, r1, l1, -⟩ := (hc.ext hXC).get (i := x) (by omega)
                obtain ⟨d2, s2, m2, r2, l2, -⟩ := (hc2.ext hXC).get (i := (ent t x y).toNat) (by have := HL.out; omega)
                obtain ⟨d3, s3, m3, r3, l3, -⟩ := (hc2.ext hXC).get (i := x) (by have := HL.out; omega)
                obtain ⟨d4, s4, m4, r4, l4, -⟩ := (hc.ext hXC).get (i := (ent u x z).toNat) (by omega)
                have g := HT.out.1.bd (x := (ent u x z).toNat) (y := (backF t z).toNat) (by omega) (by omega)
                obtain ⟨d5, s5, m5, r5, l5, -⟩ := (hc.ext hXC).get (i := (ent t (ent u x z).toNat (backF t z).toNat).toNat) (by omega)
                obtain ⟨d6, s6, m6, r6, l6, -⟩ := (hc2.ext hXC).get (i := y) (by have := HL.out; omega)
                have n2 := HU.out.1.len (x := (ent t x y).toNat) (by have := HL.out; omega)
                have n3 := HU.out.1.len (x := x) (by have := HL.out; omega)
                have n6 := HU.out.1.len (x := y) (by have := HL.out; omega)
                rw [← HL.out] at n2 n3 n6
                have f1 := l1.ent (HT.out.1.len (x := x) (by omega)) (y := y) (by omega)
                have f2 := l2.ent n2 (y := z) (by omega)
                have f3 := l3.ent n3 (y := z) (by omega)
                have f4 := l4.ent (HT.out.1.len (x := (ent u x z).toNat) (by omega)) (y := (backF t z).toNat) (by omega)
                have f5 := l5.ent (HT.out.1.len (x := (ent t (ent u x z).toNat (backF t z).toNat).toNat) (by omega)) (y := (ent u y z).toNat) (by omega)
                have f6 := l6.ent n6 (y := z) (by omega)
                rw [HT.out.1.len (x := x) (by omega)] at r1
                rw [n2] at r2
                rw [n3] at r3
                rw [HT.out.1.len (x := (ent u x z).toNat) (by omega)] at r4
                rw [HT.out.1.len (x := (ent t (ent u x z).toNat (backF t z).toNat).toNat) (by omega)] at r5
                rw [n6] at r6
                rw [leftS_def] at f2
                rw [rightS_def] at f5
                clear l1 l2 l3 l4 l5 l6 n2 n3 n6
                cases hne : (leftS t u x y z != rightS t u x y z) with
                | true =>
                  go_wp2
                  go_quiet (fail)
                  have hq : Ext wr (wr.drewN nq) := (Ext.refl _).drewN _
                  replace i0 := hq.cell i0
                  replace i1 := hq.cell i1
                  replace r1 := hq.cell r1
                  replace r2 := hq.cell r2
                  replace r3 := hq.cell r3
                  replace r4 := hq.cell r4
                  replace r5 := hq.cell r5
                  replace r6 := hq.cell r6
                  replace f1 := hq.cell f1
                  replace f2 := hq.cell f2
                  replace f3 := hq.cell f3
                  replace f4 := hq.cell f4
                  replace f5 := hq.cell f5
                  replace f6 := hq.cell f6
                  replace hXC := hXC.trans hq
                  replace hxC := hxC.trans hq
                  clear hq
                  generalize wr.drewN nq = wq at *
                  go_wp2
                  go_quiet ((go_at_call 57; exact Calls.quiet_of (l10Back_drawn t _ z _ (hv.ext (hXC.drewN _)) hzl)))
                  go_wp2
                  go_ret2
                  exact ⟨ret_bi (twoSB_no hxl hyl hzl (by simpa using hne)).symm, hXC.drewN _⟩
                | false =>
                  go_wp2
                  go_quiet (fail)
                  have hq : Ext wr (wr.drewN nq) := (Ext.refl _).drewN _
                  replace i0 := hq.cell i0
                  replace i1 := hq.cell i1
                  replace r1 := hq.cell r1
                  replace r2 := hq.cell r2
                  replace r3 := hq.cell r3
                  replace r4 := hq.cell r4
                  replace r5 := hq.cell r5
                  replace r6 := hq.cell r6
                  replace f1 := hq.cell f1
                  replace f2 := hq.cell f2
                  replace f3 := hq.cell f3
                  replace f4 := hq.cell f4
                  replace f5 := hq.cell f5
                  replace f6 := hq.cell f6
                  replace hXC := hXC.trans hq
                  replace hxC := hxC.trans hq
                  clear hq
                  generalize wr.drewN nq = wq at *
                  go_wp2
                  go_quiet ((go_at_call 57; exact Calls.quiet_of (l10Back_drawn t _ z _ (hv.ext (hXC.drewN _)) hzl)))
                  go_wp2
                  go_roundw
                  case rel => exact ⟨z + 1, by omega, by go_num, all_succ HZ.out (by simpa using hne), hxC.drewN _⟩
                  case measure => simp [intOf]; omega

set_option maxRecDepth 100000 in
set_option maxHeartbeats 2000000 in
theorem IsTwoSidedBrace_impl (t u : List (List Int)) (v y : Value) (w : World) (hv : Rows w v t) (hy : Rows w y u) :
    Calls Try.prog 43 #[.agg #[v, y]] w (RetBI (ifB t u (twoSB t u) false) (codeB t u) w) := by
  obtain ⟨hlen, b, o, c, rfl, hc⟩ := id hv
  obtain ⟨hlen2, b2, o2, c2, rfl, hc2⟩ := id hy
  have hX := ext_boxB w (.slice (some ⟨b, o, none⟩) t.length c) (.slice (some ⟨b2, o2, none⟩) u.length c2) 38
  have k0 := cell_new2a w (.slice (some ⟨b, o, none⟩) t.length c) (.slice (some ⟨b2, o2, none⟩) u.length c2) 38
  have k1 := cell_new2b w (.slice (some ⟨b, o, none⟩) t.length c) (.slice (some ⟨b2, o2, none⟩) u.length c2) 38
  cases hb : braceB t u with
  | false =>
    rw [ifB_no hb, codeB_no hb]
    go_enter Try.func43, Try.ntmps43
    go_wp2_with fail
    refine (IsBrace_impl t u _ _ _ (hv.ext hX) (hy.ext hX)).mono ?_
    rintro e w1 ⟨rfl, hx1⟩
    rw [hb]
    go_wp2
    go_ret2
    exact ⟨rfl, hX.trans hx1⟩
  | true =>
    rw [ifB_yes hb, codeB_yes hb]
    obtain ⟨hG, hU, hL⟩ := braceB_ok hb
    have HL := Lib.hid hL
    have h12 := hG.1.2.1
    have HT := Lib.hid hG
    have HU := Lib.hid hU
    have HB := Lib.hid (fun x (hx : x < t.length) => backF_ok hG hx)
    clear hL hG hU
    go_enter Try.func43, Try.ntmps43
    go_wp2_with fail
    refine (IsBrace_impl t u _ _ _ (hv.ext hX) (hy.ext hX)).mono ?_
    rintro e A ⟨rfl, hx⟩
    rw [hb]
    replace hX := hX.trans hx
    replace k0 := hx.cell k0
    replace k1 := hx.cell k1
    clear hx hb
    go_wp2_with fail
    refine (groupInverses_any t _ _ (hv.ext hX)).mono ?_
    rintro e B ⟨bb, cb, rfl, hib, hx⟩
    replace hX := hX.trans hx
    replace k0 := hx.cell k0
    replace k1 := hx.cell k1
    clear hx
    obtain ⟨A, rfl⟩ : ∃ A : World, A = B := ⟨_, rfl⟩
    rw [← HL.out] at k1
    go_wp2
    go_loopw [17] (fun i wr => ∃ x : Nat, x ≤ t.length ∧ i = .int .i64 x ∧ TsX t u x ∧ Ext A wr) (fun i _ => t.length - (intOf i).toNat)
    case atStart => exact ⟨0, Nat.zero_le _, rfl, all_zero, Ext.refl _⟩
    case round =>
      obtain ⟨x, hx, rfl, hno, hxA⟩ := hrel
      have HX := Lib.hid hno
      clear hno
      have j0 := hxA.cell k0
      have j1 := hxA.cell k1
      by_cases hxl : x < t.length
      case neg =>
        go_wp2
        go_ret2
        have hxx : x = t.length := by omega
        subst hxx
        exact ⟨ret_bi (twoSB_yes HX.out).symm, hX.trans hxA⟩
      case pos =>
        obtain ⟨w2, rfl⟩ : ∃ w2 : World, w2 = wr := ⟨_, rfl⟩
        go_wp2
        go_loopw [23] (fun i wr => ∃ y : Nat, y ≤ t.length ∧ i = .int .i64 y ∧ TsY t u x y ∧ Ext w2 wr) (fun i _ => t.length - (intOf i).toNat)
        case atStart => exact ⟨0, Nat.zero_le _, rfl, all_zero, Ext.refl _⟩
        case round =>
          obtain ⟨y, hyy, rfl, hno, hxB⟩ := hrel
          have HY := Lib.hid hno
          clear hno
          have e0 := hxB.cell j0
          have e1 := hxB.cell j1
          by_cases hyl : y < t.length
          case neg =>
            go_wp2
            go_roundw
            case rel =>
              have hyy : y = t.length := by omega
              subst hyy
              exact ⟨x + 1, by omega, by go_num, all_succ HX.out HY.out, hxA.trans hxB⟩
            case measure => simp [intOf]; omega
          case pos =>
            obtain ⟨w3, rfl⟩ : ∃ w3 : World, w3 = wr := ⟨_, rfl⟩
            go_wp2
            go_loopw [29] (fun i wr => ∃ z : Nat, z ≤ t.length ∧ i = .int .i64 z ∧ TsZ t u x y z ∧ Ext w3 wr) (fun i _ => t.length - (intOf i).toNat)
            case atStart => exact ⟨0, Nat.zero_le _, rfl, all_zero, Ext.refl _⟩
            case round =>
              obtain ⟨z, hzz, rfl, hno, hxC⟩ := hrel
              have HZ := Lib.hid hno
              clear hno
              by_cases hzl : z < t.length
              case neg =>
                go_wp2
                go_roundw
                case rel =>
                  have hzz : z = t.length := by omega
                  subst hzz
                  exact ⟨y + 1, by omega, by go_num, all_succ HY.out HZ.out, hxB.trans hxC⟩
                case measure => simp [intOf]; omega
              case pos =>
                have hXC := (hX.trans hxA).trans (hxB.trans hxC)
                have i0 := hxC.cell e0
                have i1 := hxC.cell e1
                have hb := HB.out z hzl
                have p := HT.out.1.bd hxl hyl
                have q := HU.out.1.bd (x := x) (y := z) (by have := HL.out; omega) (by have := HL.out; omega)
                rw [← HL.out] at q
                have qy := HU.out.1.bd (x := y) (y := z) (by have := HL.out; omega) (by have := HL.out; omega)
                rw [← HL.out] at qy
                obtain ⟨d1, s1, m1, r1, l1, -⟩ := (hc.ext hXC).get (i := x) (by omega)
                obtain ⟨d2, s2, m2, r2, l2, -⟩ := (hc2.ext hXC).get (i := (ent t x y).toNat) (by have := HL.out; omega)
                obtain ⟨d3, s3, m3, r3, l3, -⟩ := (hc2.ext hXC).get (i := x) (by have := HL.out; omega)
                obtain ⟨d4, s4, m4, r4, l4, -⟩ := (hc.ext hXC).get (i := (ent u x z).toNat) (by omega)
                have g := HT.out.1.bd (x := (ent u x z).toNat) (y := (backF t z).toNat) (by omega) (by omega)
                obtain ⟨d5, s5, m5, r5, l5, -⟩ := (hc.ext hXC).get (i := (ent t (ent u x z).toNat (backF t z).toNat).toNat) (by omega)
                obtain ⟨d6, s6, m6, r6, l6, -⟩ := (hc2.ext hXC).get (i := y) (by have := HL.out; omega)
                have n2 := HU.out.1.len (x := (ent t x y).toNat) (by have := HL.out; omega)
                have n3 := HU.out.1.len (x := x) (by have := HL.out; omega)
                have n6 := HU.out.1.len (x := y) (by have := HL.out; omega)
                rw [← HL.out] at n2 n3 n6
                have f1 := l1.ent (HT.out.1.len (x := x) (by omega)) (y := y) (by omega)
                have f2 := l2.ent n2 (y := z) (by omega)
                have f3 := l3.ent n3 (y := z) (by omega)
                have f4 := l4.ent (HT.out.1.len (x := (ent u x z).toNat) (by omega)) (y := (backF t z).toNat) (by omega)
                have f5 := l5.ent (HT.out.1.len (x := (ent t (ent u x z).toNat (backF t z).toNat).toNat) (by omega)) (y := (ent u y z).toNat) (by omega)
                have f6 := l6.ent n6 (y := z) (by omega)
                rw [HT.out.1.len (x := x) (by omega)] at r1
                rw [n2] at r2
                rw [n3] at r3
                rw [HT.out.1.len (x := (ent u x z).toNat) (by omega)] at r4
                rw [HT.out.1.len (x := (ent t (ent u x z).toNat (backF t z).toNat).toNat) (by omega)] at r5
                rw [n6] at r6
                rw [leftS_def] at f2
                rw [rightS_def] at f5
                have ib := (hib.ext (hxA.trans (hxB.trans hxC))) z (by rw [length_backs]; exact hzl)
                rw [ix_backs _ _ hzl, Nat.zero_add] at ib
                clear l1 l2 l3 l4 l5 l6 n2 n3 n6
                cases hne : (leftS t u x y z != rightS t u x y z) with
                | true =>
                  go_wp2
                  go_quiet (fail)
                  go_wp2
                  go_ret2
                  exact ⟨ret_bi (twoSB_no hxl hyl hzl (by simpa using hne)).symm, hXC.drewN _⟩
                | false =>
                  go_wp2
                  go_quiet (fail)
                  go_wp2
                  go_roundw
                  case rel => exact ⟨z + 1, by omega, by go_num, all_succ HZ.out (by simpa using hne), hxC.drewN _⟩
                  case measure => simp [intOf]; omega

end Go.Proofs.Ytnkbdnimpcipfaa
