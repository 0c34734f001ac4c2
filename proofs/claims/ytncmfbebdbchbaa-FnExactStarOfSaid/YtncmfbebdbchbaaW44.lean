/-
  Contracts of StarOf: reference and program.
-/
import Derived.Test.YtncmfbebdbchbaaProg
import Derived.Deep.DeepCutAuto
import Derived.Deep.RegionWith
import Derived.Deep.RegionHeld3
import Derived.Deep.DrawnRows
import Derived.Test.YtncmfbebdbchbaaBase
import Derived.Test.YtncmfbebdbchbaaBase2
import Derived.Test.YtncmfbebdbchbaaRet
import Derived.Test.YtncmfbebdbchbaaSteps
import Derived.Test.YtncmfbebdbchbaaGrow
import Derived.Test.YtncmfbebdbchbaaGrowR
import Derived.Test.YtncmfbebdbchbaaPure1
import Derived.Test.YtncmfbebdbchbaaPureOrd
import Derived.Test.YtncmfbebdbchbaaPureInv
import Derived.Test.YtncmfbebdbchbaaPureTurn
import Derived.Test.YtncmfbebdbchbaaPureConj
import Derived.Test.YtncmfbebdbchbaaPureSet
import Derived.Test.YtncmfbebdbchbaaPureBr
import Derived.Test.YtncmfbebdbchbaaPureSoc
import Derived.Test.YtncmfbebdbchbaaW1
import Derived.Test.YtncmfbebdbchbaaW3
import Derived.Test.YtncmfbebdbchbaaW4
import Derived.Test.YtncmfbebdbchbaaW5
import Derived.Test.YtncmfbebdbchbaaW6
import Derived.Test.YtncmfbebdbchbaaW8
import Derived.Test.YtncmfbebdbchbaaW11
import Derived.Test.YtncmfbebdbchbaaW12
import Derived.Test.YtncmfbebdbchbaaW17
import Derived.Test.YtncmfbebdbchbaaW20
import Derived.Test.YtncmfbebdbchbaaW26
import Derived.Test.YtncmfbebdbchbaaW28
import Derived.Test.YtncmfbebdbchbaaW29
import Derived.Test.YtncmfbebdbchbaaW37
import Derived.Test.YtncmfbebdbchbaaK2
namespace Go.Proofs.Ytncmfbebdbchbaa
set_option linter.unusedVariables false
set_option linter.unusedSimpArgs false
open Go.RowKit
attribute [local go_sem ↓] Go.wp_at_zero Go.wp_at_succ

/-! ### stars -/
@[irreducible] def starF (t u : List (List Int)) (x y : Nat) : Int := ent t (lamF t u x y).toNat (backF t y).toNat
theorem starF_def (t u : List (List Int)) (x y : Nat) : ent t (lamF t u x y).toNat (backF t y).toNat = starF t u x y := by unfold starF; rfl
@[irreducible] noncomputable def starC (t u : List (List Int)) (a b : Int) : Int := if braceB t u = true then (if allInB [a, b] 0 ((t.length : Int) - 1) = true then 0 else 2) else 1
@[irreducible] noncomputable def starV (t u : List (List Int)) (a b : Int) : Int := if starC t u a b = 0 then starF t u a.toNat b.toNat else 0
theorem star_1 {t u a b} (h : braceB t u = false) : starC t u a b = 1 ∧ starV t u a b = 0 := by
  have h1 : starC t u a b = 1 := by unfold starC; rw [if_neg (by rw [h]; simp)]
  exact ⟨h1, by unfold starV; rw [if_neg (by rw [h1]; decide)]⟩
theorem star_2 {t u a b} (h : braceB t u = true) (h2 : allInB [a, b] 0 ((t.length : Int) - 1) = false) : starC t u a b = 2 ∧ starV t u a b = 0 := by
  have h1 : starC t u a b = 2 := by unfold starC; rw [if_pos h, if_neg (by rw [h2]; simp)]
  exact ⟨h1, by unfold starV; rw [if_neg (by rw [h1]; decide)]⟩
theorem star_0 {t u} {x y : Nat} (h : braceB t u = true) (h2 : allInB [(x : Int), (y : Int)] 0 ((t.length : Int) - 1) = true) : starC t u x y = 0 ∧ starV t u x y = starF t u x y := by
  have h1 : starC t u x y = 0 := by unfold starC; rw [if_pos h, if_pos h2]
  exact ⟨h1, by unfold starV; rw [if_pos h1, Int.toNat_natCast, Int.toNat_natCast]⟩
theorem allIn_two {a b lo hi : Int} (h : allInB [a, b] lo hi = true) : (lo ≤ a ∧ a ≤ hi) ∧ (lo ≤ b ∧ b ≤ hi) := by
  have h' := allInB_iff.1 h
  have h0 := h' 0 (by simp)
  have h1 := h' 1 (by simp)
  rw [ix_eq] at h0 h1
  exact ⟨h0, h1⟩
theorem ints2 (w : World) (x y : Int) (T : Nat) : Ints (w.alloc (.cells #[.int .i64 x, .int .i64 y] T)) (.slice (some ⟨w.heap.size, 0, none⟩) 2 2) [x, y] := ⟨by simp, _, _, 2, rfl, fun i hi => by
  rw [ix_eq]
  match i, hi with
  | 0, _ => simp [go_sem]
  | 1, _ => simp [go_sem]⟩

theorem l04Elements_any (n : Nat) (l : List Int) (v : Value) (w : World) (hv : Ints w v l) (hn : n ≤ 1048576) :
    Calls Try.prog 66 #[.int .i64 n, v] w fun e w' => e = .returned (.bool (allInB l 0 (n - 1))) ∧ w = w' := by
  obtain ⟨hlen, b, o, c, rfl, hc⟩ := hv
  go_enter Try.func66, Try.ntmps66
  go_wp2
  go_loop [5] (fun i => ∃ k : Nat, k ≤ l.length ∧ i = .int .i64 k ∧ AllInTo l 0 ((n : Int) - 1) k) (fun i => l.length - (intOf i).toNat)
  case atStart => exact ⟨0, Nat.zero_le _, rfl, AllInTo.zero _ _ _⟩
  case round =>
    obtain ⟨k, hk, rfl, hto⟩ := hrel
    have HT := Lib.hid hto
    clear hto
    by_cases hlt : k < l.length
    · have hcell := hc k hlt
      cases hin : inR (ix l k) 0 ((n : Int) - 1) with
      | true =>
        go_wp2_with (go_at_call 107; refine (l01In_any _ _ _ _).mono ?_; rintro e w' ⟨rfl, rfl⟩; rw [hin])
        go_round
        case rel => exact ⟨k + 1, by omega, by go_num, HT.out.succ (inR_iff.1 hin)⟩
        case measure => simp [intOf]; omega
      | false =>
        go_wp2_with (go_at_call 107; refine (l01In_any _ _ _ _).mono ?_; rintro e w' ⟨rfl, rfl⟩; rw [hin])
        go_ret
        exact ⟨ret_bool (allInB_no (fun h => inR_false.1 hin (h k hlt))).symm, rfl⟩
    · go_wp2
      go_ret
      exact ⟨ret_bool (allInB_yes (HT.out.mono (by omega))).symm, rfl⟩

set_option maxRecDepth 100000 in
set_option maxHeartbeats 1000000 in
theorem l11Star_any (t u : List (List Int)) (v y : Value) (i j : Nat) (w : World) (hv : Rows w v t) (hy : Rows w y u) (hG : GroupOk t) (hU : GroupOk u) (hl : t.length = u.length) (hi : i < t.length) (hj : j < t.length) :
    Calls Try.prog 67 #[.agg #[v, y], .int .i64 i, .int .i64 j] w fun e w' => e = .returned (.int .i64 (starF t u i j)) ∧ Ext w w' := by
  obtain ⟨hlen, b, o, c, rfl, hc⟩ := id hv
  obtain ⟨hlen2, b2, o2, c2, rfl, hc2⟩ := id hy
  have hX := ext_boxB w (.slice (some ⟨b, o, none⟩) t.length c) (.slice (some ⟨b2, o2, none⟩) u.length c2) 41
  have k0 := cell_new2a w (.slice (some ⟨b, o, none⟩) t.length c) (.slice (some ⟨b2, o2, none⟩) u.length c2) 41
  have k1 := cell_new2b w (.slice (some ⟨b, o, none⟩) t.length c) (.slice (some ⟨b2, o2, none⟩) u.length c2) 41
  have h12 := hG.1.2.1
  have hb := backF_ok hG hi
  have hb2 := backF_ok hG hj
  have i0 : backF t i < (t.length : Int) := by omega
  have i9 : backF t j < (t.length : Int) := by omega
  have i1 := hb.1
  have i2 := hb2.1
  have iu : (i : Int) < (u.length : Int) := by omega
  have HG := Lib.hid hG
  have HU := Lib.hid hU
  have HL := Lib.hid hl
  clear hG hU
  obtain ⟨d1, s1, m1, r1, l1⟩ := (hc2.ext hX).read HU.out.1 hl.symm hi
  obtain ⟨f1, p1, p2⟩ := l1 j hj
  obtain ⟨d2, s2, m2, r2, l2⟩ := (hc.ext hX).read HG.out.1 rfl (x := (backF t i).toNat) (by omega)
  obtain ⟨f2, p3, p4⟩ := l2 (ent u i j).toNat (by omega)
  rw [lamF_def] at f2 p3 p4
  obtain ⟨d3, s3, m3, r3, l3⟩ := (hc.ext hX).read HG.out.1 rfl (x := (lamF t u i j).toNat) (by omega)
  obtain ⟨f3, p5, p6⟩ := l3 (backF t j).toNat (by omega)
  rw [starF_def] at f3 p5 p6
  clear l1 l2 l3 hl
  go_enter Try.func67, Try.ntmps67
  go_wp2
  generalize (w.alloc (.cells #[.slice (some ⟨b, o, none⟩) t.length c, .slice (some ⟨b2, o2, none⟩) u.length c2] 41)) = A at *
  clear hb hb2
  go_quiet ((go_at_call 59; exact Calls.quiet_of_same ((l10Back_any t _ _ _ (hv.ext (hX.drewN _)) (by assumption)).mono fun _ _ ⟨h1, h2⟩ => ⟨h1, h2.symm⟩)))
  go_wp2
  go_ret
  exact ⟨rfl, hX.drewN _⟩

theorem starTable1_any (t u : List (List Int)) (v : Value) (b3 c3 : Nat) (r : Value) (i j B C D : Nat) (w : World) (hB : w.cell? ⟨B, 0, none⟩ = some v) (hC : w.cell? ⟨C, 0, none⟩ = some r) (hD : w.cell? ⟨D, 0, none⟩ = some (.slice (some ⟨b3, 0, none⟩) t.length c3)) (hv : Rows w v t) (hr : Rows w r (mkT t.length (lamF t u))) (hi : IntsAt w b3 0 (backs t)) (hG : GroupOk t) (hU : GroupOk u) (hl : t.length = u.length) (hx : i < t.length) (hj : j < t.length) :
    Calls Try.prog 111 #[.int .i64 i, .int .i64 j, .pointer (some ⟨B, 0, none⟩), .pointer (some ⟨C, 0, none⟩), .pointer (some ⟨D, 0, none⟩)] w fun e w' => e = .returned (.int .i64 (starF t u i j)) ∧ Ext w w' := by
  obtain ⟨hlen, b, o, c, rfl, hc⟩ := id hv
  obtain ⟨-, b4, o4, c4, rfl, hc4⟩ := id hr
  have h12 := hG.1.2.1
  have hb := backF_ok hG hj
  have i0 : backF t j < (t.length : Int) := by omega
  have hlb := lamF_bd hG hU hl hx hj
  obtain ⟨d1, s1, m1, r1, l1, -⟩ := hc4.get (i := i) (by rw [length_mkT]; exact hx)
  have e1 := l1.ent (length_row_mkT _ _ _ hx) hj
  rw [ent_mkT _ _ _ _ hx hj] at e1
  rw [length_row_mkT _ _ _ hx] at r1
  rw [length_mkT] at hC
  obtain ⟨d2, s2, m2, r2, l2⟩ := hc.read hG.1 rfl (x := (lamF t u i j).toNat) (by omega)
  obtain ⟨f2, p3, p4⟩ := l2 (backF t j).toNat (by omega)
  rw [starF_def] at f2 p3 p4
  have ib := hi j (by rw [length_backs]; exact hj)
  rw [ix_backs _ _ hj, Nat.zero_add] at ib
  clear l1 l2 hG hU hl hc4 hr
  go_enter Try.func111, Try.ntmps111
  go_wp2
  go_quiet (fail)
  go_wp2
  go_ret
  exact ⟨rfl, (Ext.refl _).drewN _⟩

theorem callStarTable1 (args : Array Value) (w : World) : (callFunc 111 args).run Try.prog w = .ok (.enter 111 args) w :=
  callFunc_enter Try.func111 (by kernel_rfl) rfl args w

set_option maxRecDepth 100000 in
set_option maxHeartbeats 1000000 in
theorem starTable_any (t u : List (List Int)) (v y : Value) (w : World) (hv : Rows w v t) (hy : Rows w y u) (hG : GroupOk t) (hU : GroupOk u) (hl : t.length = u.length) :
    Calls Try.prog 70 #[.agg #[v, y]] w (NewT (mkT t.length (starF t u)) w) := by
  obtain ⟨hlen, b, o, c, rfl, hc⟩ := id hv
  obtain ⟨hlen2, b2, o2, c2, rfl, hc2⟩ := id hy
  have hX := ext_boxB w (.slice (some ⟨b, o, none⟩) t.length c) (.slice (some ⟨b2, o2, none⟩) u.length c2) 41
  have k0 := cell_new2a w (.slice (some ⟨b, o, none⟩) t.length c) (.slice (some ⟨b2, o2, none⟩) u.length c2) 41
  have k1 := cell_new2b w (.slice (some ⟨b, o, none⟩) t.length c) (.slice (some ⟨b2, o2, none⟩) u.length c2) 41
  have h12 := hG.1.2.1
  have HG := Lib.hid hG
  have HU := Lib.hid hU
  have HL := Lib.hid hl
  have HLT := Lib.hid (length_mkT t.length (lamF t u))
  have zA : w.heap.size + 1 ≤ (w.alloc (.cells #[.slice (some ⟨b, o, none⟩) t.length c, .slice (some ⟨b2, o2, none⟩) u.length c2] 41)).heap.size := by simp
  clear hG hU hl hc hc2
  go_enter Try.func70, Try.ntmps70
  go_wp2_with fail
  generalize (w.alloc (.cells #[.slice (some ⟨b, o, none⟩) t.length c, .slice (some ⟨b2, o2, none⟩) u.length c2] 41)) = A at *
  refine (groupInverses_any t _ _ (hv.ext hX)).mono ?_
  rintro e w1 ⟨b3, c3, rfl, hi3, hx1⟩
  replace hX := hX.trans hx1
  replace k0 := hx1.cell k0
  replace k1 := hx1.cell k1
  have hz := hx1.size
  have hxB := ext_box w1 (.slice (some ⟨b3, 0, none⟩) t.length c3) 50
  have bB := cell_new w1 (.slice (some ⟨b3, 0, none⟩) t.length c3) 50
  have zB : w1.heap.size < (w1.alloc (.cells #[.slice (some ⟨b3, 0, none⟩) t.length c3] 50)).heap.size := by simp
  replace k0 := hxB.cell k0
  replace k1 := hxB.cell k1
  replace hX := hX.trans hxB
  have HI := Lib.hid (hi3.ext hxB)
  clear hx1 hxB hi3
  go_wp2_with fail
  generalize w1.alloc (.cells #[.slice (some ⟨b3, 0, none⟩) t.length c3] 50) = B at *
  refine (lambdaTable_any t u _ _ _ (hv.ext hX) (hy.ext hX) HG.out HU.out HL.out).mono ?_
  rintro e w2 ⟨b4, c4, rfl, ho4, hx2⟩
  rw [HLT.out]
  replace k0 := hx2.cell k0
  replace k1 := hx2.cell k1
  replace bB := hx2.cell bB
  replace hX := hX.trans hx2
  have hz2 := hx2.size
  have hrr := (ho4.rowsAt (small_mkT (by omega) _)).rows (by rw [HLT.out]; omega) c4
  rw [HLT.out] at hrr
  have hxC := ext_box w2 (.slice (some ⟨b4, 0, none⟩) t.length c4) 22
  have bC := cell_new w2 (.slice (some ⟨b4, 0, none⟩) t.length c4) 22
  replace k0 := hxC.cell k0
  replace k1 := hxC.cell k1
  replace bB := hxC.cell bB
  have HR := Lib.hid (hrr.ext hxC)
  have hx2C := hx2.trans hxC
  clear ho4 hrr hx2
  go_wp2_with fail
  refine (tableBy_any t.length (starF t u) 111 #[.pointer (some ⟨w.heap.size, 0, none⟩), .pointer (some ⟨w2.heap.size, 0, none⟩), .pointer (some ⟨w1.heap.size, 0, none⟩)] _ (by omega) callStarTable1 (fun w3 x y h3 hx hy' => by
    rw [app23]
    have hX3 := hX.trans (hxC.trans h3)
    exact starTable1_any t u _ b3 c3 _ x y w.heap.size w2.heap.size w1.heap.size w3 (h3.cell k0) (h3.cell bC) (h3.cell bB) (hv.ext hX3) (HR.out.ext h3) (HI.out.ext (hx2C.trans h3)) HG.out HU.out HL.out hx hy')).mono ?_
  rintro e w4 ⟨b5, c5, rfl, ho, hx4⟩
  go_wp2
  go_ret
  exact ⟨b5, c5, rfl, ho.mono (by simp; omega) (Nat.le_refl _), hX.trans (hxC.trans hx4)⟩

set_option maxRecDepth 100000 in
set_option maxHeartbeats 1000000 in
theorem StarOf_spec (t u : List (List Int)) (v y : Value) (a d : Int) (w : World) (hv : Rows w v t) (hy : Rows w y u) :
    Calls Try.prog 25 #[.agg #[v, y], .int .i64 a, .int .i64 d] w (RetII (starV t u a d) (starC t u a d) w) := by
  obtain ⟨hlen, b, o, c, rfl, hc⟩ := id hv
  obtain ⟨hlen2, b2, o2, c2, rfl, hc2⟩ := id hy
  have hX := ext_boxB w (.slice (some ⟨b, o, none⟩) t.length c) (.slice (some ⟨b2, o2, none⟩) u.length c2) 41
  have k0 := cell_new2a w (.slice (some ⟨b, o, none⟩) t.length c) (.slice (some ⟨b2, o2, none⟩) u.length c2) 41
  have k1 := cell_new2b w (.slice (some ⟨b, o, none⟩) t.length c) (.slice (some ⟨b2, o2, none⟩) u.length c2) 41
  clear hc hc2
  cases hb : braceB t u with
  | false =>
    rw [(star_1 hb).1, (star_1 hb).2]
    go_enter Try.func25, Try.ntmps25
    go_wp2_with fail
    refine (l11Is_any t u _ _ _ (hv.ext hX) (hy.ext hX)).mono ?_
    rintro e wn ⟨rfl, hx⟩
    replace hX := hX.trans hx
    replace k0 := hx.cell k0
    replace k1 := hx.cell k1
    clear hx
    rw [hb]
    go_wp2
    go_ret2
    exact ⟨rfl, hX⟩
  | true =>
    obtain ⟨hG, hU, hL⟩ := braceB_ok hb
    have HL := Lib.hid hL
    have HG := Lib.hid hG
    have HU := Lib.hid hU
    have h12 := hG.1.2.1
    clear hL hG hU
    cases hin : allInB [a, d] 0 ((t.length : Int) - 1) with
    | false =>
      rw [(star_2 hb hin).1, (star_2 hb hin).2]
      go_enter Try.func25, Try.ntmps25
      go_wp2_with fail
      refine (l11Is_any t u _ _ _ (hv.ext hX) (hy.ext hX)).mono ?_
      rintro e wn ⟨rfl, hx⟩
      replace hX := hX.trans hx
      replace k0 := hx.cell k0
      replace k1 := hx.cell k1
      clear hx
      rw [hb]
      clear hb
      have hxe : Ext wn (wn.alloc (.cells #[.int .i64 a, .int .i64 d] 2)) := (Ext.refl _).alloc _
      have k0e := hxe.cell k0
      have k1e := hxe.cell k1
      go_wp2_with fail
      refine (l04Elements_any t.length [a, d] _ _ (ints2 wn a d 2) hlen).mono ?_
      rintro e we ⟨rfl, rfl⟩
      rw [hin]
      replace hX := hX.trans hxe
      clear k0 k1
      go_wp2
      go_ret2
      exact ⟨rfl, hX⟩
    | true =>
      obtain ⟨⟨ha, ha2⟩, ⟨hd, hd2⟩⟩ := allIn_two hin
      obtain ⟨x, rfl⟩ := Int.eq_ofNat_of_zero_le ha
      obtain ⟨z, rfl⟩ := Int.eq_ofNat_of_zero_le hd
      rw [(star_0 hb hin).1, (star_0 hb hin).2]
      have hxl : x < t.length := by omega
      have hzl : z < t.length := by omega
      go_enter Try.func25, Try.ntmps25
      go_wp2_with fail
      refine (l11Is_any t u _ _ _ (hv.ext hX) (hy.ext hX)).mono ?_
      rintro e wn ⟨rfl, hx⟩
      replace hX := hX.trans hx
      replace k0 := hx.cell k0
      replace k1 := hx.cell k1
      clear hx
      rw [hb]
      clear hb
      have hxe : Ext wn (wn.alloc (.cells #[.int .i64 (x : Int), .int .i64 (z : Int)] 2)) := (Ext.refl _).alloc _
      have k0e := hxe.cell k0
      have k1e := hxe.cell k1
      go_wp2_with fail
      refine (l04Elements_any t.length [(x : Int), (z : Int)] _ _ (ints2 wn (x : Int) (z : Int) 2) hlen).mono ?_
      rintro e we ⟨rfl, rfl⟩
      rw [hin]
      replace hX := hX.trans hxe
      clear k0 k1
      go_wp2_with fail
      refine (l11Star_any t u _ _ x z _ (hv.ext hX) (hy.ext hX) HG.out HU.out HL.out hxl hzl).mono ?_
      rintro e w3 ⟨rfl, hx⟩
      go_wp2
      go_ret2
      exact ⟨rfl, hX.trans hx⟩

set_option maxRecDepth 100000 in
set_option maxHeartbeats 1000000 in
theorem StarOf_impl (t u : List (List Int)) (v y : Value) (a d : Int) (w : World) (hv : Rows w v t) (hy : Rows w y u) :
    Calls Try.prog 27 #[.agg #[v, y], .int .i64 a, .int .i64 d] w (RetII (starV t u a d) (starC t u a d) w) := by
  obtain ⟨hlen, b, o, c, rfl, hc⟩ := id hv
  obtain ⟨hlen2, b2, o2, c2, rfl, hc2⟩ := id hy
  have hX := ext_boxB w (.slice (some ⟨b, o, none⟩) t.length c) (.slice (some ⟨b2, o2, none⟩) u.length c2) 41
  have k0 := cell_new2a w (.slice (some ⟨b, o, none⟩) t.length c) (.slice (some ⟨b2, o2, none⟩) u.length c2) 41
  have k1 := cell_new2b w (.slice (some ⟨b, o, none⟩) t.length c) (.slice (some ⟨b2, o2, none⟩) u.length c2) 41
  clear hc hc2
  cases hb : braceB t u with
  | false =>
    rw [(star_1 hb).1, (star_1 hb).2]
    go_enter Try.func27, Try.ntmps27
    go_wp2_with fail
    refine (IsBrace_impl t u _ _ _ (hv.ext hX) (hy.ext hX)).mono ?_
    rintro e wn ⟨rfl, hx⟩
    replace hX := hX.trans hx
    replace k0 := hx.cell k0
    replace k1 := hx.cell k1
    clear hx
    rw [hb]
    go_wp2
    go_ret2
    exact ⟨rfl, hX⟩
  | true =>
    obtain ⟨hG, hU, hL⟩ := braceB_ok hb
    have HL := Lib.hid hL
    have HG := Lib.hid hG
    have HU := Lib.hid hU
    have h12 := hG.1.2.1
    clear hL hG hU
    cases hin : allInB [a, d] 0 ((t.length : Int) - 1) with
    | false =>
      rw [(star_2 hb hin).1, (star_2 hb hin).2]
      go_enter Try.func27, Try.ntmps27
      go_wp2_with fail
      refine (IsBrace_impl t u _ _ _ (hv.ext hX) (hy.ext hX)).mono ?_
      rintro e wn ⟨rfl, hx⟩
      replace hX := hX.trans hx
      replace k0 := hx.cell k0
      replace k1 := hx.cell k1
      clear hx
      rw [hb]
      clear hb
      have hxe : Ext wn (wn.alloc (.cells #[.int .i64 a, .int .i64 d] 2)) := (Ext.refl _).alloc _
      have k0e := hxe.cell k0
      have k1e := hxe.cell k1
      go_wp2_with fail
      refine (areElements_any t.length [a, d] _ _ (ints2 wn a d 2) hlen).mono ?_
      rintro e we ⟨rfl, rfl⟩
      rw [hin]
      replace hX := hX.trans hxe
      clear k0 k1
      go_wp2
      go_ret2
      exact ⟨rfl, hX⟩
    | true =>
      obtain ⟨⟨ha, ha2⟩, ⟨hd, hd2⟩⟩ := allIn_two hin
      obtain ⟨x, rfl⟩ := Int.eq_ofNat_of_zero_le ha
      obtain ⟨z, rfl⟩ := Int.eq_ofNat_of_zero_le hd
      rw [(star_0 hb hin).1, (star_0 hb hin).2]
      have hxl : x < t.length := by omega
      have hzl : z < t.length := by omega
      go_enter Try.func27, Try.ntmps27
      go_wp2_with fail
      refine (IsBrace_impl t u _ _ _ (hv.ext hX) (hy.ext hX)).mono ?_
      rintro e wn ⟨rfl, hx⟩
      replace hX := hX.trans hx
      replace k0 := hx.cell k0
      replace k1 := hx.cell k1
      clear hx
      rw [hb]
      clear hb
      have hxe : Ext wn (wn.alloc (.cells #[.int .i64 (x : Int), .int .i64 (z : Int)] 2)) := (Ext.refl _).alloc _
      have k0e := hxe.cell k0
      have k1e := hxe.cell k1
      go_wp2_with fail
      refine (areElements_any t.length [(x : Int), (z : Int)] _ _ (ints2 wn (x : Int) (z : Int) 2) hlen).mono ?_
      rintro e we ⟨rfl, rfl⟩
      rw [hin]
      replace hX := hX.trans hxe
      clear k0 k1
      have HLT := Lib.hid (length_mkT t.length (starF t u))
      go_wp2_with fail
      refine (starTable_any t u _ _ _ (hv.ext hX) (hy.ext hX) HG.out HU.out HL.out).mono ?_
      rintro e w3 ⟨b5, c5, rfl, ho, hx⟩
      rw [HLT.out]
      obtain ⟨d1, s1, m1, r1, l1, -⟩ := (ho.rowsAt (small_mkT (by omega) _)).get (i := x) (by rw [HLT.out]; exact hxl)
      have e1 := l1.ent (length_row_mkT _ _ _ hxl) hzl
      rw [ent_mkT _ _ _ _ hxl hzl] at e1
      rw [length_row_mkT _ _ _ hxl, Nat.zero_add] at r1
      clear l1 ho
      go_wp2
      go_ret2
      exact ⟨rfl, hX.trans hx⟩

end Go.Proofs.Ytncmfbebdbchbaa
