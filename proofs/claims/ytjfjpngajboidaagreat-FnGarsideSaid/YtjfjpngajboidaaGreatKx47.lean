/-
  Contract of the program's restsOf.
-/
import Derived.Test.YtjfjpngajboidaaGreatKx46
namespace Go.Proofs.YtjfjpngajboidaaGreat
set_option linter.unusedVariables false
set_option linter.unusedSimpArgs false
open Go.RowKit
open Go.Deep

def RowsW (lo : Nat) (w : World) (v : Value) (t : List (List Int)) : Prop := (∃ a c, v = .slice a t.length c) ∧ (0 < t.length → RowsK lo w v t)
theorem RowsW.nil (lo : Nat) (w : World) : RowsW lo w (.slice none 0 0) [] := ⟨⟨none, 0, rfl⟩, fun h => by simp at h⟩
theorem ListK.rowsW {e lo : Nat} {D : Nat → Prop} {w : World} {v : Value} {xs : List Value} {t : List (List Int)} (h : ListK e lo D w v xs t) (hl : t.length ≤ 1048576) : RowsW lo w v t := ⟨h.shape, fun hp => by
  obtain ⟨g, c, rfl, hm⟩ := h.mine hp
  exact hm.toRows hl⟩
theorem RowsW.low {lo lo' : Nat} {w : World} {v : Value} {t : List (List Int)} (h : RowsW lo w v t) (hl : lo' ≤ lo) : RowsW lo' w v t := ⟨h.1, fun hp => (h.2 hp).low hl⟩
def RetN (c : Int) (t : List (List Int)) (w : World) (e : Ending) (w' : World) : Prop := ∃ v, e = .returned (.tuple #[v, .int .i64 c]) ∧ RowsW w.heap.size w' v t ∧ Ext w w'
theorem retN_bad {c d : Int} {t : List (List Int)} {w w' : World} (ht : t = []) (e : d = c) (hx : Ext w w') : RetN c t w (.returned (.tuple #[.slice none 0 0, .int .i64 d])) w' := ⟨_, by rw [e], by rw [ht]; exact RowsW.nil _ _, hx⟩
theorem rows_two {w : World} {x y : Value} {p q : List Int} {g : Nat} (hg : g = w.heap.size) (e : TypeId) (hx : Ints w x p) (hy : Ints w y q) : Rows (w.alloc (.cells #[x, y] e)) (.slice (some ⟨g, 0, none⟩) 2 2) [p, q] := by
  subst hg
  refine ⟨by simp, w.heap.size, 0, 2, rfl, fun i hi => ?_⟩
  match i, hi with
  | 0, _ => exact ⟨x, by rw [Nat.zero_add]; simp [go_sem], by rw [row_eq]; exact hx.ext ((Ext.refl w).alloc _)⟩
  | 1, _ => exact ⟨y, by rw [Nat.zero_add]; simp [go_sem], by rw [row_eq]; exact hy.ext ((Ext.refl w).alloc _)⟩
theorem rows_one {w : World} {x : Value} {p : List Int} {g : Nat} (hg : g = w.heap.size) (e : TypeId) (hx : Ints w x p) : Rows (w.alloc (.cells #[x] e)) (.slice (some ⟨g, 0, none⟩) 1 1) [p] := by
  subst hg
  refine ⟨by simp, w.heap.size, 0, 1, rfl, fun i hi => ?_⟩
  match i, hi with
  | 0, _ => exact ⟨x, by rw [Nat.zero_add]; simp [go_sem], by rw [row_eq]; exact hx.ext ((Ext.refl w).alloc _)⟩

set_option maxRecDepth 100000 in
set_option maxHeartbeats 4000000 in
theorem restsOf_any (L S : List (List Int)) (p q : List Int) (v y u z : Value) (w : World) (hv : Rows w v L) (hy : Rows w y S) (hu : Ints w u p) (hz : Ints w z q) :
    Calls Tryz.prog 26 #[.agg #[v, y], u, z] w (RetN (dvC L S p q) (rsV L S p q) w) := by
  obtain ⟨-, b, o, c, rfl, -⟩ := id hv
  obtain ⟨-, b2, o2, c2, rfl, -⟩ := id hy
  obtain ⟨-, b3, o3, c3, rfl, -⟩ := id hu
  obtain ⟨-, b4, o4, c4, rfl, -⟩ := id hz
  have hx0 : Ext w (w.alloc (.cells #[.slice (some ⟨b, o, none⟩) L.length c, .slice (some ⟨b2, o2, none⟩) S.length c2] 26)) := (Ext.refl _).alloc _
  have k0 := cell_new2a w (.slice (some ⟨b, o, none⟩) L.length c) (.slice (some ⟨b2, o2, none⟩) S.length c2) 26
  have k1 := cell_new2b w (.slice (some ⟨b, o, none⟩) L.length c) (.slice (some ⟨b2, o2, none⟩) S.length c2) 26
  have HV := Lib.hid (hv.ext hx0)
  have HY := Lib.hid (hy.ext hx0)
  have HU := Lib.hid (hu.ext hx0)
  have HZ := Lib.hid (hz.ext hx0)
  clear hv hy hu hz
  go_enter Tryz.func26, Tryz.ntmps26
  go_wp2_with fail
  have hz1 : w.heap.size + 1 = (w.alloc (.cells #[.slice (some ⟨b, o, none⟩) L.length c, .slice (some ⟨b2, o2, none⟩) S.length c2] 26)).heap.size := by simp
  generalize (w.alloc (.cells #[.slice (some ⟨b, o, none⟩) L.length c, .slice (some ⟨b2, o2, none⟩) S.length c2] 26)) = w1 at *
  have hxa : Ext w1 (w1.alloc (.cells #[.slice (some ⟨b3, o3, none⟩) p.length c3, .slice (some ⟨b4, o4, none⟩) q.length c4] 27)) := (Ext.refl _).alloc _
  refine (checkWords_any L S [p, q] _ _ _ _ (HV.out.ext hxa) (HY.out.ext hxa) (rows_two hz1 27 HU.out HZ.out)).mono ?_
  rintro e w2 ⟨rfl, hx⟩
  rw [codeA_two]
  replace hx := hxa.trans hx
  replace k0 := hx.cell k0
  replace k1 := hx.cell k1
  have HV := Lib.hid (HV.out.ext hx)
  have HY := Lib.hid (HY.out.ext hx)
  have HU := Lib.hid (HU.out.ext hx)
  have HZ := Lib.hid (HZ.out.ext hx)
  have HX := Lib.hid (hx0.trans hx)
  clear hx hxa hx0 hz1
  by_cases hc : codeW L S p q = 0
  case neg =>
    have HQ := Lib.hid (dvC_bad hc)
    have HR := Lib.hid (rsV_no (show dvC L S p q ≠ 0 by rw [HQ.out]; exact hc))
    go_wp2_with fail
    go_ret2
    exact retN_bad HR.out HQ.out.symm HX.out
  case pos =>
    obtain ⟨hO, ⟨hp, hp8⟩, hq, hq8⟩ := codeW_zero hc
    have HC := Lib.hid hc
    have HO := Lib.hid hO
    have HWP := Lib.hid hp
    have HWQ := Lib.hid hq
    rw [hc]
    clear hc hO hp hq
    go_wp2_with fail
    refine (limitedClass_any L S p _ _ _ _ HV.out HY.out HU.out HO.out HWP.out hp8).mono ?_
    rintro e w3 ⟨v3, rfl, -, h32, hx3⟩
    replace k0 := hx3.cell k0
    replace k1 := hx3.cell k1
    have HX := Lib.hid (HX.out.trans hx3)
    by_cases hl1 : limC L S p = 0
    case neg =>
      have HQ := Lib.hid (show dvC L S p q = limC L S p from by
        by_cases k : (clS L S p).length ≤ 1000
        · exact absurd (limC_ok k) hl1
        · rw [limC_many (by omega)]; exact dvC_many HC.out (fun h => k h.1))
      have HR := Lib.hid (rsV_no (show dvC L S p q ≠ 0 by rw [HQ.out]; exact hl1))
      clear h32
      go_wp2
      go_ret2
      exact retN_bad HR.out HQ.out.symm HX.out
    case pos =>
      have hle1 := limC_zero hl1
      rw [hl1]
      clear hl1 h32
      go_wp2_with fail
      refine (limitedClass_any L S q _ _ _ _ (HV.out.ext hx3) (HY.out.ext hx3) (HZ.out.ext hx3) HO.out HWQ.out hq8).mono ?_
      rintro e w4 ⟨v4, rfl, h41, h42, hx4⟩
      have HX := Lib.hid (HX.out.trans hx4)
      by_cases hl2 : limC L S q = 0
      case neg =>
        have HQ := Lib.hid (show dvC L S p q = limC L S q from by
          by_cases k : (clS L S q).length ≤ 1000
          · exact absurd (limC_ok k) hl2
          · rw [limC_many (by omega)]; exact dvC_many HC.out (fun h => k h.2))
        have HR := Lib.hid (rsV_no (show dvC L S p q ≠ 0 by rw [HQ.out]; exact hl2))
        clear h42 h41
        go_wp2
        go_ret2
        exact retN_bad HR.out HQ.out.symm HX.out
      case pos =>
        have hle2 := limC_zero hl2
        have HDC := Lib.hid (dvC_ok HC.out hle1 hle2)
        have hr := h41 hl2
        obtain ⟨-, g4, cg4, rfl, -⟩ := id hr
        have HR4 := Lib.hid hr
        have HU := Lib.hid ((HU.out.ext hx3).ext hx4)
        rw [hl2]
        clear hl2 h41 h42 hr hx4 hx3 k0 k1 hle1
        go_wp2_with fail
        go_loopw [13, 44] (fun vr vi wr => ∃ (i : Nat) (xs : List Value), i ≤ (clS L S q).length ∧ vi = .int .i64 i ∧ ListK 27 w4.heap.size (fun _ => False) wr vr xs (rstS p ((clS L S q).take i)) ∧ Ext w4 wr) (fun _ x _ => (clS L S q).length - (intOf x).toNat)
        case atStart => exact ⟨0, [], Nat.zero_le _, rfl, by rw [List.take_zero, rstS_nil]; exact ListK.nil _ _ _ _, Ext.refl _⟩
        case round =>
          obtain ⟨i, xs, hi, rfl, hL, hx⟩ := hrel
          have HL := Lib.hid hL
          have HXW := Lib.hid hx
          have hlen := rstS_len p ((clS L S q).take i)
          rw [List.length_take] at hlen
          clear hx
          by_cases hil : i < (clS L S q).length
          case neg =>
            have hki : ¬ (i : Int) < ((clS L S q).length : Int) := by omega
            rw [List.take_of_length_le (by omega), rstS_all] at hL
            have HN := Lib.hid ((hL.rowsW (by rw [← rstS_all]; have := rstS_len p (clS L S q); omega)).low (lo' := w.heap.size) (Below.size HX.out))
            have HRV := Lib.hid (rsV_ok HDC.out)
            clear hL hlen
            go_wp2
            go_ret2
            exact ⟨_, by rw [HDC.out]; rfl, by rw [HRV.out]; exact HN.out, HX.out.trans HXW.out⟩
          case pos =>
            have hki : (i : Int) < ((clS L S q).length : Int) := by omega
            clear hL
            obtain ⟨b5, d5, r5, q5, -, -, i5, m5⟩ := (HR4.out.ext HXW.out).get hil
            obtain ⟨hxw, hxl⟩ := clS_word HO.out HWQ.out (clS_row HO.out HWQ.out hil)
            have HTK := Lib.hid (show (clS L S q).take (i + 1) = (clS L S q).take i ++ [row (clS L S q) i] from take_row _ i hil)
            obtain ⟨x, hxe⟩ : ∃ x, x = row (clS L S q) i := ⟨_, rfl⟩
            rw [← hxe] at r5 q5 i5 m5 hxw hxl HTK
            have HXL := Lib.hid hxl
            have I5 := Lib.hid i5
            clear hxe hxw hxl
            by_cases hpx : p.length ≤ x.length
            case neg =>
              have hpxi : ¬ (p.length : Int) ≤ (x.length : Int) := by omega
              have HNO := Lib.hid (rstS_no (l := (clS L S q).take i) (show x.take p.length ≠ p from fun e => by
                have := congrArg List.length e
                rw [List.length_take] at this
                omega))
              clear i5
              go_wp2
              go_roundw
              case rel => exact ⟨i + 1, xs, by omega, by go_num, by rw [HTK.out, HNO.out]; exact HL.out, HXW.out⟩
              case measure => simp [intOf]; omega
            case pos =>
              have hpxi : (p.length : Int) ≤ (x.length : Int) := by omega
              have hpd : p.length ≤ d5 := by omega
              have hpdi : (p.length : Int) ≤ (d5 : Int) := by omega
              have HF := Lib.hid (intsW_take (c := d5) i5 m5 hpx)
              have HD := Lib.hid (intsW_drop (c := d5 - p.length) i5 m5 hpx)
              clear i5
              go_wp2_with fail
              refine (slicesEqual_any (x.take p.length) p _ _ _ HF.out (HU.out.ext HXW.out)).mono ?_
              rintro e w5 ⟨rfl, hx5⟩
              have HL := Lib.hid (HL.out.ext hx5)
              have HXW := Lib.hid (HXW.out.trans hx5)
              have HD := Lib.hid (HD.out.ext hx5)
              clear hx5 r5
              cases heq : eqIB (x.take p.length) p with
              | false =>
                have HNO := Lib.hid (rstS_no (l := (clS L S q).take i) (show x.take p.length ≠ p from fun e => by rw [eqIB_yes e] at heq; cases heq))
                clear heq
                go_wp2
                go_roundw
                case rel => exact ⟨i + 1, xs, by omega, by go_num, by rw [HTK.out, HNO.out]; exact HL.out, HXW.out⟩
                case measure => simp [intOf]; omega
              | true =>
                have HYE := Lib.hid (rstS_yes (l := (clS L S q).take i) (eqIB_iff.1 heq))
                have hnil : d5 = p.length → x.drop p.length = [] := fun e => List.drop_eq_nil_of_le (by omega)
                clear heq
                have hcl : ∃ xv, (if d5 = p.length then (.slice (some ⟨b5, 0, none⟩) (x.length - p.length) 0 : Value) else .slice (some ⟨b5, 0 + p.length, none⟩) (x.length - p.length) (d5 - p.length)) = xv ∧ Ints w5 xv (x.drop p.length) := by
                  by_cases hd : d5 = p.length
                  · exact ⟨_, by rw [if_pos hd], by rw [hnil hd]; exact ⟨by simp, b5, 0, 0, by rw [show x.length - p.length = 0 by omega]; rfl, fun i hi => by simp at hi⟩⟩
                  · exact ⟨_, by rw [if_neg hd], HD.out⟩
                obtain ⟨xv, hxv, hxi⟩ := hcl
                have HXI := Lib.hid hxi
                clear hnil hxi HD
                by_cases hd : d5 = p.length
                · rw [if_pos hd] at hxv
                  subst hxv
                  have HXP := Lib.hid (show x.length = p.length by omega)
                  subst hd
                  clear q5
                  go_wp2_with fail
                  refine (slicesClone_k (x.drop p.length) _ _ HXI.out).mono ?_
                  rintro e w6 ⟨x6, rfl, hr6, hx6⟩
                  obtain ⟨-, b6, c6, rfl, -⟩ := id hr6
                  rw [List.length_drop] at hr6
                  have zx : w4.heap.size ≤ w5.heap.size := Below.size HXW.out
                  have hone := hr6.cell
                  have hxb := hx6.trans (ext_box w6 (.slice (some ⟨b6, 0, none⟩) (x.length - p.length) c6) 27)
                  have HR6 := Lib.hid ((hr6.mono (lo' := w4.heap.size) (D' := fun b => u13.ownBlock = some b ∨ False) zx (fun b h1 h2 q => q.elim (fun e => absurd (HL.out.lt b e).2 (by omega)) id)).ext (ext_box w6 (.slice (some ⟨b6, 0, none⟩) (x.length - p.length) c6) 27))
                  have HL6 := Lib.hid (HL.out.ext hxb)
                  have HX6 := Lib.hid (HXW.out.trans hxb)
                  have hzb : w4.heap.size ≤ (w6.alloc (.cells #[.slice (some ⟨b6, 0, none⟩) (x.length - p.length) c6] 27)).heap.size := Below.size HX6.out
                  clear hr6 hx6 hxb HL HXW
                  go_wp2_with (at_builtin; refine wpList_append_one rfl _ _ 24 27 rfl Tryz.underlying24 infoSl w4.heap.size _ _ xs rfl HL6.out.own _ _ hone rfl (cell_new _ _ _) (by omega) hzb ?_)
                  intro v' w8 hown8 hgr8 hv8 hbl8
                  have hm8 := HL6.out.app HR6.out hown8 hgr8 (by
                    rcases hbl8 with e | e
                    · exact .inl e
                    · exact .inr (by rw [show (w6.alloc (.cells #[.slice (some ⟨b6, 0, none⟩) (x.length - p.length) c6] 27)).heap.size = w6.heap.size + 1 by simp]; exact e))
                  have hX8 : Ext w4 w8 := Ext.grown HX6.out hgr8 HL6.out.own (Nat.le_refl _)
                  have HM8 := Lib.hid hm8
                  clear hown8 hgr8 hv8 hbl8 hm8
                  go_wp2
                  go_roundw
                  case rel => exact ⟨i + 1, _, by omega, by go_num, by rw [HTK.out, HYE.out]; exact HM8.out, hX8⟩
                  case measure => simp [intOf]; omega
                · rw [if_neg hd] at hxv
                  subst hxv
                  go_wp2_with fail
                  refine (slicesClone_k (x.drop p.length) _ _ (by first | exact HXI.out | (have := HXI.out; simpa using this))).mono ?_
                  rintro e w6 ⟨x6, rfl, hr6, hx6⟩
                  obtain ⟨-, b6, c6, rfl, -⟩ := id hr6
                  rw [List.length_drop] at hr6
                  have zx : w4.heap.size ≤ w5.heap.size := Below.size HXW.out
                  have hone := hr6.cell
                  have hxb := hx6.trans (ext_box w6 (.slice (some ⟨b6, 0, none⟩) (x.length - p.length) c6) 27)
                  have HR6 := Lib.hid ((hr6.mono (lo' := w4.heap.size) (D' := fun b => u13.ownBlock = some b ∨ False) zx (fun b h1 h2 q => q.elim (fun e => absurd (HL.out.lt b e).2 (by omega)) id)).ext (ext_box w6 (.slice (some ⟨b6, 0, none⟩) (x.length - p.length) c6) 27))
                  have HL6 := Lib.hid (HL.out.ext hxb)
                  have HX6 := Lib.hid (HXW.out.trans hxb)
                  have hzb : w4.heap.size ≤ (w6.alloc (.cells #[.slice (some ⟨b6, 0, none⟩) (x.length - p.length) c6] 27)).heap.size := Below.size HX6.out
                  clear hr6 hx6 hxb HL HXW
                  go_wp2_with (at_builtin; refine wpList_append_one rfl _ _ 24 27 rfl Tryz.underlying24 infoSl w4.heap.size _ _ xs rfl HL6.out.own _ _ hone rfl (cell_new _ _ _) (by omega) hzb ?_)
                  intro v' w8 hown8 hgr8 hv8 hbl8
                  have hm8 := HL6.out.app HR6.out hown8 hgr8 (by
                    rcases hbl8 with e | e
                    · exact .inl e
                    · exact .inr (by rw [show (w6.alloc (.cells #[.slice (some ⟨b6, 0, none⟩) (x.length - p.length) c6] 27)).heap.size = w6.heap.size + 1 by simp]; exact e))
                  have hX8 : Ext w4 w8 := Ext.grown HX6.out hgr8 HL6.out.own (Nat.le_refl _)
                  have HM8 := Lib.hid hm8
                  clear hown8 hgr8 hv8 hbl8 hm8
                  go_wp2
                  go_roundw
                  case rel => exact ⟨i + 1, _, by omega, by go_num, by rw [HTK.out, HYE.out]; exact HM8.out, hX8⟩
                  case measure => simp [intOf]; omega
end Go.Proofs.YtjfjpngajboidaaGreat


namespace Go.Proofs.YtjfjpngajboidaaGreat
set_option linter.unusedVariables false
set_option linter.unusedSimpArgs false
open Go.RowKit
attribute [local go_sem ↓] Go.wp_at_zero Go.wp_at_succ
open Go.Deep

theorem in_cls {L S : List (List Int)} (hS : SolOk L S) {k m i : Nat} (hi : i < L.length ^ k) : tupL L.length k i ∈ clS L S (tupL L.length k m) ↔ ∃ t, t < (clS L S (tupL L.length k m)).length ∧ wnL L.length (row (clS L S (tupL L.length k m)) t) = i := by
  have h1 := hS.l.1
  have ok := tupL_ok (n := L.length) h1 k m
  constructor
  · intro h
    obtain ⟨t, ht, e⟩ := List.getElem_of_mem h
    refine ⟨t, ht, ?_⟩
    rw [row_eq, List.getD_eq_getElem?_getD, List.getElem?_eq_getElem ht]
    show wnL L.length (clS L S (tupL L.length k m))[t] = i
    rw [e, num_tup h1 hi]
  · rintro ⟨t, ht, e⟩
    have hm := clS_row hS ok ht
    obtain ⟨w1, w2⟩ := clS_word hS ok hm
    rw [length_tupL] at w2
    have := tup_num w1 w2
    rw [e] at this
    rw [this]
    exact hm
def RetNm (L S : List (List Int)) (k N : Nat) (w : World) (e : Ending) (w' : World) : Prop := ∃ v, e = .returned v ∧ RowsW w.heap.size w' v (nmT L S k N) ∧ Ext w w'
theorem touch_set1 {g i : Nat} {a w : World} (h : Touch g (g + 1) a w) (v : Value) : Touch g (g + 1) a (w.setCell ⟨g, i, none⟩ v) := h.trans (Touch.of_marked ((Marked.refl _ _ _).setCell (p := ⟨g, i, none⟩) (Nat.le_refl _) (Nat.lt_succ_self _) v))

set_option maxRecDepth 100000 in
set_option maxHeartbeats 8000000 in
theorem normalWords_any (L S : List (List Int)) (k N : Nat) (v y : Value) (w : World) (hv : Rows w v L) (hy : Rows w y S) (hO : SolOk L S) (h5 : L.length ≤ 5) (hk : k ≤ 5) (hN : L.length ^ k = N) (hN5 : N ≤ 3125) :
    Calls Tryz.prog 49 #[.agg #[v, y], .int .i64 k, .int .i64 N] w (RetNm L S k N w) := by
  obtain ⟨-, b, o, c, rfl, -⟩ := id hv
  obtain ⟨-, b2, o2, c2, rfl, -⟩ := id hy
  have hmk := run_make_row' (P := Tryz.prog) 77 4 (.bool false) 1 Tryz.underlying77 infoBool rfl .i64 .i64 N (by omega) (by omega)
  have hx0 : Ext w (w.alloc (.cells #[.slice (some ⟨b, o, none⟩) L.length c, .slice (some ⟨b2, o2, none⟩) S.length c2] 26)) := (Ext.refl _).alloc _
  have k0 := cell_new2a w (.slice (some ⟨b, o, none⟩) L.length c) (.slice (some ⟨b2, o2, none⟩) S.length c2) 26
  have k1 := cell_new2b w (.slice (some ⟨b, o, none⟩) L.length c) (.slice (some ⟨b2, o2, none⟩) S.length c2) 26
  have HV := Lib.hid (hv.ext hx0)
  have HY := Lib.hid (hy.ext hx0)
  have HO := Lib.hid hO
  have HNE := Lib.hid hN
  have HX0 := Lib.hid hx0
  have h1 := hO.l.1
  have hz1 : (w.alloc (.cells #[.slice (some ⟨b, o, none⟩) L.length c, .slice (some ⟨b2, o2, none⟩) S.length c2] 26)).heap.size ≤ w.heap.size + 1 := by simp
  have hz2 : w.heap.size + 1 ≤ (w.alloc (.cells #[.slice (some ⟨b, o, none⟩) L.length c, .slice (some ⟨b2, o2, none⟩) S.length c2] 26)).heap.size := by simp
  have hr0 := World.rowIs_made (w.alloc (.cells #[.slice (some ⟨b, o, none⟩) L.length c, .slice (some ⟨b2, o2, none⟩) S.length c2] 26)) (.bool false) N 4
  rw [World.size_alloc] at hr0
  have hx1 : Ext (w.alloc (.cells #[.slice (some ⟨b, o, none⟩) L.length c, .slice (some ⟨b2, o2, none⟩) S.length c2] 26)) ((w.alloc (.cells #[.slice (some ⟨b, o, none⟩) L.length c, .slice (some ⟨b2, o2, none⟩) S.length c2] 26)).alloc (.cells (madeCells #[Value.bool false] N) 4)) := (Ext.refl _).alloc _
  clear hv hy hx0 hO hN
  go_enter Tryz.func49, Tryz.ntmps49
  go_wp2_with fail
  clear hmk
  generalize ((w.alloc (.cells #[.slice (some ⟨b, o, none⟩) L.length c, .slice (some ⟨b2, o2, none⟩) S.length c2] 26)).alloc (.cells (madeCells #[Value.bool false] N) 4)) = w2 at *
  generalize (w.alloc (.cells #[.slice (some ⟨b, o, none⟩) L.length c, .slice (some ⟨b2, o2, none⟩) S.length c2] 26)) = w1 at *
  have HD0 := Lib.hid (show NrmD 27 (w.heap.size + 1) (w.heap.size + 1) 4 N w1 w2 (.slice none 0 0) [] (fun _ => false) [] from ⟨hr0, ListK.nil _ _ _ _, by simp [Value.ownBlock], hx1, hz1, hz1, by have := hx1.size; omega⟩)
  clear hr0 hx1 hz1
  go_loopw [9, 23] (fun vw vi wr => ∃ (m : Nat) (xs : List Value) (sB : Nat → Bool), m ≤ N ∧ vi = .int .i64 m ∧ (∀ i, i < N → (sB i = true ↔ SeenTo L S k m i)) ∧ NrmD 27 (w.heap.size + 1) (w.heap.size + 1) 4 N w1 wr vw xs sB (nmT L S k m)) (fun _ vi _ => N - (intOf vi).toNat)
  case atStart => exact ⟨0, [], fun _ => false, Nat.zero_le _, rfl, fun i _ => ⟨(fun h => by cases h), fun h => absurd h (seen_zero _ _)⟩, by rw [nmT_zero]; exact HD0.out⟩
  case round =>
    clear HD0
    obtain ⟨m, xs, sB, hm, rfl, hs, hd⟩ := hrel
    obtain ⟨a1, c1, rfl⟩ := hd.shape
    have HS := Lib.hid hs
    have HD := Lib.hid hd
    clear hs hd
    by_cases hml : m < N
    case neg =>
      have hme : m = N := by omega
      have hmi : ¬ (m : Int) < (N : Int) := by omega
      have hmi' := hmi
      have HR := Lib.hid (show RowsW w.heap.size wr (.slice a1 (nmT L S k m).length c1) (nmT L S k N) from by
        rw [← hme]
        exact ⟨⟨_, _, rfl⟩, fun hp => (HD.out.rows hp (by have := nmT_few (L := L) (S := S) k m; omega)).low (by omega)⟩)
      clear hme hml hmi
      have hmi : ¬ (m : Int) < (N : Int) := hmi'
      go_wp2
      go_ret
      exact ⟨_, rfl, HR.out, HX0.out.trans HD.out.x⟩
    case pos =>
      have hmi : (m : Int) < (N : Int) := by omega
      have hsc := HD.out.seen.cell hml
      cases hsm : sB m with
      | true =>
        rw [hsm] at hsc
        have hsn := (HS.out m hml).1 hsm
        have HSK := Lib.hid (fun i => seen_skip (i := i) HO.out hsn)
        have HNO := Lib.hid (nmT_out (L := L) (S := S) (k := k) (m := m) ((seen_iff HO.out (by rw [HNE.out]; exact hml)).1 hsn))
        clear hsm hsn
        go_wp2_with fail
        go_roundw
        case rel => exact ⟨m + 1, xs, sB, by omega, by go_num, fun i hi => by rw [HSK.out i]; exact HS.out i hi, by rw [HNO.out]; exact HD.out⟩
        case measure => simp [intOf]; omega
      | false =>
        rw [hsm] at hsc
        have hsn : ¬ SeenTo L S k m m := fun q => by have := (HS.out m hml).2 q; rw [hsm] at this; cases this
        have HNI := Lib.hid (nmT_in (L := L) (S := S) (k := k) (m := m) (Classical.byContradiction fun q => hsn ((seen_iff HO.out (by rw [HNE.out]; exact hml)).2 q)))
        have HOK := Lib.hid (tupL_ok (n := L.length) h1 k m)
        have HFW := Lib.hid (clS_few HO.out HOK.out)
        clear hsm hsn
        go_wp2_with fail
        refine (tupleOf_any L.length k m _ h1 (by omega) (by omega) (by omega)).mono ?_
        rintro e w3 ⟨bt, rfl, hrk, hx3⟩
        have HD3 := Lib.hid (HD.out.ext hx3)
        have hbt : bt ≠ w.heap.size + 1 := by
          obtain ⟨-, b', c', e', -, h6, -⟩ := id hrk
          simp only [Value.slice.injEq, Option.some.injEq, Addr.mk.injEq, and_true] at e'
          have := HD.out.seen.lt
          omega
        have hbt2 : (Value.slice a1 (nmT L S k m).length c1).ownBlock ≠ some bt := fun e => by
          have := (HD.out.li.lt bt e).2
          obtain ⟨-, b', c', e', -, h6, -⟩ := id hrk
          simp only [Value.slice.injEq, Option.some.injEq, Addr.mk.injEq, and_true] at e'
          omega
        have HXB := Lib.hid (ext_box w3 (.slice (some ⟨bt, 0, none⟩) k k) 27)
        have HRK := Lib.hid (show RK (w.heap.size + 1) (fun b => (Value.slice a1 (nmT L S k m).length c1).ownBlock = some b ∨ b = w.heap.size + 1) (w3.alloc (.cells #[.slice (some ⟨bt, 0, none⟩) k k] 27)) (.slice (some ⟨bt, 0, none⟩) k k) (tupL L.length k m) from by
          obtain ⟨h2, b', c', e', h3, h4, h6, -, h7⟩ := id hrk
          simp only [Value.slice.injEq, Option.some.injEq, Addr.mk.injEq, and_true] at e'
          obtain ⟨rfl, e2, rfl⟩ := e'
          have hlo := HD.out.l2
          refine ⟨h2, bt, k, by rw [length_tupL], by rw [length_tupL]; exact Nat.le_refl _, by omega, by simp; omega, ?_, h7.ext (ext_box _ _ _)⟩
          rintro (q | q)
          · exact hbt2 q
          · exact hbt q)
        have HIT := Lib.hid hrk.ints
        have HOWN := Lib.hid (ownsRow_ext HD3.out.li.own HXB.out)
        have hzb : w.heap.size + 1 ≤ (w3.alloc (.cells #[.slice (some ⟨bt, 0, none⟩) k k] 27)).heap.size := by have := HD3.out.l2; simp; omega
        have hnf := nmT_few (L := L) (S := S) k m
        clear hrk hx3 hbt hbt2 HD
        go_wp2_with (at_builtin; refine wpList_append_one rfl _ _ 24 27 rfl Tryz.underlying24 infoSl (w.heap.size + 1) _ _ xs rfl HOWN.out _ _ (show Value.oneCell' (.slice _ _ _) = true from rfl) rfl (cell_new _ _ _) (by omega) hzb ?_)
        intro v' w4 hown4 hgr4 hv4 hbl4
        have HD4 := Lib.hid (show NrmD 27 (w.heap.size + 1) (w.heap.size + 1) 4 N w1 w4 v' _ sB (nmT L S k (m + 1)) from by
          rw [HNI.out]
          exact (HD3.out.ext HXB.out).app HRK.out hown4 hgr4 (hbl4.imp id (fun e => e.trans (by simp))))
        have HI4 := Lib.hid (HRK.out.grownOpt (ob' := v'.ownBlock) hgr4 (hbl4.imp id (fun e => e.trans (by simp)))).ints
        have HX4 := Lib.hid HD4.out.x
        have k4 := HX4.out.cell k0
        have k5 := HX4.out.cell k1
        obtain ⟨a4, c4, rfl⟩ : ∃ a c, v' = .slice a (nmT L S k (m + 1)).length c := HD4.out.shape
        clear hown4 hgr4 hv4 hbl4 HRK HOWN HXB HD3 HIT hzb
        go_wp2_with fail
        refine (wordClass_any L S (tupL L.length k m) 5000 _ _ _ _ (HV.out.ext HX4.out) (HY.out.ext HX4.out) HI4.out HO.out HOK.out (by rw [length_tupL]; omega) (by omega) (by omega)).mono ?_
        rintro e w5 ⟨hcl, hx5⟩
        have hfw := HFW.out
        rw [length_tupL, HNE.out] at hfw
        rcases hcl with ⟨-, vc, rfl, hkc⟩ | ⟨hbig, -⟩
        case inr => omega
        obtain ⟨-, gc, cc, rfl, -, hgc, -⟩ := id hkc
        have HK := Lib.hid hkc
        have HD5 := Lib.hid (HD4.out.ext hx5)
        have hg5 := HD4.out.seen.lt
        have HCW := Lib.hid (fun t (ht : t < (clS L S (tupL L.length k m)).length) => clS_word HO.out HOK.out (clS_row HO.out HOK.out ht))
        have HIC := Lib.hid (fun i (hi : i < N) => in_cls (L := L) (S := S) (k := k) (m := m) (i := i) HO.out (by rw [HNE.out]; exact hi))
        obtain ⟨cls, hcls⟩ : ∃ q, q = clS L S (tupL L.length k m) := ⟨_, rfl⟩
        rw [← hcls] at HK HCW HIC hfw ⊢
        have HCL := Lib.hid hcls
        clear hcls hkc hx5 HD4 HI4 HX4 k4 k5
        go_wp2_with fail
        go_loopw [46] (fun vi wr => ∃ (t : Nat) (sB : Nat → Bool), t ≤ cls.length ∧ vi = .int .i64 t ∧ (∀ i, i < N → (sB i = true ↔ SeenTo L S k m i ∨ ∃ a, a < t ∧ wnL L.length (row cls a) = i)) ∧ NrmD 27 (w.heap.size + 1) (w.heap.size + 1) 4 N w1 wr (.slice a4 (nmT L S k (m + 1)).length c4) (xs ++ [.slice (some ⟨bt, 0, none⟩) k k]) sB (nmT L S k (m + 1)) ∧ Touch (w.heap.size + 1) (w.heap.size + 1 + 1) w5 wr) (fun vi _ => cls.length - (intOf vi).toNat)
        case atStart => exact ⟨0, sB, Nat.zero_le _, rfl, fun i hi => ⟨fun q => .inl ((HS.out i hi).1 q), fun q => (HS.out i hi).2 (q.elim id (fun ⟨a, ha, _⟩ => absurd ha (Nat.not_lt_zero _)))⟩, HD5.out, Touch.of_ext (Ext.refl _)⟩
        case round =>
          clear HS HD5
          obtain ⟨t, sB, ht, rfl, hs, hd, hT⟩ := hrel
          have HS := Lib.hid hs
          have HD := Lib.hid hd
          have HT := Lib.hid hT
          clear hs hd hT
          by_cases htl : t < cls.length
          case neg =>
            have hte : t = cls.length := by omega
            have hti : ¬ (t : Int) < (cls.length : Int) := by omega
            have HS2 := Lib.hid (show ∀ i, i < N → (sB i = true ↔ SeenTo L S k (m + 1) i) from fun i hi => by
              rw [HS.out i hi, seen_succ, ← HCL.out, HIC.out i hi, hte])
            clear hte htl
            go_wp2
            go_roundw
            case rel => exact ⟨m + 1, _, sB, by omega, by go_num, HS2.out, HD.out⟩
            case measure => simp [intOf]; omega
          case pos =>
            have hti : (t : Int) < (cls.length : Int) := by omega
            obtain ⟨br, dr, r1, -, hbr, -, i1, n1⟩ := HK.out.get htl
            have hg6 : w.heap.size + 1 < gc := by omega
            have r2 := HT.out.cell r1 (by simp only []; omega)
            have HI := Lib.hid ((show IntsAt wr br 0 (row cls t) from fun j hj => HT.out.cell (i1 j hj) (by simp only []; omega)).ints n1 dr)
            obtain ⟨w6, w7⟩ := HCW.out t htl
            rw [length_tupL] at w7
            have HW6 := Lib.hid w6
            have HLN := Lib.hid (show L.length ^ (row cls t).length ≤ 100000 by rw [w7, HNE.out]; omega)
            have hnl : wnL L.length (row cls t) < N := by have := num_lt w6 w7; rwa [HNE.out] at this
            clear r1 i1 w6 w7
            go_wp2_with fail
            refine (numberOf_any L.length (row cls t) _ _ HI.out h1 (by omega) HW6.out HLN.out).mono ?_
            rintro e w8 ⟨rfl, rfl⟩
            obtain ⟨z, hz⟩ : ∃ z, z = wnL L.length (row cls t) := ⟨_, rfl⟩
            rw [← hz] at hnl ⊢
            have hzi : (z : Int) < (N : Int) := by omega
            have c1 := HD.out.seen.cell hnl
            have c2 := HD.out.seen.frozen z
            have HS3 := Lib.hid (show ∀ i, i < N → ((fun j => if j = z then true else sB j) i = true ↔ SeenTo L S k m i ∨ ∃ a, a < t + 1 ∧ wnL L.length (row cls a) = i) from fun i hi => by
              by_cases e : i = z
              · simp only [if_pos e, true_iff]
                exact .inr ⟨t, by omega, by rw [← hz, e]⟩
              · simp only [if_neg e]
                rw [HS.out i hi]
                constructor
                · rintro (q | ⟨a, ha, q⟩)
                  · exact .inl q
                  · exact .inr ⟨a, by omega, q⟩
                · rintro (q | ⟨a, ha, q⟩)
                  · exact .inl q
                  · rcases Nat.lt_succ_iff_lt_or_eq.1 ha with g | g
                    · exact .inr ⟨a, g, q⟩
                    · exact absurd (by rw [← q, g, hz]) e)
            have HD3 := Lib.hid (HD.out.mark z)
            have HT3 := Lib.hid (touch_set1 (i := z) HT.out (.bool true))
            clear hz HI HW6 HLN
            go_wp2_with fail
            go_roundw
            case rel => exact ⟨t + 1, _, by omega, by go_num, HS3.out, HD3.out, HT3.out⟩
            case measure => simp [intOf]; omega
end Go.Proofs.YtjfjpngajboidaaGreat


namespace Go.Proofs.YtjfjpngajboidaaGreat
set_option linter.unusedVariables false
set_option linter.unusedSimpArgs false

def AllB (L S : List (List Int)) (w : List Int) : Prop := ∀ x, x < L.length → ∃ v, v ∈ clS L S w ∧ ix v 0 = (x : Int)
@[irreducible] noncomputable def ndiB (L S : List (List Int)) : Bool := goodB L S && invB L.length (mulN L) (mulN S)
theorem ndiB_def (L S : List (List Int)) : ndiB L S = (goodB L S && invB L.length (mulN L) (mulN S)) := by unfold ndiB; rfl
theorem invS_of {L S : List (List Int)} (h : SolOk L S) (hn : ndiB L S = true) : InvS L.length (mulN L) (mulN S) := by
  rw [ndiB_def, Bool.and_eq_true, goodB_def, Bool.and_eq_true] at hn
  obtain ⟨⟨h1, -⟩, h2⟩ := hn
  refine ⟨fun x hx y hy => (h.ln hx hy).2, fun x hx y hy => (h.sn hx hy).2, fun x hx y hy z hz e => ?_, fun x hx y hy => invB_iff.1 h2 x hx y hy, fun x hx y hy z hz => (h.eq x hx y hy z hz).1⟩
  have hi : IsoOk L.length [] [] (row L x) := isoOk_plain.2 ⟨h.l.len hx, permRowsB_iff.1 h1 x hx⟩
  refine hi.inj hy hz ?_
  rw [ent_def, ent_def, (h.ln hx hy).1, (h.ln hx hz).1, e]
@[irreducible] noncomputable def gaF (L S : List (List Int)) : Option (List Int) := by
  classical exact (nmT L S L.length (L.length ^ L.length)).find? fun w => decide (AllB L S w)
theorem gaF_at {L S : List (List Int)} {i : Nat} (hi : i < (nmT L S L.length (L.length ^ L.length)).length) (h0 : ∀ a, a < i → ¬ AllB L S (row (nmT L S L.length (L.length ^ L.length)) a)) (h1 : AllB L S (row (nmT L S L.length (L.length ^ L.length)) i)) : gaF L S = some (row (nmT L S L.length (L.length ^ L.length)) i) := by
  classical
  unfold gaF
  rw [List.find?_eq_some_iff_getElem]
  have er : ∀ a (ha : a < (nmT L S L.length (L.length ^ L.length)).length), row (nmT L S L.length (L.length ^ L.length)) a = (nmT L S L.length (L.length ^ L.length))[a] := fun a ha => by rw [row_eq, List.getD_eq_getElem?_getD, List.getElem?_eq_getElem ha]; rfl
  refine ⟨by simpa using h1, i, hi, (er i hi).symm, fun j hj => ?_⟩
  have := h0 j hj
  rw [er j (by omega)] at this
  simpa using this
theorem gaF_none {L S : List (List Int)} (h0 : ∀ a, a < (nmT L S L.length (L.length ^ L.length)).length → ¬ AllB L S (row (nmT L S L.length (L.length ^ L.length)) a)) : gaF L S = none := by
  classical
  unfold gaF
  rw [List.find?_eq_none]
  intro x hx
  obtain ⟨i, hi, rfl⟩ := List.getElem_of_mem hx
  have := h0 i hi
  rw [row_eq, List.getD_eq_getElem?_getD, List.getElem?_eq_getElem hi] at this
  simpa using this
theorem gaF_some {L S : List (List Int)} {w : List Int} (h : gaF L S = some w) : w ∈ nmT L S L.length (L.length ^ L.length) ∧ AllB L S w := by
  classical
  unfold gaF at h
  exact ⟨List.mem_of_find?_eq_some h, by simpa using List.find?_some h⟩
@[irreducible] noncomputable def gaC (L S : List (List Int)) : Int := if solB L S then (if ndiB L S then (if L.length ≤ 5 then (if (gaF L S).isSome then 0 else 4) else 3) else 5) else 1
@[irreducible] noncomputable def gaV (L S : List (List Int)) : List Int := (gaF L S).getD []
theorem gaC_1 {L S : List (List Int)} (h : solB L S = false) : gaC L S = 1 := by unfold gaC; rw [h]; rfl
theorem gaC_5 {L S : List (List Int)} (h : solB L S = true) (k : ndiB L S = false) : gaC L S = 5 := by unfold gaC; rw [h, k]; rfl
theorem gaC_3 {L S : List (List Int)} (h : solB L S = true) (k : ndiB L S = true) (q : ¬ L.length ≤ 5) : gaC L S = 3 := by unfold gaC; rw [h, k, if_pos rfl, if_pos rfl, if_neg q]
theorem gaC_4 {L S : List (List Int)} (h : solB L S = true) (k : ndiB L S = true) (q : L.length ≤ 5) (g : gaF L S = none) : gaC L S = 4 := by unfold gaC; rw [h, k, if_pos rfl, if_pos rfl, if_pos q, g]; rfl
theorem gaC_0 {L S : List (List Int)} {w : List Int} (h : solB L S = true) (k : ndiB L S = true) (q : L.length ≤ 5) (g : gaF L S = some w) : gaC L S = 0 ∧ gaV L S = w := by
  refine ⟨by unfold gaC; rw [h, k, if_pos rfl, if_pos rfl, if_pos q, g]; rfl, by unfold gaV; rw [g]; rfl⟩
theorem gaC_zero {L S : List (List Int)} (h : gaC L S = 0) : SolOk L S ∧ ndiB L S = true ∧ L.length ≤ 5 ∧ gaF L S = some (gaV L S) := by
  cases h1 : solB L S with
  | false => rw [gaC_1 h1] at h; cases h
  | true =>
    cases h2 : ndiB L S with
    | false => rw [gaC_5 h1 h2] at h; cases h
    | true =>
      by_cases h3 : L.length ≤ 5
      · cases h4 : gaF L S with
        | none => rw [gaC_4 h1 h2 h3 h4] at h; cases h
        | some w => exact ⟨solB_iff.1 h1, rfl, h3, by rw [(gaC_0 h1 h2 h3 h4).2]⟩
      · rw [gaC_3 h1 h2 h3] at h; cases h
structure GarOk (L S : List (List Int)) (w : List Int) : Prop where
  len : w.length = L.length
  ok : WordOk L.length w
  sol : SolOk L S
  five : L.length ≤ 5
  few : (clS L S w).length ≤ 120
  all : AllB L S w
  divs : (dvT L S w (w.length + 1)).length = 2 ^ L.length
theorem gar_ok {L S : List (List Int)} (h : gaC L S = 0) : GarOk L S (gaV L S) := by
  obtain ⟨hS, hn, h5, hf⟩ := gaC_zero h
  obtain ⟨hm, ha⟩ := gaF_some hf
  obtain ⟨hw, hl⟩ := nmT_word hS.l.1 hm
  have hi := invS_of hS hn
  have hp := garside_perm (mvP hS) hi hw hl (by
    intro x hx
    obtain ⟨v, hv, e⟩ := ha x hx
    exact ⟨v, by rw [← clS_def]; exact hv, e⟩)
  have hfw := garside_few (mvP hS) hi h5 hw hp
  have hd := garside_divs (mvP hS) hi hw hl hp
  exact ⟨hl, hw, hS, h5, by rw [clS_def]; exact hfw, ha, by unfold dvT; rw [hl]; exact hd⟩
theorem GarOk.div {L S : List (List Int)} {w : List Int} (h : GarOk L S w) {x : Nat} (hx : x < L.length) : dvC L S [(x : Int)] w = 0 ∧ dvB L S [(x : Int)] w = true := by
  have h1 := h.sol.l.1
  have h5 := h.five
  have hxo : WordOk L.length [(x : Int)] := wordOk_mem.2 fun y hy => by rw [List.mem_singleton.1 hy]; omega
  have hcode : codeW L S [(x : Int)] w = 0 := codeW_ok (solB_iff.2 h.sol) (wordB_iff.2 ⟨hxo, by simp⟩) (wordB_iff.2 ⟨h.ok, by rw [h.len]; omega⟩)
  have hfew := clS_few h.sol hxo
  simp only [List.length_cons, List.length_nil, Nat.zero_add, Nat.pow_one] at hfew
  have hd := dvC_ok hcode (by omega) (by have := h.few; omega)
  refine ⟨hd, ?_⟩
  rw [dvB_ok hd]
  obtain ⟨v, hv, e⟩ := h.all x hx
  have hE := (mem_clS h.sol h.ok).1 hv
  have hlen := hE.len
  cases v with
  | nil => have := h.len; simp at hlen; omega
  | cons a s =>
    have ea : a = (x : Int) := by rw [ix_eq] at e; exact e
    subst ea
    have hm := (mem_rsS (L := L) (S := S) h.sol (u := [(x : Int)]) (v := s) h.ok).2 hE
    cases e2 : rsS L S [(x : Int)] w with
    | nil => rw [e2] at hm; cases hm
    | cons a r => rfl
theorem GarOk.code {L S : List (List Int)} {w : List Int} (h : GarOk L S w) : clsC L S w = 0 :=
  clsC_ok (codeW_ok (solB_iff.2 h.sol) (wordB_iff.2 ⟨h.ok, by rw [h.len]; have := h.five; omega⟩) (wordB_iff.2 ⟨h.ok, by rw [h.len]; have := h.five; omega⟩)) (by have := h.few; omega)

/-! ### common multiples -/
def wd2 (x y : Nat) : List Int := [(x : Int), (y : Int)]
theorem wd2_ok {n x y : Nat} (hx : x < n) (hy : y < n) : WordOk n (wd2 x y) := wordOk_mem.2 fun z hz => by
  unfold wd2 at hz
  rcases List.mem_cons.1 hz with rfl | hz
  · omega
  · rw [List.mem_singleton.1 hz]; omega
theorem two_begin {L S : List (List Int)} (h : SolOk L S) (hn : ndiB L S = true) {x a y : Nat} (hx : x < L.length) (ha : a < L.length) (hy : y < L.length) (hne : x ≠ y) : (∃ v, v ∈ clS L S (wd2 x a) ∧ ix v 0 = (y : Int)) ↔ mulN L x a = y := by
  have hi := invS_of h hn
  have ok := wd2_ok hx ha
  constructor
  · rintro ⟨v, hv, e⟩
    have hE := (mem_clS h ok).1 hv
    have hvo := hE.ok h ok
    have hp := (eqv_iff (mvP h) hi ok hvo).1 hE
    have hlen := hE.len
    match v, hlen with
    | [b, d], _ =>
      have eb : b = (y : Int) := by rw [ix_eq] at e; exact e
      subst eb
      have hmem : y ∈ cum (mulN L) (toN (wd2 x a)) := by
        refine hp.symm.subset ?_
        simp [toN, cum]
      have hc : cum (mulN L) (toN (wd2 x a)) = [x, mulN L x a] := by simp [toN, wd2, cum]
      rw [hc] at hmem
      rcases List.mem_cons.1 hmem with q | q
      · exact absurd q.symm hne
      · exact (List.mem_singleton.1 q).symm
  · rintro rfl
    refine ⟨wd2 (mulN L x a) (mulN S x a), (mem_clS h ok).2 ?_, by unfold wd2; rw [ix_eq]; rfl⟩
    refine .step _ _ .refl ⟨0, by simp [wd2], .inl ?_⟩
    unfold moveL wd2
    have e0 : ix [(x : Int), (a : Int)] 0 = (x : Int) := by rw [ix_eq]; rfl
    have e1 : ix [(x : Int), (a : Int)] (0 + 1) = (a : Int) := by rw [ix_eq]; rfl
    rw [e0, e1, Int.toNat_natCast, Int.toNat_natCast]
    rfl
theorem cm_letter {L S : List (List Int)} (h : SolOk L S) (hn : ndiB L S = true) {x y : Nat} (hx : x < L.length) (hy : y < L.length) : ∃ u, u < L.length ∧ indexOf (row L x) (y : Int) = (u : Int) ∧ mulN L x u = y ∧ ∀ a, a < L.length → mulN L x a = y → a = u := by
  have hi := invS_of h hn
  rw [ndiB_def, Bool.and_eq_true, goodB_def, Bool.and_eq_true] at hn
  have hr : IsoOk L.length [] [] (row L x) := isoOk_plain.2 ⟨h.l.len hx, permRowsB_iff.1 hn.1.1 x hx⟩
  obtain ⟨u, hu, e⟩ := hr.surj hy
  have e2 : mulN L x u = y := by
    have := (h.ln hx hu).1
    rw [ent_def] at e
    omega
  refine ⟨u, hu, by rw [← e]; exact indexOf_at hr hu, e2, fun a ha q => hi.inj x hx a ha u hu (by rw [q, e2])⟩
@[irreducible] noncomputable def cmC (L S : List (List Int)) (x y : Int) : Int := if solB L S then (if inR x 0 ((L.length : Int) - 1) && inR y 0 ((L.length : Int) - 1) && !decide (x = y) then (if ndiB L S then 0 else 5) else 2) else 1
@[irreducible] noncomputable def cmV (L S : List (List Int)) (x y : Int) : List Int := nfS L S (wd2 x.toNat (indexOf (row L x.toNat) y).toNat)
theorem cmC_1 {L S : List (List Int)} {x y : Int} (h : solB L S = false) : cmC L S x y = 1 := by unfold cmC; rw [h]; rfl
theorem cmC_2 {L S : List (List Int)} {x y : Int} (h : solB L S = true) (k : (inR x 0 ((L.length : Int) - 1) && inR y 0 ((L.length : Int) - 1) && !decide (x = y)) = false) : cmC L S x y = 2 := by unfold cmC; rw [h, k]; rfl
theorem cmC_5 {L S : List (List Int)} {x y : Int} (h : solB L S = true) (k : (inR x 0 ((L.length : Int) - 1) && inR y 0 ((L.length : Int) - 1) && !decide (x = y)) = true) (n : ndiB L S = false) : cmC L S x y = 5 := by unfold cmC; rw [h, k, n]; rfl
theorem cmC_0 {L S : List (List Int)} {x y : Int} (h : solB L S = true) (k : (inR x 0 ((L.length : Int) - 1) && inR y 0 ((L.length : Int) - 1) && !decide (x = y)) = true) (n : ndiB L S = true) : cmC L S x y = 0 := by unfold cmC; rw [h, k, n]; rfl
theorem cmC_zero {L S : List (List Int)} {x y : Int} (h : cmC L S x y = 0) : SolOk L S ∧ ndiB L S = true ∧ ∃ a b : Nat, x = (a : Int) ∧ y = (b : Int) ∧ a < L.length ∧ b < L.length ∧ a ≠ b := by
  cases h1 : solB L S with
  | false => rw [cmC_1 h1] at h; cases h
  | true =>
    cases h2 : (inR x 0 ((L.length : Int) - 1) && inR y 0 ((L.length : Int) - 1) && !decide (x = y)) with
    | false => rw [cmC_2 h1 h2] at h; cases h
    | true =>
      cases h3 : ndiB L S with
      | false => rw [cmC_5 h1 h2 h3] at h; cases h
      | true =>
        rw [Bool.and_eq_true, Bool.and_eq_true, inR_iff, inR_iff] at h2
        obtain ⟨⟨h4, h5⟩, h6⟩ := h2
        have h7 : x ≠ y := by simpa using h6
        exact ⟨solB_iff.1 h1, rfl, x.toNat, y.toNat, by omega, by omega, by omega, by omega, by omega⟩
theorem cm_law {L S : List (List Int)} {x y : Int} (h : cmC L S x y = 0) : (cmV L S x y).length = 2 ∧ (dvC L S [x] (cmV L S x y) = 0 ∧ dvB L S [x] (cmV L S x y) = true) ∧ dvC L S [y] (cmV L S x y) = 0 ∧ dvB L S [y] (cmV L S x y) = true := by
  obtain ⟨hS, hn, a, b, rfl, rfl, ha, hb, hne⟩ := cmC_zero h
  obtain ⟨u, hu, e1, e2, -⟩ := cm_letter hS hn ha hb
  have e3 : cmV L S (a : Int) (b : Int) = nfS L S (wd2 a u) := by unfold cmV; rw [Int.toNat_natCast, e1, Int.toNat_natCast]
  have ok := wd2_ok ha hu
  obtain ⟨w1, w2⟩ := nfS_word hS ok
  have hcl := clS_same hS ok (nfS_eqv hS ok)
  have h12 := hS.l.2.1
  have hfew := clS_few hS ok
  have hle : L.length ^ (wd2 a u).length ≤ 144 := by
    have : L.length * L.length ≤ 12 * 12 := Nat.mul_le_mul h12 h12
    simp [wd2, Nat.pow_succ]
    omega
  have key : ∀ c : Nat, c < L.length → (∃ v, v ∈ clS L S (wd2 a u) ∧ ix v 0 = (c : Int)) → dvC L S [(c : Int)] (nfS L S (wd2 a u)) = 0 ∧ dvB L S [(c : Int)] (nfS L S (wd2 a u)) = true := by
    intro c hc hv
    have hco : WordOk L.length [(c : Int)] := wordOk_mem.2 fun y hy => by rw [List.mem_singleton.1 hy]; omega
    have hcode : codeW L S [(c : Int)] (nfS L S (wd2 a u)) = 0 := codeW_ok (solB_iff.2 hS) (wordB_iff.2 ⟨hco, by simp⟩) (wordB_iff.2 ⟨w1, by rw [w2]; simp [wd2]⟩)
    have hf1 := clS_few hS hco
    simp only [List.length_cons, List.length_nil, Nat.zero_add, Nat.pow_one] at hf1
    have hd := dvC_ok hcode (by omega) (by rw [hcl]; omega)
    refine ⟨hd, ?_⟩
    rw [dvB_ok hd]
    obtain ⟨v, hv, e⟩ := hv
    rw [← hcl] at hv
    have hE := (mem_clS hS w1).1 hv
    have hlen := hE.len
    cases v with
    | nil => rw [w2] at hlen; simp [wd2] at hlen
    | cons z s =>
      have ez : z = (c : Int) := by rw [ix_eq] at e; exact e
      subst ez
      have hm := (mem_rsS (L := L) (S := S) hS (u := [(c : Int)]) (v := s) w1).2 hE
      cases e4 : rsS L S [(c : Int)] (nfS L S (wd2 a u)) with
      | nil => rw [e4] at hm; cases hm
      | cons a r => rfl
  rw [e3]
  exact ⟨by rw [w2]; rfl, key a ha ⟨_, clS_self hS ok, by unfold wd2; rw [ix_eq]; rfl⟩, key b hb ((two_begin hS hn ha hu hb hne).2 e2)⟩
end Go.Proofs.YtjfjpngajboidaaGreat


namespace Go.Proofs.YtjfjpngajboidaaGreat
set_option linter.unusedVariables false
set_option linter.unusedSimpArgs false
open Go.RowKit
attribute [local go_sem ↓] Go.wp_at_zero Go.wp_at_succ
open Go.Deep

set_option maxRecDepth 100000 in
set_option maxHeartbeats 4000000 in
theorem isInvolutive_sol (L S : List (List Int)) (v y : Value) (w : World) (hv : Rows w v L) (hy : Rows w y S) (hO : SolOk L S) :
    Calls Tryz.prog 48 #[.agg #[v, y]] w fun e w' => e = .returned (.bool (invB L.length (mulN L) (mulN S))) ∧ Ext w w' := by
  obtain ⟨-, b, o, c, rfl, hvc⟩ := id hv
  obtain ⟨-, b2, o2, c2, rfl, hyc⟩ := id hy
  have h12 := hO.l.2.1
  have HSL := Lib.hid hO.len
  have HLR := Lib.hid (fun x (hx : x < L.length) => hO.l.len hx)
  have HSR := Lib.hid (fun x (hx : x < L.length) => show (row S x).length = L.length by rw [hO.s.len (by rw [hO.len]; exact hx), hO.len])
  rw [hO.len]
  have HLN := Lib.hid (fun x y (hx : x < L.length) (hy : y < L.length) => hO.ln hx hy)
  have HSN := Lib.hid (fun x y (hx : x < L.length) (hy : y < L.length) => hO.sn hx hy)
  have HIY := Lib.hid (@invB_yes L.length (mulN L) (mulN S))
  have HIN := Lib.hid (fun x y (hx : x < L.length) (hy : y < L.length) => @invB_no L.length (mulN L) (mulN S) x y hx hy)
  have hx0 : Ext w (w.alloc (.cells #[.slice (some ⟨b, o, none⟩) L.length c, .slice (some ⟨b2, o2, none⟩) L.length c2] 26)) := (Ext.refl _).alloc _
  have k0 := cell_new2a w (.slice (some ⟨b, o, none⟩) L.length c) (.slice (some ⟨b2, o2, none⟩) L.length c2) 26
  have k1 := cell_new2b w (.slice (some ⟨b, o, none⟩) L.length c) (.slice (some ⟨b2, o2, none⟩) L.length c2) 26
  have HV := Lib.hid (hvc.ext hx0)
  have HY := Lib.hid (hyc.ext hx0)
  clear hv hy hvc hyc hO
  obtain ⟨I, hI⟩ : ∃ I, I = invB L.length (mulN L) (mulN S) := ⟨_, rfl⟩
  rw [← hI] at HIY HIN ⊢
  obtain ⟨n, hn⟩ : ∃ n, n = L.length := ⟨_, rfl⟩
  rw [← hn] at h12 HSL HLR HSR HLN HSN hx0 k0 k1 HV HY HIY HIN ⊢
  have HN := Lib.hid hn
  clear hn hI
  go_enter Tryz.func48, Tryz.ntmps48
  go_wp2_with fail
  generalize (w.alloc (.cells #[.slice (some ⟨b, o, none⟩) n c, .slice (some ⟨b2, o2, none⟩) n c2] 26)) = w1 at *
  go_loopw [11] (fun i wr => ∃ x : Nat, x ≤ n ∧ i = .int .i64 x ∧ (∀ a, a < x → ∀ d, d < n → InvAt (mulN L) (mulN S) a d) ∧ Drawn w1 wr) (fun i _ => n - (intOf i).toNat)
  case atStart => exact ⟨0, Nat.zero_le _, rfl, fun a ha => absurd ha (Nat.not_lt_zero _), Drawn.refl _⟩
  case round =>
    obtain ⟨x, hx, rfl, hp, hd⟩ := hrel
    have HP := Lib.hid hp
    have HD := Lib.hid hd
    clear hp hd
    by_cases hxl : x < n
    case neg =>
      have hxi : ¬ (x : Int) < (n : Int) := by omega
      have HI := Lib.hid (HIY.out (fun a ha d hd => HP.out a (by omega) d hd))
      go_wp2
      go_ret
      exact ⟨ret_bool HI.out.symm, hx0.trans HD.out.ext⟩
    case pos =>
      have hxi : (x : Int) < (n : Int) := by omega
      obtain ⟨d1, s1, m1, r1, i1, n1⟩ := (HV.out.ext HD.out.ext).get (i := x) (by rw [← HN.out]; exact hxl)
      rw [HLR.out x hxl] at r1
      have HI1 := Lib.hid i1
      clear i1 n1
      go_wp2_with fail
      obtain ⟨w2, rfl⟩ : ∃ z : World, z = wr := ⟨_, rfl⟩
      go_loopw [18] (fun i wr => ∃ y : Nat, y ≤ n ∧ i = .int .i64 y ∧ (∀ d, d < y → InvAt (mulN L) (mulN S) x d) ∧ Drawn w2 wr) (fun i _ => n - (intOf i).toNat)
      case atStart => exact ⟨0, Nat.zero_le _, rfl, fun a ha => absurd ha (Nat.not_lt_zero _), Drawn.refl _⟩
      case round =>
        obtain ⟨y, hy, rfl, hq, hd2⟩ := hrel
        have HQ := Lib.hid hq
        have HD2 := Lib.hid hd2
        clear hq hd2
        by_cases hyl : y < n
        case neg =>
          have hyi : ¬ (y : Int) < (n : Int) := by omega
          have HZ := Lib.hid (show ∀ a, a < x + 1 → ∀ d, d < n → InvAt (mulN L) (mulN S) a d from fun a ha d hd => by
            rcases Nat.lt_succ_iff_lt_or_eq.1 ha with h | h
            · exact HP.out a h d hd
            · rw [h]; exact HQ.out d (by omega))
          go_wp2
          go_roundw
          case rel => exact ⟨x + 1, by omega, by go_num, HZ.out, HD.out.trans HD2.out⟩
          case measure => simp [intOf]; omega
        case pos =>
          have hyi : (y : Int) < (n : Int) := by omega
          have HDD := Lib.hid (HD.out.trans HD2.out)
          have hL := HLN.out x y hxl hyl
          have hS := HSN.out x y hxl hyl
          have eL := HD2.out.ext.cell (HI1.out.ent (HLR.out x hxl) (y := y) hyl)
          obtain ⟨f1, g1, j1, t1, u1, v1⟩ := (HY.out.ext HDD.out.ext).get (i := x) (by rw [HSL.out]; exact hxl)
          have eS := u1.ent (HSR.out x hxl) (y := y) hyl
          rw [HSR.out x hxl] at t1
          rw [hL.1] at eL
          rw [hS.1] at eS
          obtain ⟨A, hA⟩ : ∃ q, q = mulN L x y := ⟨_, rfl⟩
          obtain ⟨B, hB⟩ : ∃ q, q = mulN S x y := ⟨_, rfl⟩
          rw [← hA] at eL hL
          rw [← hB] at eS hS
          have hAl := hL.2
          have hBl := hS.2
          have HA := Lib.hid hA
          have HB := Lib.hid hB
          have hL2 := HLN.out A B hAl hBl
          have hS2 := HSN.out A B hAl hBl
          obtain ⟨d2, s2, m2, r2, i2, n2⟩ := (HV.out.ext HDD.out.ext).get (i := A) (by rw [← HN.out]; exact hAl)
          obtain ⟨f2, g2, j2, t2, u2, v2⟩ := (HY.out.ext HDD.out.ext).get (i := A) (by rw [HSL.out]; exact hAl)
          have eL2 := i2.ent (HLR.out A hAl) (y := B) hBl
          have eS2 := u2.ent (HSR.out A hAl) (y := B) hBl
          rw [HLR.out A hAl] at r2
          rw [HSR.out A hAl] at t2
          rw [hL2.1] at eL2
          rw [hS2.1] at eS2
          have b0 := HDD.out.ext.cell k0
          have b1 := HDD.out.ext.cell k1
          clear hL hS hL2 hS2 i2 u1 u2 n2 v1 v2 hA hB
          by_cases h1 : mulN L A B = x
          case neg =>
            have HF := Lib.hid (HIN.out x y hxl hyl (fun h => h1 (by rw [HA.out, HB.out]; exact h.1)))
            have h1b : ((mulN L A B : Nat) : Int) ≠ (x : Int) := by omega
            have h1c : (((mulN L A B : Nat) : Int) != (x : Int)) = true := by simp; omega
            go_wp2
            go_ret
            exact ⟨ret_bool HF.out.symm, hx0.trans HDD.out.ext⟩
          case pos =>
            rw [h1] at eL2
            by_cases h2 : mulN S A B = y
            case neg =>
              have HF := Lib.hid (HIN.out x y hxl hyl (fun h => h2 (by rw [HA.out, HB.out]; exact h.2)))
              have h1b : ((mulN S A B : Nat) : Int) ≠ (y : Int) := by omega
              have h1c : (((mulN S A B : Nat) : Int) != (y : Int)) = true := by simp; omega
              go_wp2
              go_ret
              exact ⟨ret_bool HF.out.symm, hx0.trans HDD.out.ext⟩
            case pos =>
              rw [h2] at eS2
              have HZ := Lib.hid (show ∀ d, d < y + 1 → InvAt (mulN L) (mulN S) x d from fun d hd => by
                rcases Nat.lt_succ_iff_lt_or_eq.1 hd with h | h
                · exact HQ.out d h
                · rw [h]
                  unfold InvAt
                  rw [← HA.out, ← HB.out]
                  exact ⟨h1, h2⟩)
              go_wp2
              go_roundw
              case rel => exact ⟨y + 1, by omega, by go_num, HZ.out, HD2.out⟩
              case measure => simp [intOf]; omega

def AllT (n : Nat) (f : Nat → Bool) : Prop := ∀ i, i < n → f i = true

set_option maxRecDepth 100000 in
theorem indexB_any (f : Nat → Bool) (n b c : Nat) (w : World) (hc : ∀ i, i < n → w.cell? ⟨b, i, none⟩ = some (.bool (f i))) (hn : n ≤ 1000) :
    Calls Tryz.prog 92 #[.slice (some ⟨b, 0, none⟩) n c, .bool false] w fun e w' => ∃ r : Int, e = .returned (.int .i64 r) ∧ (0 ≤ r ↔ ¬ AllT n f) ∧ w = w' := by
  have HC := Lib.hid hc
  clear hc
  go_enter Tryz.func92, Tryz.ntmps92
  go_wp2
  go_loop [8] (fun i => ∃ k : Nat, k ≤ n ∧ i = .int .i64 k ∧ ∀ a, a < k → f a = true) (fun i => n - (intOf i).toNat)
  case atStart => exact ⟨0, Nat.zero_le _, rfl, fun a ha => absurd ha (Nat.not_lt_zero _)⟩
  case round =>
    obtain ⟨k, hk, rfl, hp⟩ := hrel
    have HP := Lib.hid hp
    clear hp
    by_cases hkn : k < n
    case neg =>
      have hkk : k = n := by omega
      have hki : ¬ (k : Int) < (n : Int) := by omega
      have HA := Lib.hid (show AllT n f from fun i hi => HP.out i (by omega))
      clear hkk
      go_wp2
      go_ret
      exact ⟨-1, rfl, ⟨fun h => by omega, fun h => absurd HA.out h⟩, rfl⟩
    case pos =>
      have hki : (k : Int) < (n : Int) := by omega
      have e1 := HC.out k hkn
      cases hf : f k with
      | true =>
        rw [hf] at e1
        go_wp2
        go_round
        case rel => exact ⟨k + 1, by omega, by go_num, fun a ha => by
          rcases Nat.lt_succ_iff_lt_or_eq.1 ha with h | h
          · exact HP.out a h
          · rw [h]; exact hf⟩
        case measure => simp [intOf]; omega
      | false =>
        rw [hf] at e1
        have HA := Lib.hid (show ¬ AllT n f from fun h => by have := h k hkn; rw [hf] at this; cases this)
        go_wp2
        go_ret
        exact ⟨k, rfl, ⟨fun _ => HA.out, fun _ => by omega⟩, rfl⟩

theorem containsB_any (f : Nat → Bool) (n b c : Nat) (w : World) (hc : ∀ i, i < n → w.cell? ⟨b, i, none⟩ = some (.bool (f i))) (hn : n ≤ 1000) :
    Calls Tryz.prog 51 #[.slice (some ⟨b, 0, none⟩) n c, .bool false] w fun e w' => ∃ B : Bool, e = .returned (.bool B) ∧ (B = true ↔ ¬ AllT n f) ∧ w = w' := by
  go_enter Tryz.func51, Tryz.ntmps51
  go_wp2_with fail
  refine (indexB_any f n b c w hc hn).mono ?_
  rintro e w' ⟨r, rfl, hr, rfl⟩
  go_wp2
  go_ret
  exact ⟨decide (0 ≤ r), rfl, by rw [decide_eq_true_iff]; exact hr, rfl⟩

def RetWI (c : Int) (p : List Int) (w : World) (e : Ending) (w' : World) : Prop := ∃ v, e = .returned (.tuple #[v, .int .i64 c]) ∧ (c = 0 → Ints w' v p) ∧ (c ≠ 0 → v = .slice none 0 0) ∧ Ext w w'
theorem retWI_bad {c d : Int} {t : List Int} {w w' : World} (e : c = d) (hd : d ≠ 0) (hx : Ext w w') : RetWI c t w (.returned (.tuple #[.slice none 0 0, .int .i64 d])) w' := ⟨_, by rw [e], fun h => absurd (e.symm.trans h) hd, fun _ => rfl, hx⟩
theorem pow_few {n : Nat} (h : n ≤ 5) (t : Nat) (ht : t ≤ n) : n ^ t ≤ 3125 := by
  rcases Nat.eq_zero_or_pos n with h0 | h0
  · have : t = 0 := by omega
    subst this; simp
  · calc n ^ t ≤ n ^ n := Nat.pow_le_pow_right h0 ht
      _ ≤ 5 ^ n := Nat.pow_le_pow_left h n
      _ ≤ 5 ^ 5 := Nat.pow_le_pow_right (by omega) h
      _ = 3125 := by decide
def BegT (cls : List (List Int)) (t x : Nat) : Prop := ∃ a, a < t ∧ ix (row cls a) 0 = (x : Int)
theorem allB_iff {L S : List (List Int)} {w : List Int} : AllB L S w ↔ ∀ x, x < L.length → BegT (clS L S w) (clS L S w).length x := by
  refine forall_congr' fun x => imp_congr_right fun hx => ⟨?_, ?_⟩
  · rintro ⟨v, hv, e⟩
    obtain ⟨i, hi, rfl⟩ := List.getElem_of_mem hv
    refine ⟨i, hi, ?_⟩
    rw [row_eq, List.getD_eq_getElem?_getD, List.getElem?_eq_getElem hi]
    exact e
  · rintro ⟨a, ha, e⟩
    refine ⟨row (clS L S w) a, ?_, e⟩
    rw [row_eq, List.getD_eq_getElem?_getD, List.getElem?_eq_getElem ha]
    exact List.getElem_mem ha

set_option maxRecDepth 100000 in
set_option maxHeartbeats 8000000 in
theorem GarsideWord_impl (L S : List (List Int)) (v y : Value) (w : World) (hv : Rows w v L) (hy : Rows w y S) :
    Calls Tryz.prog 20 #[.agg #[v, y]] w (RetWI (gaC L S) (gaV L S) w) := by
  obtain ⟨-, b, o, c, rfl, -⟩ := id hv
  obtain ⟨-, b2, o2, c2, rfl, -⟩ := id hy
  have hx0 : Ext w (w.alloc (.cells #[.slice (some ⟨b, o, none⟩) L.length c, .slice (some ⟨b2, o2, none⟩) S.length c2] 26)) := (Ext.refl _).alloc _
  have k0 := cell_new2a w (.slice (some ⟨b, o, none⟩) L.length c) (.slice (some ⟨b2, o2, none⟩) S.length c2) 26
  have k1 := cell_new2b w (.slice (some ⟨b, o, none⟩) L.length c) (.slice (some ⟨b2, o2, none⟩) S.length c2) 26
  have HV := Lib.hid (hv.ext hx0)
  have HY := Lib.hid (hy.ext hx0)
  have HX0 := Lib.hid hx0
  have K0W := Lib.hid k0
  have K1W := Lib.hid k1
  clear hv hy hx0
  go_enter Tryz.func20, Tryz.ntmps20
  go_wp2_with fail
  generalize (w.alloc (.cells #[.slice (some ⟨b, o, none⟩) L.length c, .slice (some ⟨b2, o2, none⟩) S.length c2] 26)) = w1 at *
  refine (IsSolution_any L S _ _ _ HV.out HY.out).mono ?_
  rintro e w2 ⟨rfl, hx2⟩
  have k0 := hx2.cell k0
  have k1 := hx2.cell k1
  cases hs : solB L S with
  | false =>
    have HQ := Lib.hid (gaC_1 hs)
    go_wp2
    go_ret2
    exact retWI_bad HQ.out (by decide) (HX0.out.trans hx2)
  | true =>
    have HO := Lib.hid (solB_iff.1 hs)
    have HSB := Lib.hid hs
    have HX2 := Lib.hid hx2
    clear hx2 hs
    go_wp2_with fail
    refine (isNondegenerate_any L S _ _ _ (HV.out.ext HX2.out) (HY.out.ext HX2.out) HO.out.pair).mono ?_
    rintro e w3 ⟨rfl, hx3⟩
    have HX3 := Lib.hid (HX2.out.trans hx3)
    have k0 := hx3.cell k0
    have k1 := hx3.cell k1
    clear hx3 HX2
    cases hg : goodB L S with
    | false =>
      have HQ := Lib.hid (gaC_5 HSB.out (by rw [ndiB_def, hg]; rfl))
      go_wp2
      go_ret2
      exact retWI_bad HQ.out (by decide) (HX0.out.trans HX3.out)
    | true =>
      go_wp2_with fail
      refine (isInvolutive_sol L S _ _ _ (HV.out.ext HX3.out) (HY.out.ext HX3.out) HO.out).mono ?_
      rintro e w4 ⟨rfl, hx4⟩
      have HX4 := Lib.hid (HX3.out.trans hx4)
      have k0 := hx4.cell k0
      have k1 := hx4.cell k1
      clear hx4 HX3
      cases hi : invB L.length (mulN L) (mulN S) with
      | false =>
        have HQ := Lib.hid (gaC_5 HSB.out (by rw [ndiB_def, hg, hi]; rfl))
        go_wp2
        go_ret2
        exact retWI_bad HQ.out (by decide) (HX0.out.trans HX4.out)
      | true =>
        have HND := Lib.hid (show ndiB L S = true by rw [ndiB_def, hg, hi]; rfl)
        clear hg hi
        have h1 := HO.out.l.1
        by_cases h5 : L.length ≤ 5
        case neg =>
          have HQ := Lib.hid (gaC_3 HSB.out HND.out h5)
          have h5i : (5 : Int) < (L.length : Int) := by omega
          go_wp2
          go_ret2
          exact retWI_bad HQ.out (by decide) (HX0.out.trans HX4.out)
        case pos =>
          have h5i : ¬ (5 : Int) < (L.length : Int) := by omega
          have HPF := Lib.hid (pow_few h5)
          go_wp2_with fail
          go_loop [5, 30] (fun vc vi => ∃ t : Nat, t ≤ L.length ∧ vi = .int .i64 t ∧ vc = .int .i64 ((L.length ^ t : Nat) : Int)) (fun _ vi => L.length - (intOf vi).toNat)
          case atStart => exact ⟨0, Nat.zero_le _, rfl, rfl⟩
          case round =>
            obtain ⟨t, ht, rfl, rfl⟩ := hrel
            by_cases htl : t < L.length
            case pos =>
              have hti : (t : Int) < (L.length : Int) := by omega
              have hb := HPF.out (t + 1) htl
              have HE := Lib.hid (Nat.pow_succ (n := L.length) (m := t))
              rw [HE.out] at hb
              obtain ⟨P, hP⟩ : ∃ P, P = L.length ^ t := ⟨_, rfl⟩
              rw [← hP] at hb HE ⊢
              obtain ⟨M, hM⟩ : ∃ M, M = P * L.length := ⟨_, rfl⟩
              rw [← hM] at hb HE
              have hmi : (P : Int) * (L.length : Int) = (M : Int) := by rw [hM]; push_cast; rfl
              have hw1 : IntKind.i64.wrap ((P : Int) * (L.length : Int)) = (M : Int) := by rw [hmi]; exact IntWalk.i64_in _ (by omega)
              clear hP hM
              go_wp2
              go_round
              case rel => exact ⟨t + 1, by omega, by go_num, by rw [HE.out]⟩
              case measure => simp [intOf]; omega
            case neg =>
              have hte : t = L.length := by omega
              have hti : ¬ (t : Int) < (L.length : Int) := by omega
              have hpe : L.length ^ t = L.length ^ L.length := by rw [hte]
              rw [hpe]
              clear hpe hte htl ht
              have hb := HPF.out L.length (Nat.le_refl _)
              obtain ⟨N, hN⟩ : ∃ N, N = L.length ^ L.length := ⟨_, rfl⟩
              rw [← hN] at hb ⊢
              have HN := Lib.hid hN
              clear hN
              go_wp2_with fail
              refine (normalWords_any L S L.length N _ _ _ (HV.out.ext HX4.out) (HY.out.ext HX4.out) HO.out h5 h5 HN.out.symm hb).mono ?_
              rintro e w5 ⟨vn, rfl, hnm, hx5⟩
              have HX5 := Lib.hid (HX4.out.trans hx5)
              have HK0 := Lib.hid K0W.out
              have HK1 := Lib.hid K1W.out
              obtain ⟨⟨an, cn, rfl⟩, hkn⟩ := hnm
              have HKN := Lib.hid hkn
              have HNW := Lib.hid (fun i (hi : i < (nmT L S L.length N).length) => nmT_word (L := L) (S := S) (k := L.length) (m := N) h1 (by rw [row_eq, List.getD_eq_getElem?_getD, List.getElem?_eq_getElem hi]; exact List.getElem_mem hi : row (nmT L S L.length N) i ∈ nmT L S L.length N))
              have HGA := Lib.hid (fun i => @gaF_at L S i)
              have HGN := Lib.hid (@gaF_none L S)
              rw [← HN.out] at HGA HGN
              obtain ⟨nm, hnme⟩ : ∃ q, q = nmT L S L.length N := ⟨_, rfl⟩
              rw [← hnme] at HKN HNW HGA HGN ⊢
              have HX45 := Lib.hid hx5
              have HCNT := Lib.hid (show nm.length ≤ 3125 from by rw [hnme]; exact Nat.le_trans (nmT_few _ _) hb)
              have HMK := Lib.hid (run_make_row' (P := Tryz.prog) 77 4 (.bool false) 1 Tryz.underlying77 infoBool rfl .i64 .i64 L.length (by omega) (by omega))
              clear hnme hkn hx5
              go_wp2_with fail
              go_loopw [41] (fun vi wr => ∃ i : Nat, i ≤ nm.length ∧ vi = .int .i64 i ∧ (∀ a, a < i → ¬ AllB L S (row nm a)) ∧ Ext w5 wr) (fun vi _ => nm.length - (intOf vi).toNat)
              case atStart => exact ⟨0, Nat.zero_le _, rfl, fun a ha => absurd ha (Nat.not_lt_zero _), Ext.refl _⟩
              case round =>
                obtain ⟨i, hi, rfl, hno, hx⟩ := hrel
                have HNO := Lib.hid hno
                have HX := Lib.hid hx
                clear hno hx
                by_cases hil : i < nm.length
                case neg =>
                  have hie : i = nm.length := by omega
                  have hii : ¬ (i : Int) < (nm.length : Int) := by omega
                  have HQ := Lib.hid (gaC_4 HSB.out HND.out h5 (HGN.out (fun a ha => HNO.out a (by omega))))
                  clear hie
                  go_wp2
                  go_ret2
                  exact retWI_bad HQ.out (by decide) (HX0.out.trans (HX5.out.trans HX.out))
                case pos =>
                  have hii : (i : Int) < (nm.length : Int) := by omega
                  obtain ⟨-, gn, dn, en, -⟩ := id (HKN.out (by omega))
                  simp only [Value.slice.injEq] at en
                  obtain ⟨rfl, -, rfl⟩ := en
                  obtain ⟨br, dr, r1, -, -, -, i1, n1⟩ := (HKN.out (by omega)).get hil
                  obtain ⟨wo, wl⟩ := HNW.out i hil
                  rw [wl] at r1
                  have r2 := HX.out.cell r1
                  have HIR := Lib.hid (show ∀ W, Ext wr W → Ints W (.slice (some ⟨br, 0, none⟩) L.length dr) (row nm i) from fun W hW => by
                    have := (i1.ext (HX.out.trans hW)).ints n1 dr
                    rwa [wl] at this)
                  have HWO := Lib.hid wo
                  have HWL := Lib.hid wl
                  have HFW := Lib.hid (clS_few HO.out wo)
                  have k6 := (HX5.out.trans HX.out).cell HK0.out
                  have k7 := (HX5.out.trans HX.out).cell HK1.out
                  clear r1 i1 n1 wo wl
                  go_wp2_with fail
                  refine (wordClass_any L S (row nm i) 5000 _ _ _ _ (HV.out.ext (HX5.out.trans HX.out)) (HY.out.ext (HX5.out.trans HX.out)) (HIR.out _ (Ext.refl _)) HO.out HWO.out (by rw [HWL.out]; omega) (by omega) (by omega)).mono ?_
                  rintro e w6 ⟨hcl, hx6⟩
                  have hfw := HFW.out
                  rw [HWL.out, ← HN.out] at hfw
                  rcases hcl with ⟨-, vc, rfl, hkc⟩ | ⟨hbig, -⟩
                  case inr => omega
                  obtain ⟨-, gc, cc, rfl, -, hgc, hgc2, -⟩ := id hkc
                  have HK := Lib.hid hkc
                  have HX6 := Lib.hid hx6
                  have HCW := Lib.hid (fun t (ht : t < (clS L S (row nm i)).length) => clS_word HO.out HWO.out (clS_row HO.out HWO.out ht))
                  have HAB := Lib.hid (allB_iff (L := L) (S := S) (w := row nm i))
                  obtain ⟨cls, hcls⟩ : ∃ q, q = clS L S (row nm i) := ⟨_, rfl⟩
                  rw [← hcls] at HK HCW HAB hfw ⊢
                  have hmk := HMK.out
                  have hr0 := World.rowIs_made w6 (.bool false) L.length 4
                  have hx7 : Ext w6 (w6.alloc (.cells (madeCells #[Value.bool false] L.length) 4)) := (Ext.refl _).alloc _
                  clear hcls hkc hx6 k6 k7
                  go_wp2_with fail
                  clear hmk
                  generalize (w6.alloc (.cells (madeCells #[Value.bool false] L.length) 4)) = w7 at *
                  go_loopw [55] (fun vi wr => ∃ (t : Nat) (f : Nat → Bool), t ≤ cls.length ∧ vi = .int .i64 t ∧ (∀ x, x < L.length → (f x = true ↔ BegT cls t x)) ∧ wr.rowIs w6.heap.size 4 L.length (fun x => .bool (f x)) ∧ Touch w6.heap.size (w6.heap.size + 1) w7 wr) (fun vi _ => cls.length - (intOf vi).toNat)
                  case atStart => exact ⟨0, fun _ => false, Nat.zero_le _, rfl, fun x hx => ⟨(fun h => by cases h), fun ⟨a, ha, _⟩ => absurd ha (Nat.not_lt_zero _)⟩, hr0, Touch.of_ext (Ext.refl _)⟩
                  case round =>
                    clear hr0
                    obtain ⟨t, f, ht, rfl, hf, hrow, hT⟩ := hrel
                    have HF := Lib.hid hf
                    have HT := Lib.hid hT
                    clear hf hT
                    by_cases htl : t < cls.length
                    case pos =>
                      have hti : (t : Int) < (cls.length : Int) := by omega
                      obtain ⟨bq, dq, s1, -, hbq, hbq2, i2, n2⟩ := HK.out.get htl
                      obtain ⟨w8, w9⟩ := HCW.out t htl
                      rw [HWL.out] at w9
                      rw [w9] at s1
                      have s2 := HT.out.cell (hx7.cell s1) (by simp only []; omega)
                      have hx0 := w8.nat (i := 0) (by omega)
                      have s3 := HT.out.cell (hx7.cell (i2 0 (by omega))) (by simp only []; omega)
                      rw [hx0.1, Nat.add_zero] at s3
                      obtain ⟨z, hz⟩ : ∃ z, z = (ix (row cls t) 0).toNat := ⟨_, rfl⟩
                      rw [← hz] at s3 hx0
                      have hzl := hx0.2
                      have hzi : (z : Int) < (L.length : Int) := by omega
                      have c1 := hrow.cell hzl
                      have c2 := hrow.frozen z
                      have HF2 := Lib.hid (show ∀ x, x < L.length → ((fun j => if j = z then true else f j) x = true ↔ BegT cls (t + 1) x) from fun x hx => by
                        by_cases e : x = z
                        · simp only [if_pos e, true_iff]
                          exact ⟨t, by omega, by rw [hx0.1, e]⟩
                        · simp only [if_neg e]
                          rw [HF.out x hx]
                          constructor
                          · rintro ⟨a, ha, q⟩
                            exact ⟨a, by omega, q⟩
                          · rintro ⟨a, ha, q⟩
                            rcases Nat.lt_succ_iff_lt_or_eq.1 ha with g | g
                            · exact ⟨a, g, q⟩
                            · subst g
                              rw [hx0.1] at q
                              exact absurd (by omega) e)
                      have hl0 : (0 : Int) < (L.length : Int) := by omega
                      clear hx0 hz w8 w9 s1 i2 n2
                      go_wp2_with fail
                      go_roundw
                      case rel => exact ⟨t + 1, _, by omega, by go_num, HF2.out, (hrow.set z _).congr (fun j hj => by by_cases e : j = z <;> simp [e]), touch_set1 HT.out _⟩
                      case measure => simp [intOf]; omega
                    case neg =>
                      have hte : t = cls.length := by omega
                      have hti : ¬ (t : Int) < (cls.length : Int) := by omega
                      have HAL := Lib.hid (show AllT L.length f ↔ AllB L S (row nm i) from by
                        rw [HAB.out]
                        refine forall_congr' fun x => imp_congr_right fun hx => ?_
                        rw [HF.out x hx, hte])
                      have HX8 := Lib.hid ((HX6.out.trans hx7).touch HT.out HX6.out.size)
                      clear hte htl
                      go_wp2_with fail
                      refine (containsB_any f L.length _ _ _ (fun j hj => hrow.cell hj) (by omega)).mono ?_
                      rintro e w8 ⟨B, rfl, hB, rfl⟩
                      have HB := Lib.hid hB
                      clear hB
                      cases B with
                      | false =>
                        have HALL := Lib.hid (show AllB L S (row nm i) from HAL.out.1 (Classical.byContradiction fun q => by have := HB.out.2 q; cases this))
                        have HGG := Lib.hid (gaC_0 HSB.out HND.out h5 (HGA.out i hil HNO.out HALL.out))
                        have HIF := Lib.hid (HIR.out _ HX8.out)
                        go_wp2
                        go_ret2
                        exact ⟨_, by rw [HGG.out.1]; rfl, fun _ => by rw [HGG.out.2]; exact HIF.out, fun q => absurd HGG.out.1 q, HX0.out.trans ((HX5.out.trans HX.out).trans HX8.out)⟩
                      | true =>
                        have HNA := Lib.hid (show ¬ AllB L S (row nm i) from fun q => (HB.out.1 rfl) (HAL.out.2 q))
                        have HNO2 := Lib.hid (show ∀ a, a < i + 1 → ¬ AllB L S (row nm a) from fun a ha => by
                          rcases Nat.lt_succ_iff_lt_or_eq.1 ha with g | g
                          · exact HNO.out a g
                          · rw [g]; exact HNA.out)
                        have hcnt := HCNT.out
                        go_wp2
                        go_roundw
                        case rel => exact ⟨i + 1, by omega, by go_num, HNO2.out, HX.out.trans HX8.out⟩
                        case measure => simp [intOf]; omega
end Go.Proofs.YtjfjpngajboidaaGreat


namespace Go.Proofs.YtjfjpngajboidaaGreat
set_option linter.unusedVariables false
set_option linter.unusedSimpArgs false
open Go.RowKit
attribute [local go_sem ↓] Go.wp_at_zero Go.wp_at_succ
open Go.Deep

theorem ints_two {w : World} {g : Nat} (x y : Int) (e : TypeId) (hg : g = w.heap.size) : Ints (w.alloc (.cells #[.int .i64 x, .int .i64 y] e)) (.slice (some ⟨g, 0, none⟩) 2 2) [x, y] := by
  subst hg
  refine ⟨by simp, w.heap.size, 0, 2, rfl, fun i hi => ?_⟩
  match i, hi with
  | 0, _ => simp [go_sem, ix_eq]
  | 1, _ => simp [go_sem, ix_eq]
theorem allIn_two (x y : Int) (n : Nat) : allInB [x, y] 0 ((n : Int) - 1) = (inR x 0 ((n : Int) - 1) && inR y 0 ((n : Int) - 1)) := by
  rw [Bool.eq_iff_iff, allInB_iff, Bool.and_eq_true, inR_iff, inR_iff]
  constructor
  · intro h
    have h0 := h 0 (by simp)
    have h1 := h 1 (by simp)
    simp [ix_eq] at h0 h1
    omega
  · rintro ⟨h0, h1⟩ i hi
    match i, hi with
    | 0, _ => simp [ix_eq]; omega
    | 1, _ => simp [ix_eq]; omega
theorem callCM1 (args : Array Value) (w : World) : (callFunc 61 args).run Tryz.prog w = .ok (.enter 61 args) w := by
  exact callFunc_enter Tryz.func61 (by kernel_rfl) rfl args w

set_option maxRecDepth 100000 in
theorem cm1_any (l : List Int) (r : Value) (y : Int) (B : Nat) (w : World) (hr : Ints w r l) (hB : w.cell? ⟨B, 0, none⟩ = some (.int .i64 y)) (h1 : 1 ≤ l.length) :
    Calls Tryz.prog 61 #[r, .pointer (some ⟨B, 0, none⟩)] w fun e w' => e = .returned (.bool (decide (ix l 0 = y))) ∧ Ext w w' := by
  obtain ⟨hlen, b, o, c, rfl, hc⟩ := hr
  have e1 := hc 0 (by omega)
  rw [Nat.add_zero] at e1
  have hl0 : (0 : Int) < (l.length : Int) := by omega
  have hx : decide (ix l 0 = y) = (ix l 0 == y) := by rw [Bool.eq_iff_iff]; simp
  go_enter Tryz.func61, Tryz.ntmps61
  go_wp2_with fail
  go_quiet (fail)
  go_wp2
  go_ret
  exact ⟨ret_bool hx.symm, by (repeat first | (with_reducible exact Ext.refl _) | (with_reducible assumption) | (with_reducible apply Ext.drew) | (with_reducible apply kx_drewN) | (with_reducible apply kx_alloc) | ((with_reducible refine kx_set ?_ ?_); (first | (simp only []; omega) | (simp; omega) | (focus (simp; done)))) )⟩

set_option maxRecDepth 100000 in
set_option maxHeartbeats 8000000 in
theorem CommonMultiple_impl (L S : List (List Int)) (x y : Int) (v z : Value) (w : World) (hv : Rows w v L) (hy : Rows w z S) :
    Calls Tryz.prog 23 #[.agg #[v, z], .int .i64 x, .int .i64 y] w (RetWI (cmC L S x y) (cmV L S x y) w) := by
  obtain ⟨-, b, o, c, rfl, -⟩ := id hv
  obtain ⟨-, b2, o2, c2, rfl, -⟩ := id hy
  have hx0 : Ext w ((w.alloc (.cells #[.slice (some ⟨b, o, none⟩) L.length c, .slice (some ⟨b2, o2, none⟩) S.length c2] 26)).alloc (.cells #[.int .i64 y] 2)) := ((Ext.refl _).alloc _).alloc _
  have k0 := ((Ext.refl (w.alloc (.cells #[.slice (some ⟨b, o, none⟩) L.length c, .slice (some ⟨b2, o2, none⟩) S.length c2] 26))).alloc (.cells #[.int .i64 y] 2)).cell (cell_new2a w (.slice (some ⟨b, o, none⟩) L.length c) (.slice (some ⟨b2, o2, none⟩) S.length c2) 26)
  have k1 := ((Ext.refl (w.alloc (.cells #[.slice (some ⟨b, o, none⟩) L.length c, .slice (some ⟨b2, o2, none⟩) S.length c2] 26))).alloc (.cells #[.int .i64 y] 2)).cell (cell_new2b w (.slice (some ⟨b, o, none⟩) L.length c) (.slice (some ⟨b2, o2, none⟩) S.length c2) 26)
  have k2 : ((w.alloc (.cells #[.slice (some ⟨b, o, none⟩) L.length c, .slice (some ⟨b2, o2, none⟩) S.length c2] 26)).alloc (.cells #[.int .i64 y] 2)).cell? ⟨w.heap.size + 1, 0, none⟩ = some (.int .i64 y) := by simp [go_sem]
  have HV := Lib.hid (hv.ext hx0)
  have HY := Lib.hid (hy.ext hx0)
  have HX0 := Lib.hid hx0
  have K0 := Lib.hid k0
  have K1 := Lib.hid k1
  have K2 := Lib.hid k2
  clear hv hy hx0
  go_enter Tryz.func23, Tryz.ntmps23
  go_wp2_with fail
  generalize ((w.alloc (.cells #[.slice (some ⟨b, o, none⟩) L.length c, .slice (some ⟨b2, o2, none⟩) S.length c2] 26)).alloc (.cells #[.int .i64 y] 2)) = w1 at *
  refine (IsSolution_any L S _ _ _ HV.out HY.out).mono ?_
  rintro e w2 ⟨rfl, hx2⟩
  have k0 := hx2.cell k0
  have k1 := hx2.cell k1
  have k2 := hx2.cell k2
  cases hs : solB L S with
  | false =>
    have HQ := Lib.hid (cmC_1 (x := x) (y := y) hs)
    go_wp2
    go_ret2
    exact retWI_bad HQ.out (by decide) (HX0.out.trans hx2)
  | true =>
    have HO := Lib.hid (solB_iff.1 hs)
    have HSB := Lib.hid hs
    have HX2 := Lib.hid hx2
    have h1 := HO.out.l.1
    have h12 := HO.out.l.2.1
    clear hx2 hs
    have HI2 := Lib.hid (ints_two (w := w2) x y 2 rfl)
    have HX3 := Lib.hid (HX2.out.trans ((Ext.refl w2).alloc (.cells #[.int .i64 x, .int .i64 y] 2)))
    have k3 := ((Ext.refl w2).alloc (.cells #[.int .i64 x, .int .i64 y] 2)).cell k0
    have k4 := ((Ext.refl w2).alloc (.cells #[.int .i64 x, .int .i64 y] 2)).cell k1
    have k5 := ((Ext.refl w2).alloc (.cells #[.int .i64 x, .int .i64 y] 2)).cell k2
    go_wp2_with fail
    refine (areElements_any L.length [x, y] _ _ HI2.out (by omega)).mono ?_
    rintro e w3 ⟨rfl, rfl⟩
    rw [allIn_two]
    cases hin : (inR x 0 ((L.length : Int) - 1) && inR y 0 ((L.length : Int) - 1)) with
    | false =>
      have HQ := Lib.hid (cmC_2 (x := x) (y := y) HSB.out (by rw [hin]; rfl))
      go_wp2
      go_ret2
      exact retWI_bad HQ.out (by decide) (HX0.out.trans HX3.out)
    | true =>
      by_cases hxy : x = y
      case pos =>
        have HQ := Lib.hid (cmC_2 (x := x) (y := y) HSB.out (by rw [hin, decide_eq_true hxy]; rfl))
        have hxb : (x == y) = true := by simp [hxy]
        clear hxy
        go_wp2
        go_ret2
        exact retWI_bad HQ.out (by decide) (HX0.out.trans HX3.out)
      case neg =>
        have HKK := Lib.hid (show (inR x 0 ((L.length : Int) - 1) && inR y 0 ((L.length : Int) - 1) && !decide (x = y)) = true by rw [hin, decide_eq_false hxy]; rfl)
        have hxb : (x == y) = false := by simp [hxy]
        rw [Bool.and_eq_true, inR_iff, inR_iff] at hin
        obtain ⟨hi1, hi2⟩ := hin
        obtain ⟨a, rfl⟩ := Int.eq_ofNat_of_zero_le hi1.1
        obtain ⟨d, rfl⟩ := Int.eq_ofNat_of_zero_le hi2.1
        have hal : a < L.length := by omega
        have hdl : d < L.length := by omega
        have had : a ≠ d := by omega
        clear hi1 hi2 hxy
        go_wp2_with fail
        refine (isNondegenerate_any L S _ _ _ (HV.out.ext HX3.out) (HY.out.ext HX3.out) HO.out.pair).mono ?_
        rintro e w4 ⟨rfl, hx4⟩
        have HX4 := Lib.hid (HX3.out.trans hx4)
        have k6 := hx4.cell k3
        have k7 := hx4.cell k4
        have k8 := hx4.cell k5
        clear hx4 hxb
        cases hg : goodB L S with
        | false =>
          have HQ := Lib.hid (cmC_5 HSB.out HKK.out (by rw [ndiB_def, hg]; rfl))
          go_wp2
          go_ret2
          exact retWI_bad HQ.out (by decide) (HX0.out.trans HX4.out)
        | true =>
          go_wp2_with fail
          refine (isInvolutive_sol L S _ _ _ (HV.out.ext HX4.out) (HY.out.ext HX4.out) HO.out).mono ?_
          rintro e w5 ⟨rfl, hx5⟩
          have HX5 := Lib.hid (HX4.out.trans hx5)
          have p6 := hx5.cell k6
          have p7 := hx5.cell k7
          have p8 := hx5.cell k8
          clear hx5
          cases hi : invB L.length (mulN L) (mulN S) with
          | false =>
            have HQ := Lib.hid (cmC_5 HSB.out HKK.out (by rw [ndiB_def, hg, hi]; rfl))
            go_wp2
            go_ret2
            exact retWI_bad HQ.out (by decide) (HX0.out.trans HX5.out)
          | true =>
            have HND := Lib.hid (show ndiB L S = true by rw [ndiB_def, hg, hi]; rfl)
            have HC0 := Lib.hid (cmC_0 HSB.out HKK.out HND.out)
            have HTB := Lib.hid (fun c (hc : c < L.length) => two_begin HO.out HND.out hal hc hdl had)
            have HOK := Lib.hid (fun c (hc : c < L.length) => wd2_ok hal hc)
            have HFW := Lib.hid (fun c (hc : c < L.length) => show (clS L S (wd2 a c)).length ≤ 144 from by
              have h2 := clS_few HO.out (HOK.out c hc)
              have h3 : L.length * L.length ≤ 12 * 12 := Nat.mul_le_mul h12 h12
              simp [wd2, Nat.pow_succ] at h2
              unfold wd2
              omega)
            obtain ⟨u, hu, e1, e2, e3⟩ := cm_letter HO.out HND.out hal hdl
            have HU := Lib.hid (And.intro hu (And.intro e1 (And.intro e2 e3)))
            have HCV := Lib.hid (show cmV L S (a : Int) (d : Int) = nfS L S (wd2 a u) from by unfold cmV; rw [Int.toNat_natCast, e1, Int.toNat_natCast])
            clear hg hi hu e1 e2 e3 k0 k1 k2 k3 k4 k5 k6 k7 k8
            go_wp2_with fail
            go_loopw [38] (fun vi wr => ∃ c : Nat, c ≤ L.length ∧ vi = .int .i64 c ∧ (∀ q, q < c → mulN L a q ≠ d) ∧ Ext w5 wr) (fun vi _ => L.length - (intOf vi).toNat)
            case atStart => exact ⟨0, Nat.zero_le _, rfl, fun q hq => absurd hq (Nat.not_lt_zero _), Ext.refl _⟩
            case round =>
              obtain ⟨c, hc, rfl, hno, hx⟩ := hrel
              have HNO := Lib.hid hno
              have HX := Lib.hid hx
              clear hno hx
              by_cases hcl : c < L.length
              case neg =>
                exact absurd HU.out.2.2.1 (HNO.out u (by have := HU.out.1; omega))
              case pos =>
                have hci : (c : Int) < (L.length : Int) := by omega
                have hxb := (Ext.refl wr).alloc (.cells #[.int .i64 (a : Int), .int .i64 (c : Int)] 2)
                have HI := Lib.hid (ints_two (w := wr) (a : Int) (c : Int) 2 rfl)
                have HX6 := Lib.hid ((HX5.out.trans HX.out).trans hxb)
                have q6 := (HX.out.trans hxb).cell p6
                have q7 := (HX.out.trans hxb).cell p7
                have q8 := (HX.out.trans hxb).cell p8
                have r6 := HX.out.cell p6
                have r7 := HX.out.cell p7
                clear hxb
                go_wp2_with fail
                refine (wordClass_any L S (wd2 a c) 1000 _ _ _ _ (HV.out.ext HX6.out) (HY.out.ext HX6.out) HI.out HO.out (HOK.out c hcl) (by simp [wd2]) (by omega) (by omega)).mono ?_
                rintro e w7 ⟨hcl7, hx7⟩
                have hfw := HFW.out c hcl
                rcases hcl7 with ⟨-, vc, rfl, hkc⟩ | ⟨hbig, -⟩
                case inr => omega
                have HK := Lib.hid hkc
                have HX7 := Lib.hid (HX6.out.trans hx7)
                have hkx := hx7
                have s8 := hx7.cell q8
                have HPOS := Lib.hid (clS_pos HO.out (HOK.out c hcl))
                have HROW := Lib.hid (fun i (hi : i < (clS L S (wd2 a c)).length) => (clS_word HO.out (HOK.out c hcl) (clS_row HO.out (HOK.out c hcl) hi)).2)
                obtain ⟨-, gc, cc, rfl, -⟩ := id hkc
                clear hkc hx7 q6 q7 q8 r6 r7
                have hkx : Ext _ w7 := hkx
                go_wp2_with fail
                refine (ContainsFunc_any (clS L S (wd2 a c)) (fun r => decide (ix r 0 = (d : Int))) 61 #[.pointer (some ⟨w.heap.size + 1, 0, none⟩)] _ _ HK.out.rows callCM1 (fun wz r i hx hi hr => by
                  rw [app1]
                  exact cm1_any _ r (d : Int) _ _ hr (hx.cell s8) (by rw [HROW.out i hi]; simp [wd2]))).mono ?_
                rintro e w8 ⟨rfl, hx8⟩
                have HX8 := Lib.hid (HX7.out.trans hx8)
                have HX58 := Lib.hid (show Ext w5 w8 from ((HX.out.trans ((Ext.refl wr).alloc _)).trans hkx).trans hx8)
                cases hb : anyB (fun r => decide (ix r 0 = (d : Int))) (clS L S (wd2 a c)) with
                | false =>
                  have HNM := Lib.hid (show mulN L a c ≠ d from fun q => by
                    obtain ⟨v, hv, e⟩ := (HTB.out c hcl).2 q
                    obtain ⟨i, hi, rfl⟩ := List.getElem_of_mem hv
                    have h2 := (anyB_row _ _).1 hb i hi
                    rw [row_eq, List.getD_eq_getElem?_getD, List.getElem?_eq_getElem hi] at h2
                    simp only [Option.getD_some, decide_eq_false_iff_not] at h2
                    exact h2 e)
                  have HNO2 := Lib.hid (show ∀ q, q < c + 1 → mulN L a q ≠ d from fun q hq => by
                    rcases Nat.lt_succ_iff_lt_or_eq.1 hq with g | g
                    · exact HNO.out q g
                    · rw [g]; exact HNM.out)
                  go_wp2
                  go_roundw
                  case rel => exact ⟨c + 1, by omega, by go_num, HNO2.out, HX58.out⟩
                  case measure => simp [intOf]; omega
                | true =>
                  have hcu : c = u := by
                    have hne : ¬ ∀ i, i < (clS L S (wd2 a c)).length → (fun r => decide (ix r 0 = (d : Int))) (row (clS L S (wd2 a c)) i) = false := fun h => by
                      rw [(anyB_row _ _).2 h] at hb; cases hb
                    have hex : ∃ v, v ∈ clS L S (wd2 a c) ∧ ix v 0 = (d : Int) := Classical.byContradiction fun hn => hne fun i hi => by
                      refine decide_eq_false fun e => hn ⟨row (clS L S (wd2 a c)) i, ?_, e⟩
                      exact clS_row HO.out (HOK.out c hcl) hi
                    exact HU.out.2.2.2 c hcl ((HTB.out c hcl).1 hex)
                  have hn0 := nfS_row HO.out (HOK.out c hcl)
                  have hcv := HCV.out
                  rw [← hcu, hn0] at hcv
                  obtain ⟨b9, d9, s1, -, -, -, s2, s3⟩ := HK.out.get HPOS.out
                  have s4 := hx8.cell s1
                  have HF := Lib.hid ((s2.ext hx8).ints s3 d9)
                  have HCV2 := Lib.hid hcv
                  have hp0 : (0 : Int) < ((clS L S (wd2 a c)).length : Int) := by have := HPOS.out; omega
                  clear hcu hn0 hcv s1 s2 s3 hb
                  go_wp2
                  go_ret2
                  exact ⟨_, by rw [HC0.out]; rfl, fun _ => by rw [HCV2.out]; exact HF.out, fun q => absurd HC0.out q, HX0.out.trans HX8.out⟩
end Go.Proofs.YtjfjpngajboidaaGreat


namespace Go.Proofs.YtjfjpngajboidaaGreat
set_option linter.unusedVariables false
set_option linter.unusedSimpArgs false
open Go.RowKit
attribute [local go_sem ↓] Go.wp_at_zero Go.wp_at_succ
open Go.Deep

theorem listK_made {e lo g : Nat} {D : Nat → Prop} {w : World} (hg : g = w.heap.size) (hb : lo ≤ w.heap.size) : ListK e lo D (w.alloc (.cells #[] e)) (.slice (some ⟨g, 0, none⟩) 0 0) [] [] := by
  subst hg
  exact ⟨World.ownsRow_made w #[] 0 hb (Nat.zero_le _) rfl, XK.nil _ _ _⟩

set_option maxRecDepth 100000 in
set_option maxHeartbeats 8000000 in
theorem l09Normals_any (L S : List (List Int)) (k N : Nat) (v y : Value) (w : World) (hv : Rows w v L) (hy : Rows w y S) (hO : SolOk L S) (h5 : L.length ≤ 5) (hk : k ≤ 5) (hN : L.length ^ k = N) (hN5 : N ≤ 3125) :
    Calls Tryz.prog 55 #[.agg #[v, y], .int .i64 k] w (RetNm L S k N w) := by
  obtain ⟨-, b, o, c, rfl, -⟩ := id hv
  obtain ⟨-, b2, o2, c2, rfl, -⟩ := id hy
  have HMK := Lib.hid (run_make_row' (P := Tryz.prog) 77 4 (.bool false) 1 Tryz.underlying77 infoBool rfl .i64 .i64 N (by omega) (by omega))
  have HMW := Lib.hid (run_make_row' (P := Tryz.prog) 27 2 (.int .i64 0) 8 Tryz.underlying27 infoInt rfl .i64 .i64 k (by omega) (by omega))
  have hx0 : Ext w (w.alloc (.cells #[.slice (some ⟨b, o, none⟩) L.length c, .slice (some ⟨b2, o2, none⟩) S.length c2] 26)) := (Ext.refl _).alloc _
  have k0 := cell_new2a w (.slice (some ⟨b, o, none⟩) L.length c) (.slice (some ⟨b2, o2, none⟩) S.length c2) 26
  have k1 := cell_new2b w (.slice (some ⟨b, o, none⟩) L.length c) (.slice (some ⟨b2, o2, none⟩) S.length c2) 26
  have HV := Lib.hid (hv.ext hx0)
  have HY := Lib.hid (hy.ext hx0)
  have HO := Lib.hid hO
  have HNE := Lib.hid hN
  have HX0 := Lib.hid hx0
  have h1 := hO.l.1
  have hn0 : (L.length : Int) ≠ 0 := by omega
  have hz1 : (w.alloc (.cells #[.slice (some ⟨b, o, none⟩) L.length c, .slice (some ⟨b2, o2, none⟩) S.length c2] 26)).heap.size ≤ w.heap.size + 1 := by simp
  have hr0 := World.rowIs_made (w.alloc (.cells #[.slice (some ⟨b, o, none⟩) L.length c, .slice (some ⟨b2, o2, none⟩) S.length c2] 26)) (.bool false) N 4
  rw [World.size_alloc] at hr0
  have hx1 : Ext (w.alloc (.cells #[.slice (some ⟨b, o, none⟩) L.length c, .slice (some ⟨b2, o2, none⟩) S.length c2] 26)) ((w.alloc (.cells #[.slice (some ⟨b, o, none⟩) L.length c, .slice (some ⟨b2, o2, none⟩) S.length c2] 26)).alloc (.cells (madeCells #[Value.bool false] N) 4)) := (Ext.refl _).alloc _
  have HD0 := Lib.hid (show NrmD 27 (w.heap.size + 1) (w.heap.size + 1) 4 N (w.alloc (.cells #[.slice (some ⟨b, o, none⟩) L.length c, .slice (some ⟨b2, o2, none⟩) S.length c2] 26)) (((w.alloc (.cells #[.slice (some ⟨b, o, none⟩) L.length c, .slice (some ⟨b2, o2, none⟩) S.length c2] 26)).alloc (.cells (madeCells #[Value.bool false] N) 4)).alloc (.cells #[] 27)) (.slice (some ⟨w.heap.size + 1 + 1, 0, none⟩) 0 0) [] (fun _ => false) [] from
    ⟨hr0.alloc _, listK_made (by simp) (by simp), fun e => by have := Option.some.inj (show some (w.heap.size + 1 + 1) = some (w.heap.size + 1) from e); omega, hx1.alloc _, hz1, hz1, by simp⟩)
  have HPF := Lib.hid (show ∀ t, t ≤ k → L.length ^ t ≤ 3125 from fun t ht => Nat.le_trans (Nat.pow_le_pow_right h1 ht) (by omega))
  clear hv hy hx0 hO hN hr0 hx1
  go_enter Tryz.func55, Tryz.ntmps55
  go_wp2_with fail
  go_loop [6, 7] (fun vc vi => ∃ t : Nat, t ≤ k ∧ vi = .int .i64 t ∧ vc = .int .i64 ((L.length ^ t : Nat) : Int)) (fun _ vi => k - (intOf vi).toNat)
  case atStart => exact ⟨0, Nat.zero_le _, rfl, rfl⟩
  case round =>
    obtain ⟨t, ht, rfl, rfl⟩ := hrel
    by_cases htl : t < k
    case pos =>
      have hti : (t : Int) < (k : Int) := by omega
      have hb := HPF.out (t + 1) htl
      have HE := Lib.hid (Nat.pow_succ (n := L.length) (m := t))
      rw [HE.out] at hb
      obtain ⟨P, hP⟩ : ∃ P, P = L.length ^ t := ⟨_, rfl⟩
      rw [← hP] at hb HE ⊢
      obtain ⟨M, hM⟩ : ∃ M, M = P * L.length := ⟨_, rfl⟩
      rw [← hM] at hb HE
      have hmi : (P : Int) * (L.length : Int) = (M : Int) := by rw [hM]; push_cast; rfl
      have hw1 : IntKind.i64.wrap ((P : Int) * (L.length : Int)) = (M : Int) := by rw [hmi]; exact IntWalk.i64_in _ (by omega)
      clear hP hM
      go_wp2
      go_round
      case rel => exact ⟨t + 1, by omega, by go_num, by rw [HE.out]⟩
      case measure => simp [intOf]; omega
    case neg =>
      have hte : t = k := by omega
      have hti : ¬ (t : Int) < (k : Int) := by omega
      have hpe : L.length ^ t = N := by rw [hte]; exact HNE.out
      rw [hpe]
      clear hpe hte htl ht HPF
      have hmk := HMK.out
      go_wp2_with fail
      clear hmk
      generalize (((w.alloc (.cells #[.slice (some ⟨b, o, none⟩) L.length c, .slice (some ⟨b2, o2, none⟩) S.length c2] 26)).alloc (.cells (madeCells #[Value.bool false] N) 4)).alloc (.cells #[] 27)) = w2 at *
      generalize (w.alloc (.cells #[.slice (some ⟨b, o, none⟩) L.length c, .slice (some ⟨b2, o2, none⟩) S.length c2] 26)) = w1 at *
      clear hz1
      go_loopw [9, 10] (fun vw vi wr => ∃ (m : Nat) (xs : List Value) (sB : Nat → Bool), m ≤ N ∧ vi = .int .i64 m ∧ (∀ i, i < N → (sB i = true ↔ SeenTo L S k m i)) ∧ NrmD 27 (w.heap.size + 1) (w.heap.size + 1) 4 N w1 wr vw xs sB (nmT L S k m)) (fun _ vi _ => N - (intOf vi).toNat)
      case atStart => exact ⟨0, [], fun _ => false, Nat.zero_le _, rfl, fun i _ => ⟨(fun h => by cases h), fun h => absurd h (seen_zero _ _)⟩, by rw [nmT_zero]; exact HD0.out⟩
      case round =>
        clear HD0
        obtain ⟨m, xs, sB, hm, rfl, hs, hd⟩ := hrel
        obtain ⟨a1, c1, rfl⟩ := hd.shape
        have HS := Lib.hid hs
        have HD := Lib.hid hd
        clear hs hd
        by_cases hml : m < N
        case neg =>
          have hme : m = N := by omega
          have hmi : ¬ (m : Int) < (N : Int) := by omega
          have hmi' := hmi
          have HR := Lib.hid (show RowsW w.heap.size wr (.slice a1 (nmT L S k m).length c1) (nmT L S k N) from by
            rw [← hme]
            exact ⟨⟨_, _, rfl⟩, fun hp => (HD.out.rows hp (by have := nmT_few (L := L) (S := S) k m; omega)).low (by omega)⟩)
          clear hme hml hmi
          have hmi : ¬ (m : Int) < (N : Int) := hmi'
          go_wp2
          go_ret
          exact ⟨_, rfl, HR.out, HX0.out.trans HD.out.x⟩
        case pos =>
          have hmi : (m : Int) < (N : Int) := by omega
          have hsc := HD.out.seen.cell hml
          cases hsm : sB m with
          | true =>
            rw [hsm] at hsc
            have hsn := (HS.out m hml).1 hsm
            have HSK := Lib.hid (fun i => seen_skip (i := i) HO.out hsn)
            have HNO := Lib.hid (nmT_out (L := L) (S := S) (k := k) (m := m) ((seen_iff HO.out (by rw [HNE.out]; exact hml)).1 hsn))
            clear hsm hsn
            go_wp2_with fail
            go_roundw
            case rel => exact ⟨m + 1, xs, sB, by omega, by go_num, fun i hi => by rw [HSK.out i]; exact HS.out i hi, by rw [HNO.out]; exact HD.out⟩
            case measure => simp [intOf]; omega
          | false =>
            rw [hsm] at hsc
            have hsn : ¬ SeenTo L S k m m := fun q => by have := (HS.out m hml).2 q; rw [hsm] at this; cases this
            have HNI := Lib.hid (nmT_in (L := L) (S := S) (k := k) (m := m) (Classical.byContradiction fun q => hsn ((seen_iff HO.out (by rw [HNE.out]; exact hml)).2 q)))
            have HOK := Lib.hid (tupL_ok (n := L.length) h1 k m)
            have HFW := Lib.hid (clS_few HO.out HOK.out)
            clear hsm hsn
            have hmw := HMW.out
            have hr3 := World.rowIs_made wr (.int .i64 0) k 2
            have hx03 : Ext wr (wr.alloc (.cells (madeCells #[Value.int .i64 0] k) 2)) := (Ext.refl _).alloc _
            obtain ⟨wk, rfl⟩ : ∃ z : World, z = wr := ⟨_, rfl⟩
            go_wp2_with fail
            clear hmw
            go_loopw [12, 13] (fun vq vi wr => ∃ (c q : Nat) (f : Nat → Int), c ≤ k ∧ q ≤ 1000000 ∧ vq = .int .i64 q ∧ vi = .int .i64 ((c : Int) - 1) ∧ wr.rowIs wk.heap.size 2 k (fun i => .int .i64 (f i)) ∧ tupL L.length c q ++ restF c k f = tupL L.length k m ∧ Ext wk wr) (fun _ vi _ => (intOf vi + 1).toNat)
            case atStart => exact ⟨k, m, fun _ => 0, Nat.le_refl _, by omega, rfl, rfl, hr3, by rw [restF_all, List.append_nil], hx03⟩
            case round =>
              clear hx03 hr3
              obtain ⟨c, q, f, hc, hq, rfl, rfl, hrow, ht, hx3⟩ := hrel
              have HT := Lib.hid ht
              clear ht
              by_cases hc0 : 0 < c
              case pos =>
                obtain ⟨d, rfl⟩ : ∃ d, c = d + 1 := ⟨c - 1, by omega⟩
                have hdi : ((d + 1 : Nat) : Int) - 1 = (d : Int) := by omega
                rw [hdi]
                have hge : (0 : Int) ≤ (d : Int) := by omega
                have hdk : d < k := by omega
                have hdki : (d : Int) < (k : Int) := by omega
                have e1 : (q : Int).tmod (L.length : Int) = ((q % L.length : Nat) : Int) := by rw [Int.tmod_eq_emod_of_nonneg (by omega)]; push_cast; rfl
                have e2 : (q : Int) % (L.length : Int) = ((q % L.length : Nat) : Int) := by push_cast; rfl
                have e3 : (q : Int).tdiv (L.length : Int) = ((q / L.length : Nat) : Int) := by rw [Int.tdiv_eq_ediv_of_nonneg (by omega)]; push_cast; rfl
                have e4 : (q : Int) / (L.length : Int) = ((q / L.length : Nat) : Int) := by push_cast; rfl
                have hq2 : q / L.length ≤ 1000000 := Nat.le_trans (Nat.div_le_self _ _) hq
                have hq3 : q % L.length ≤ 1000000 := Nat.le_trans (Nat.mod_le _ _) hq
                have HST := Lib.hid (tup_step (n := L.length) (q := q) (f := f) hdk)
                obtain ⟨r, hr⟩ : ∃ r, r = q % L.length := ⟨_, rfl⟩
                obtain ⟨s, hs⟩ : ∃ s, s = q / L.length := ⟨_, rfl⟩
                rw [← hr] at e1 e2 hq3 HST
                rw [← hs] at e3 e4 hq2 HST
                have hw1 : IntKind.i64.wrap (r : Int) = (r : Int) := IntWalk.i64_in _ (by omega)
                have hw2 : IntKind.i64.wrap (s : Int) = (s : Int) := IntWalk.i64_in _ (by omega)
                have c1 := hrow.cell hdk
                have c2 := hrow.frozen d
                clear hr hs
                go_wp2_with fail
                go_roundw
                case rel => exact ⟨d, s, _, by omega, hq2, rfl, by first | rfl | go_num, (hrow.set d _).congr (g := fun i => .int .i64 (if i = d then (r : Int) else f i)) (fun i hi => by by_cases e : i = d <;> simp [e]), by rw [HST.out]; exact HT.out, hx3.setNew (Nat.le_refl _) _⟩
                case measure => simp [intOf] <;> omega
              case neg =>
                have hce : c = 0 := by omega
                subst hce
                have hge : ¬ (0 : Int) ≤ ((0 : Nat) : Int) - 1 := by omega
                have hml2 := HT.out
                rw [restF_zero] at hml2
                simp only [tupL, List.nil_append] at hml2
                have hrk := rk_of_row hrow hml2 (by omega) (Nat.le_refl _)
                obtain ⟨bt, hbte⟩ : ∃ bt, bt = wk.heap.size := ⟨_, rfl⟩
                rw [← hbte] at hrk ⊢
                have hbw : wk.heap.size ≤ bt := by omega
                obtain ⟨w3, rfl⟩ : ∃ z : World, z = wr := ⟨_, rfl⟩
                clear hml2 HT hc0 hrow hbte
                have HD3 := Lib.hid (HD.out.ext hx3)
                have hbt : bt ≠ w.heap.size + 1 := by
                  obtain ⟨-, b', c', e', -, h6, -⟩ := id hrk
                  simp only [Value.slice.injEq, Option.some.injEq, Addr.mk.injEq, and_true] at e'
                  have := HD.out.seen.lt
                  omega
                have hbt2 : (Value.slice a1 (nmT L S k m).length c1).ownBlock ≠ some bt := fun e => by
                  have := (HD.out.li.lt bt e).2
                  obtain ⟨-, b', c', e', -, h6, -⟩ := id hrk
                  simp only [Value.slice.injEq, Option.some.injEq, Addr.mk.injEq, and_true] at e'
                  omega
                have HXB := Lib.hid (ext_box w3 (.slice (some ⟨bt, 0, none⟩) k k) 27)
                have HRK := Lib.hid (show RK (w.heap.size + 1) (fun b => (Value.slice a1 (nmT L S k m).length c1).ownBlock = some b ∨ b = w.heap.size + 1) (w3.alloc (.cells #[.slice (some ⟨bt, 0, none⟩) k k] 27)) (.slice (some ⟨bt, 0, none⟩) k k) (tupL L.length k m) from by
                  obtain ⟨h2, b', c', e', h3, h4, h6, -, h7⟩ := id hrk
                  simp only [Value.slice.injEq, Option.some.injEq, Addr.mk.injEq, and_true] at e'
                  obtain ⟨rfl, e2, rfl⟩ := e'
                  have hlo := HD.out.l2
                  refine ⟨h2, bt, k, by rw [length_tupL], by rw [length_tupL]; exact Nat.le_refl _, by omega, by simp; omega, ?_, h7.ext (ext_box _ _ _)⟩
                  rintro (q | q)
                  · exact hbt2 q
                  · exact hbt q)
                have HIT := Lib.hid hrk.ints
                have HOWN := Lib.hid (ownsRow_ext HD3.out.li.own HXB.out)
                have hzb : w.heap.size + 1 ≤ (w3.alloc (.cells #[.slice (some ⟨bt, 0, none⟩) k k] 27)).heap.size := by have := HD3.out.l2; simp; omega
                have hnf := nmT_few (L := L) (S := S) k m
                clear hrk hx3 hbt hbt2 HD
                go_wp2_with (at_builtin; refine wpList_append_one rfl _ _ 24 27 rfl Tryz.underlying24 infoSl (w.heap.size + 1) _ _ xs rfl HOWN.out _ _ (show Value.oneCell' (.slice _ _ _) = true from rfl) rfl (cell_new _ _ _) (by omega) hzb ?_)
                intro v' w4 hown4 hgr4 hv4 hbl4
                have HD4 := Lib.hid (show NrmD 27 (w.heap.size + 1) (w.heap.size + 1) 4 N w1 w4 v' _ sB (nmT L S k (m + 1)) from by
                  rw [HNI.out]
                  exact (HD3.out.ext HXB.out).app HRK.out hown4 hgr4 (hbl4.imp id (fun e => e.trans (by simp))))
                have HI4 := Lib.hid (HRK.out.grownOpt (ob' := v'.ownBlock) hgr4 (hbl4.imp id (fun e => e.trans (by simp)))).ints
                have HX4 := Lib.hid HD4.out.x
                have k4 := HX4.out.cell k0
                have k5 := HX4.out.cell k1
                obtain ⟨a4, c4, rfl⟩ : ∃ a c, v' = .slice a (nmT L S k (m + 1)).length c := HD4.out.shape
                clear hown4 hgr4 hv4 hbl4 HRK HOWN HXB HD3 HIT hzb
                go_wp2_with fail
                refine (l09Class_S L S (tupL L.length k m) 5000 _ _ _ _ (HV.out.ext HX4.out) (HY.out.ext HX4.out) HI4.out HO.out HOK.out (by rw [length_tupL]; omega) (by omega) (by omega)).mono ?_
                rintro e w5 ⟨hcl, hx5⟩
                have hfw := HFW.out
                rw [length_tupL, HNE.out] at hfw
                rcases hcl with ⟨-, vc, rfl, hkc⟩ | ⟨hbig, -⟩
                case inr => omega
                obtain ⟨-, gc, cc, rfl, -, hgc, -⟩ := id hkc
                have HK := Lib.hid hkc
                have HD5 := Lib.hid (HD4.out.ext hx5)
                have hg5 := HD4.out.seen.lt
                have HCW := Lib.hid (fun t (ht : t < (clS L S (tupL L.length k m)).length) => clS_word HO.out HOK.out (clS_row HO.out HOK.out ht))
                have HIC := Lib.hid (fun i (hi : i < N) => in_cls (L := L) (S := S) (k := k) (m := m) (i := i) HO.out (by rw [HNE.out]; exact hi))
                obtain ⟨cls, hcls⟩ : ∃ q, q = clS L S (tupL L.length k m) := ⟨_, rfl⟩
                rw [← hcls] at HK HCW HIC hfw ⊢
                have HCL := Lib.hid hcls
                clear hcls hkc hx5 HD4 HI4 HX4 k4 k5
                go_wp2_with fail
                go_loopw [16] (fun vi wr => ∃ (t : Nat) (sB : Nat → Bool), t ≤ cls.length ∧ vi = .int .i64 t ∧ (∀ i, i < N → (sB i = true ↔ SeenTo L S k m i ∨ ∃ a, a < t ∧ wnL L.length (row cls a) = i)) ∧ NrmD 27 (w.heap.size + 1) (w.heap.size + 1) 4 N w1 wr (.slice a4 (nmT L S k (m + 1)).length c4) (xs ++ [.slice (some ⟨bt, 0, none⟩) k k]) sB (nmT L S k (m + 1)) ∧ Touch (w.heap.size + 1) (w.heap.size + 1 + 1) w5 wr) (fun vi _ => cls.length - (intOf vi).toNat)
                case atStart => exact ⟨0, sB, Nat.zero_le _, rfl, fun i hi => ⟨fun q => .inl ((HS.out i hi).1 q), fun q => (HS.out i hi).2 (q.elim id (fun ⟨a, ha, _⟩ => absurd ha (Nat.not_lt_zero _)))⟩, HD5.out, Touch.of_ext (Ext.refl _)⟩
                case round =>
                  clear HS HD5
                  obtain ⟨t, sB, ht, rfl, hs, hd, hT⟩ := hrel
                  have HS := Lib.hid hs
                  have HD := Lib.hid hd
                  have HT := Lib.hid hT
                  clear hs hd hT
                  by_cases htl : t < cls.length
                  case neg =>
                    have hte : t = cls.length := by omega
                    have hti : ¬ (t : Int) < (cls.length : Int) := by omega
                    have HS2 := Lib.hid (show ∀ i, i < N → (sB i = true ↔ SeenTo L S k (m + 1) i) from fun i hi => by
                      rw [HS.out i hi, seen_succ, ← HCL.out, HIC.out i hi, hte])
                    clear hte htl
                    go_wp2
                    go_roundw
                    case rel => exact ⟨m + 1, _, sB, by omega, by go_num, HS2.out, HD.out⟩
                    case measure => simp [intOf]; omega
                  case pos =>
                    have hti : (t : Int) < (cls.length : Int) := by omega
                    obtain ⟨br, dr, r1, -, hbr, -, i1, n1⟩ := HK.out.get htl
                    have hg6 : w.heap.size + 1 < gc := by omega
                    have r2 := HT.out.cell r1 (by simp only []; omega)
                    have HI := Lib.hid ((show IntsAt wr br 0 (row cls t) from fun j hj => HT.out.cell (i1 j hj) (by simp only []; omega)).ints n1 dr)
                    obtain ⟨w6, w7⟩ := HCW.out t htl
                    rw [length_tupL] at w7
                    have HW6 := Lib.hid w6
                    have HLN := Lib.hid (show L.length ^ (row cls t).length ≤ 100000 by rw [w7, HNE.out]; omega)
                    have hnl : wnL L.length (row cls t) < N := by have := num_lt w6 w7; rwa [HNE.out] at this
                    clear r1 i1 w6 w7
                    obtain ⟨-, bI, oI, cI, eI, hcI⟩ := id HI.out
                    simp only [Value.slice.injEq, Option.some.injEq, Addr.mk.injEq, and_true, true_and] at eI
                    obtain ⟨⟨rfl, rfl⟩, rfl⟩ := eI
                    have HCI := Lib.hid hcI
                    have HBD := Lib.hid (fun t' => wnL_bd (B := 100000) h1 HW6.out HLN.out t')
                    have R2 := Lib.hid r2
                    clear hcI
                    go_wp2_with fail
                    go_loop [17, 18] (fun vq vi => ∃ t' : Nat, t' ≤ (row cls t).length ∧ vi = .int .i64 t' ∧ vq = .int .i64 (wnL L.length ((row cls t).take t'))) (fun _ vi => (row cls t).length - (intOf vi).toNat)
                    case atStart => exact ⟨0, Nat.zero_le _, rfl, rfl⟩
                    case round =>
                      obtain ⟨t', ht', rfl, rfl⟩ := hrel
                      have r2 := R2.out
                      by_cases htl' : t' < (row cls t).length
                      case pos =>
                        have hti' : (t' : Int) < ((row cls t).length : Int) := by omega
                        have e1 := HCI.out t' htl'
                        rw [Nat.zero_add] at e1
                        have hx := HW6.out.nat htl'
                        have HE := Lib.hid (wnL_take (n := L.length) htl')
                        have hb2 := HBD.out (t' + 1)
                        have hb1 := HBD.out t'
                        rw [HE.out] at hb2
                        obtain ⟨z, hz⟩ : ∃ z, z = (ix (row cls t) t').toNat := ⟨_, rfl⟩
                        rw [← hz] at hx hb2 HE
                        rw [hx.1] at e1
                        obtain ⟨q, hq⟩ : ∃ q, q = wnL L.length ((row cls t).take t') := ⟨_, rfl⟩
                        rw [← hq] at hb1 hb2 HE ⊢
                        obtain ⟨mm, hm'⟩ : ∃ mm, mm = q * L.length := ⟨_, rfl⟩
                        rw [← hm'] at hb2 HE
                        have hmi' : (q : Int) * (L.length : Int) = (mm : Int) := by rw [hm']; push_cast; rfl
                        have hw1 : IntKind.i64.wrap ((q : Int) * (L.length : Int)) = (mm : Int) := by rw [hmi']; exact IntWalk.i64_in _ (by omega)
                        have hw2 : IntKind.i64.wrap ((mm : Int) + (z : Int)) = (mm : Int) + (z : Int) := IntWalk.i64_in _ (by omega)
                        clear hx hz hq hm'
                        go_wp2
                        go_round
                        case rel => exact ⟨t' + 1, by omega, by go_num, by rw [HE.out]; push_cast; first | rfl | (rw [hmi'])⟩
                        case measure => simp [intOf]; omega
                      case neg =>
                        have htt : t' = (row cls t).length := by omega
                        have hti' : ¬ (t' : Int) < ((row cls t).length : Int) := by omega
                        rw [show wnL L.length ((row cls t).take t') = wnL L.length (row cls t) by rw [htt, List.take_length]]
                        clear htt htl' ht'
                        obtain ⟨z, hz⟩ : ∃ z, z = wnL L.length (row cls t) := ⟨_, rfl⟩
                        rw [← hz] at hnl ⊢
                        have hzi : (z : Int) < (N : Int) := by omega
                        have c1 := HD.out.seen.cell hnl
                        have c2 := HD.out.seen.frozen z
                        have HS3 := Lib.hid (show ∀ i, i < N → ((fun j => if j = z then true else sB j) i = true ↔ SeenTo L S k m i ∨ ∃ a, a < t + 1 ∧ wnL L.length (row cls a) = i) from fun i hi => by
                          by_cases e : i = z
                          · simp only [if_pos e, true_iff]
                            exact .inr ⟨t, by omega, by rw [← hz, e]⟩
                          · simp only [if_neg e]
                            rw [HS.out i hi]
                            constructor
                            · rintro (q | ⟨a, ha, q⟩)
                              · exact .inl q
                              · exact .inr ⟨a, by omega, q⟩
                            · rintro (q | ⟨a, ha, q⟩)
                              · exact .inl q
                              · rcases Nat.lt_succ_iff_lt_or_eq.1 ha with g | g
                                · exact .inr ⟨a, g, q⟩
                                · exact absurd (by rw [← q, g, hz]) e)
                        have HD3 := Lib.hid (HD.out.mark z)
                        have HT3 := Lib.hid (touch_set1 (i := z) HT.out (.bool true))
                        clear hz HI HW6 HLN
                        go_wp2_with fail
                        go_roundw
                        case rel => exact ⟨t + 1, _, by omega, by go_num, HS3.out, HD3.out, HT3.out⟩
                        case measure => simp [intOf]; omega
end Go.Proofs.YtjfjpngajboidaaGreat


namespace Go.Proofs.YtjfjpngajboidaaGreat
set_option linter.unusedVariables false
set_option linter.unusedSimpArgs false
open Go.RowKit
attribute [local go_sem ↓] Go.wp_at_zero Go.wp_at_succ
open Go.Deep

set_option maxRecDepth 100000 in
set_option maxHeartbeats 8000000 in
theorem CommonMultiple_any (L S : List (List Int)) (x y : Int) (v z : Value) (w : World) (hv : Rows w v L) (hy : Rows w z S) :
    Calls Tryz.prog 24 #[.agg #[v, z], .int .i64 x, .int .i64 y] w (RetWI (cmC L S x y) (cmV L S x y) w) := by
  obtain ⟨-, b, o, c, rfl, -⟩ := id hv
  obtain ⟨-, b2, o2, c2, rfl, -⟩ := id hy
  have hx0 : Ext w (w.alloc (.cells #[.slice (some ⟨b, o, none⟩) L.length c, .slice (some ⟨b2, o2, none⟩) S.length c2] 26)) := (Ext.refl _).alloc _
  have k0 := cell_new2a w (.slice (some ⟨b, o, none⟩) L.length c) (.slice (some ⟨b2, o2, none⟩) S.length c2) 26
  have k1 := cell_new2b w (.slice (some ⟨b, o, none⟩) L.length c) (.slice (some ⟨b2, o2, none⟩) S.length c2) 26
  have HV := Lib.hid (hv.ext hx0)
  have HY := Lib.hid (hy.ext hx0)
  have HX0 := Lib.hid hx0
  clear hv hy hx0
  go_enter Tryz.func24, Tryz.ntmps24
  go_wp2_with fail
  generalize (w.alloc (.cells #[.slice (some ⟨b, o, none⟩) L.length c, .slice (some ⟨b2, o2, none⟩) S.length c2] 26)) = w1 at *
  refine (l02Is_any L S _ _ _ HV.out HY.out).mono ?_
  rintro e w2 ⟨rfl, hx2⟩
  have k0 := hx2.cell k0
  have k1 := hx2.cell k1
  cases hs : solB L S with
  | false =>
    have HQ := Lib.hid (cmC_1 (x := x) (y := y) hs)
    go_wp2
    go_ret2
    exact retWI_bad HQ.out (by decide) (HX0.out.trans hx2)
  | true =>
    have HO := Lib.hid (solB_iff.1 hs)
    have HSB := Lib.hid hs
    have HX2 := Lib.hid hx2
    have h1 := HO.out.l.1
    have h12 := HO.out.l.2.1
    clear hx2 hs
    go_wp2_with fail
    refine (l01In_any x 0 ((L.length : Int) - 1) _).mono ?_
    rintro e w3 ⟨rfl, rfl⟩
    cases hi1 : inR x 0 ((L.length : Int) - 1) with
    | false =>
      have HQ := Lib.hid (cmC_2 (x := x) (y := y) HSB.out (by rw [hi1]; rfl))
      go_wp2
      go_ret2
      exact retWI_bad HQ.out (by decide) (HX0.out.trans HX2.out)
    | true =>
      go_wp2_with fail
      refine (l01In_any y 0 ((L.length : Int) - 1) _).mono ?_
      rintro e w3 ⟨rfl, rfl⟩
      cases hi2 : inR y 0 ((L.length : Int) - 1) with
      | false =>
        have HQ := Lib.hid (cmC_2 (x := x) (y := y) HSB.out (by rw [hi1, hi2]; rfl))
        go_wp2
        go_ret2
        exact retWI_bad HQ.out (by decide) (HX0.out.trans HX2.out)
      | true =>
        by_cases hxy : x = y
        case pos =>
          have HQ := Lib.hid (cmC_2 (x := x) (y := y) HSB.out (by rw [hi1, hi2, decide_eq_true hxy]; rfl))
          have hxb : (x == y) = true := by simp [hxy]
          clear hxy
          go_wp2
          go_ret2
          exact retWI_bad HQ.out (by decide) (HX0.out.trans HX2.out)
        case neg =>
          have HKK := Lib.hid (show (inR x 0 ((L.length : Int) - 1) && inR y 0 ((L.length : Int) - 1) && !decide (x = y)) = true by rw [hi1, hi2, decide_eq_false hxy]; rfl)
          have hxb : (x == y) = false := by simp [hxy]
          rw [inR_iff] at hi1 hi2
          obtain ⟨a, rfl⟩ := Int.eq_ofNat_of_zero_le hi1.1
          obtain ⟨d, rfl⟩ := Int.eq_ofNat_of_zero_le hi2.1
          have hal : a < L.length := by omega
          have hdl : d < L.length := by omega
          have had : a ≠ d := by omega
          clear hi1 hi2 hxy
          go_wp2_with fail
          refine (l02Good_any L S _ _ _ (HV.out.ext HX2.out) (HY.out.ext HX2.out) HO.out.pair).mono ?_
          rintro e w4 ⟨rfl, hx4⟩
          have HX4 := Lib.hid (HX2.out.trans hx4)
          have k6 := hx4.cell k0
          have k7 := hx4.cell k1
          clear hx4 hxb
          cases hg : goodB L S with
          | false =>
            have HQ := Lib.hid (cmC_5 HSB.out HKK.out (by rw [ndiB_def, hg]; rfl))
            go_wp2
            go_ret2
            exact retWI_bad HQ.out (by decide) (HX0.out.trans HX4.out)
          | true =>
            go_wp2_with fail
            refine (l02Twice_any L S _ _ _ (HV.out.ext HX4.out) (HY.out.ext HX4.out) HO.out.pair).mono ?_
            rintro e w5 ⟨rfl, hx5⟩
            have HX5 := Lib.hid (HX4.out.trans hx5)
            have p6 := hx5.cell k6
            have p7 := hx5.cell k7
            clear hx5
            cases hi : invB L.length (mulN L) (mulN S) with
            | false =>
              have HQ := Lib.hid (cmC_5 HSB.out HKK.out (by rw [ndiB_def, hg, hi]; rfl))
              go_wp2
              go_ret2
              exact retWI_bad HQ.out (by decide) (HX0.out.trans HX5.out)
            | true =>
              have HND := Lib.hid (show ndiB L S = true by rw [ndiB_def, hg, hi]; rfl)
              have HC0 := Lib.hid (cmC_0 HSB.out HKK.out HND.out)
              obtain ⟨u, hu, e1, e2, e3⟩ := cm_letter HO.out HND.out hal hdl
              have HCV := Lib.hid (show cmV L S (a : Int) (d : Int) = nfS L S (wd2 a u) from by unfold cmV; rw [Int.toNat_natCast, e1, Int.toNat_natCast])
              have HOK := Lib.hid (wd2_ok hal hu)
              have HFW := Lib.hid (show (clS L S (wd2 a u)).length ≤ 144 from by
                have h2 := clS_few HO.out HOK.out
                have h3 : L.length * L.length ≤ 12 * 12 := Nat.mul_le_mul h12 h12
                simp [wd2, Nat.pow_succ] at h2
                unfold wd2
                omega)
              have HE1 := Lib.hid e1
              have HHL := Lib.hid (HV.out.ext HX5.out)
              obtain ⟨-, b', o', c', eb, hc'⟩ := id (HV.out.ext HX5.out)
              simp only [Value.slice.injEq, Option.some.injEq, Addr.mk.injEq, and_true, true_and] at eb
              obtain ⟨⟨rfl, rfl⟩, rfl⟩ := eb
              obtain ⟨r, r1, ri⟩ := hc' a hal
              have HRI := Lib.hid ri
              obtain ⟨-, b6, o6, c6, rfl, -⟩ := id ri
              have hali : (a : Int) < (L.length : Int) := by omega
              clear hg hi e1 e2 e3 k0 k1 k6 k7 hc' ri
              go_wp2_with fail
              refine (l01Index_any (row L a) _ (d : Int) _ HRI.out).mono ?_
              rintro e w6 ⟨rfl, rfl⟩
              rw [HE1.out]
              have hxb2 := (Ext.refl w5).alloc (.cells #[.int .i64 (a : Int), .int .i64 (u : Int)] 2)
              have HI := Lib.hid (ints_two (w := w5) (a : Int) (u : Int) 2 rfl)
              have HX6 := Lib.hid (HX5.out.trans hxb2)
              have q6 := hxb2.cell p6
              have q7 := hxb2.cell p7
              clear hxb2 r1
              go_wp2_with fail
              refine (l09Class_S L S (wd2 a u) 1000 _ _ _ _ (HV.out.ext HX6.out) (HY.out.ext HX6.out) HI.out HO.out HOK.out (by simp [wd2]) (by omega) (by omega)).mono ?_
              rintro e w7 ⟨hcl7, hx7⟩
              have hfw := HFW.out
              rcases hcl7 with ⟨-, vc, rfl, hkc⟩ | ⟨hbig, -⟩
              case inr => omega
              have HX7 := Lib.hid (HX6.out.trans hx7)
              have HPOS := Lib.hid (clS_pos HO.out HOK.out)
              obtain ⟨-, gc, cc, rfl, -⟩ := id hkc
              obtain ⟨b9, d9, s1, -, -, -, s2, s3⟩ := hkc.get HPOS.out
              have hn0 := nfS_row HO.out HOK.out
              have hcv := HCV.out
              rw [hn0] at hcv
              have HF := Lib.hid (s2.ints s3 d9)
              have HCV2 := Lib.hid hcv
              have hp0 : (0 : Int) < ((clS L S (wd2 a u)).length : Int) := by have := HPOS.out; omega
              clear hn0 hcv s2 s3 hkc q6 q7
              go_wp2
              go_ret2
              exact ⟨_, by rw [HC0.out]; rfl, fun _ => by rw [HCV2.out]; exact HF.out, fun q => absurd HC0.out q, HX0.out.trans HX7.out⟩
end Go.Proofs.YtjfjpngajboidaaGreat
