/-
  Draws of the reference: l05Any, l05Draw.
-/
import Derived.Test.YtjfjpngajboidaaGreatJx26
namespace Go.Proofs.YtjfjpngajboidaaGreat
set_option linter.unusedVariables false
set_option linter.unusedSimpArgs false
open Go.RowKit
attribute [local go_sem ↓] Go.wp_at_zero Go.wp_at_succ
open Go.Deep

def DrawC (S most : Nat) (w : World) (e : Ending) (w' : World) : Prop := ∃ v T, e = .returned (.agg #[v]) ∧ TabF w.heap.size w' v T ∧ 1 ≤ T.length ∧ T.length ≤ most ∧ (∀ x, x < T.length → IsoOk T.length [] [] (row T x)) ∧ Src S w' ∧ Touch S (S + 1) w w'
theorem drawC_end {S B lo most : Nat} {w w2 : World} {v v0 : Value} {T : List (List Int)} (hB : w.heap.size = B) (hlo : B < lo) (hT : TabF lo w2 v T) (h1 : 1 ≤ T.length) (hm : T.length ≤ most) (hp : ∀ x, x < T.length → IsoOk T.length [] [] (row T x)) (hs : Src S w2) (hS : S < B) (ht : Touch S (S + 1) w w2) :
    DrawC S most w (.returned (.agg #[v])) (w2.setCell ⟨B, 0, none⟩ v0) := by
  subst hB
  exact ⟨v, T, rfl, (hT.setOut (p := ⟨w.heap.size, 0, none⟩) hlo v0).low (by omega), h1, hm, hp, src_setCell hs (p := ⟨w.heap.size, 0, none⟩) hS v0, touch_setIn ht (p := ⟨w.heap.size, 0, none⟩) (Nat.le_refl _) v0⟩
theorem good_rows {L S : List (List Int)} (hP : PairOk L S) (h : goodB L S = true) : ∀ x, x < L.length → IsoOk L.length [] [] (row L x) := fun x hx => by
  rw [goodB_def, Bool.and_eq_true] at h
  exact isoOk_plain.2 ⟨hP.rowL hx, permRowsB_iff.1 h.1 x hx⟩

theorem flip_rows {n : Nat} {L : List (List Int)} (hl : L.length = n) (h : L = twA (idL n) n) : ∀ x, x < n → IsoOk n [] [] (row L x) := fun x hx => by
  rw [h, row_twA hx]
  exact idL_perm n

set_option maxRecDepth 100000 in
set_option maxHeartbeats 8000000 in
theorem l05Any_any (S most : Nat) (w : World) (hs : Src S w) (h1 : 1 ≤ most) (h12 : most ≤ 12) :
    Calls Tryz.prog 79 #[.pointer (some ⟨S, 0, none⟩), .int .i64 most] w (DrawC S most w) := by
  have hlt := hs.lt
  have hx0 : Ext w (w.alloc (.cells #[.slice none 0 0] 71)) := (Ext.refl _).alloc _
  have HR0 := Lib.hid (BoxOne.new w (.slice none 0 0) 71)
  have HS0 := Lib.hid (hs.ext hx0)
  have HT0 := Lib.hid (touch_ext (S := S) (Touch.of_ext (Ext.refl w)) hx0)
  have hz0 : w.heap.size < (w.alloc (.cells #[.slice none 0 0] 71)).heap.size := by simp
  clear hs hx0
  go_enter Tryz.func79, Tryz.ntmps79
  go_wp2_with fail
  generalize (w.alloc (.cells #[.slice none 0 0] 71)) = w0 at *
  refine (l01Next_nat S most w0 HS0.out h1).mono ?_
  rintro e w1 ⟨q, hq, rfl, hs1, hT1⟩
  have HT1 := Lib.hid (HT0.out.trans hT1)
  have HR1 := Lib.hid (HR0.out.touch hT1 (by omega))
  have hz1 := hT1.size
  clear hT1 HT0 HR0 HS0
  obtain ⟨n, hn⟩ : ∃ n, n = 1 + q := ⟨_, rfl⟩
  have hn1 : 1 ≤ n := by omega
  have hnm : n ≤ most := by omega
  have hni : (1 : Int) + (q : Int) = (n : Int) := by omega
  clear hn hq
  go_wp2_with fail
  refine (l01Next_any S 3 w1 hs1).mono ?_
  rintro e w2 ⟨k3, rfl, -, -, -, hs2, hT2⟩
  have HT2 := Lib.hid (HT1.out.trans hT2)
  have HR2 := Lib.hid (HR1.out.touch hT2 (by omega))
  have HS2 := Lib.hid hs2
  have hz2 := hT2.size
  clear hT2 HT1 HR1 hs1 hs2 hni
  have hwz : w0.heap.size ≤ w2.heap.size := by omega
  clear hz1 hz2
  go_upto_if 16 with fail
  go_cut [] (fun wx => Src S wx ∧ Touch S (S + 1) w wx ∧ BoxOne w.heap.size wx (.slice none 0 0) ∧ w0.heap.size ≤ wx.heap.size)
  case first =>
    by_cases hk0 : k3 = 0
    case neg =>
      go_wp2
      go_meet
      case rel => exact ⟨HS2.out, HT2.out, HR2.out, hwz⟩
    case pos =>
      subst hk0
      rw [show ((0 : Int) == 0) = true from rfl]
      go_wp2_with fail
      go_loopw [6] (fun i wr => ∃ k : Nat, k ≤ 30 ∧ i = .int .i64 k ∧ Src S wr ∧ Touch S (S + 1) w wr ∧ BoxOne w.heap.size wr (.slice none 0 0) ∧ w0.heap.size ≤ wr.heap.size) (fun i _ => 30 - (intOf i).toNat)
      case atStart => exact ⟨0, Nat.zero_le _, rfl, HS2.out, HT2.out, HR2.out, hwz⟩
      case round =>
        clear HS2 HT2 HR2 hwz
        obtain ⟨k, hk, rfl, hs, ht, hr, hz⟩ := hrel
        have HS := Lib.hid hs
        have HT := Lib.hid ht
        have HR := Lib.hid hr
        clear hs ht hr
        by_cases hkl : k < 30
        case neg =>
          have hki : ¬ (k : Int) < 30 := by omega
          go_wp2
          go_meet
          case rel => exact ⟨HS.out, HT.out, HR.out, hz⟩
        case pos =>
          have hki : (k : Int) < 30 := by omega
          go_wp2_with fail
          refine (l01Next_nat S n _ HS.out hn1).mono ?_
          rintro e w3 ⟨a, ha, rfl, hs3, hT3⟩
          go_wp2_with fail
          refine (l01Next_nat S n _ hs3 hn1).mono ?_
          rintro e w4 ⟨b, hb, rfl, hs4, hT4⟩
          go_wp2_with fail
          refine (l01Next_nat S n _ hs4 hn1).mono ?_
          rintro e w5 ⟨c, hc, rfl, hs5, hT5⟩
          have hT5 := (hT3.trans hT4).trans hT5
          have HR5 := Lib.hid (HR.out.touch hT5 (by omega))
          have HT5 := Lib.hid (HT.out.trans hT5)
          have hz5 := hT5.size
          go_wp2_with fail
          refine (l05Affine_any n a b c w5 hn1 (by omega)).mono ?_
          rintro e w6 ⟨v6, T, rfl, ht6, hl6, hr6, hx6⟩
          obtain ⟨ht60, d1, d2, rfl, hd1, hd1', -⟩ := id ht6
          have hxb : Ext w6 (w6.alloc (.cells #[.slice (some ⟨d1, 0, none⟩) T.length d2] 71)) := (Ext.refl _).alloc _
          have HB6 := Lib.hid (BoxOne.new w6 (.slice (some ⟨d1, 0, none⟩) T.length d2) 71)
          have hx67 := hx6.trans hxb
          have HT6 := Lib.hid (touch_ext HT5.out hx67)
          have HR6 := Lib.hid (HR5.out.ext hx67)
          have HS6 := Lib.hid (hs5.ext hx67)
          have HA6 := Lib.hid (ht6.ext hxb)
          have HL6 := Lib.hid hl6
          have hz6 := hx67.size
          clear hs3 hs4 hs5 hT3 hT4 hT5 hx67 hx6 hxb ht6 hl6 HT HR HS HR5 HT5 ht60
          go_wp2_with fail
          generalize (w6.alloc (.cells #[.slice (some ⟨d1, 0, none⟩) T.length d2] 71)) = w7 at *
          have m0 := HB6.out.2.1
          go_wp2_with fail
          refine (l05Is_any T _ _ HA6.out.rows).mono ?_
          rintro e w8 ⟨B, rfl, hB, hx8⟩
          have HT8 := Lib.hid (touch_ext HT6.out hx8)
          have HR8 := Lib.hid (HR6.out.ext hx8)
          have HS8 := Lib.hid (HS6.out.ext hx8)
          have HA8 := Lib.hid (HA6.out.ext hx8)
          have m8 := hx8.cell m0
          have hz8 := hx8.size
          have HBB := Lib.hid hB
          clear HT6 HR6 HS6 HA6 hx8 hB m0
          cases B with
          | true =>
            obtain ⟨-, q0, q1⟩ := HR8.out
            obtain ⟨-, hpp⟩ := HBB.out rfl
            have HPP := Lib.hid hpp
            clear hpp
            go_wp2
            exact bodyPost_ret (v := .agg #[.slice (some ⟨d1, 0, none⟩) T.length d2]) (by simp [results, Tryz.results79, go_sem, q0]) rfl (drawC_end (lo := w5.heap.size) rfl (by omega) HA8.out (by rw [HL6.out]; exact hn1) (by rw [HL6.out]; exact hnm) HPP.out HS8.out hlt HT8.out)
          | false =>
            go_wp2
            go_roundw
            case rel => exact ⟨k + 1, by omega, by go_num, HS8.out, HT8.out, HR8.out, by omega⟩
            case measure => simp [intOf]; omega
  case rest =>
    clear HS2 HT2 HR2 hwz
    obtain ⟨hs, ht, hr, hz⟩ := hcut
    have HS2 := Lib.hid hs
    have HT2 := Lib.hid ht
    have HR2 := Lib.hid hr
    clear hs ht hr
    go_wp2_with fail
    go_loopw [8] (fun i wr => ∃ k : Nat, k ≤ 8 ∧ i = .int .i64 k ∧ Src S wr ∧ Touch S (S + 1) w wr ∧ BoxOne w.heap.size wr (.slice none 0 0) ∧ w0.heap.size ≤ wr.heap.size) (fun i _ => 8 - (intOf i).toNat)
    case atStart => exact ⟨0, Nat.zero_le _, rfl, HS2.out, HT2.out, HR2.out, hz⟩
    case round =>
      clear HS2 HT2 HR2 hz
      obtain ⟨k, hk, rfl, hs, ht, hr, hz⟩ := hrel
      have HS := Lib.hid hs
      have HT := Lib.hid ht
      have HR := Lib.hid hr
      clear hs ht hr
      by_cases hkl : k < 8
      case neg =>
        have hki : ¬ (k : Int) < 8 := by omega
        go_wp2_with fail
        refine (l02Flip_any n _ hn1 (by omega)).mono ?_
        rintro e w3 ⟨v3, y3, L, U, rfl, ht3, hu3, hok3, hl3, hf3, hx3⟩
        have hpp := flip_rows hl3 hf3.1
        go_wp2_with fail
        refine (l05Cycle_any n L U v3 y3 _ ht3.rows hu3.rows hn1 (by omega) hl3 hpp).mono ?_
        rintro e w4 ⟨v4, T, rfl, ht4, hl4, hp4, hx4⟩
        obtain ⟨ht40, d1, d2, rfl, hd1, hd1', -⟩ := id ht4
        have hx34 := hx3.trans hx4
        have HT8 := Lib.hid (touch_ext HT.out hx34)
        have HR8 := Lib.hid (HR.out.ext hx34)
        have HS8 := Lib.hid (HS.out.ext hx34)
        have HA8 := Lib.hid ht4
        have HP8 := Lib.hid hp4
        have HL8 := Lib.hid hl4
        have hz3 := hx3.size
        clear ht40 ht4 hp4 hl4 hx34 hx3 hx4 ht3 hu3 hok3 hl3 hf3 hpp
        obtain ⟨-, q0, q1⟩ := HR8.out
        go_wp2
        exact bodyPost_ret (v := .agg #[.slice (some ⟨d1, 0, none⟩) T.length d2]) (by simp [results, Tryz.results79, go_sem, q0]) rfl (drawC_end (lo := w3.heap.size) rfl (by omega) HA8.out (by rw [HL8.out]; exact hn1) (by rw [HL8.out]; exact hnm) HP8.out HS8.out hlt HT8.out)
      case pos =>
        have hki : (k : Int) < 8 := by omega
        go_wp2_with fail
        refine (l02Draw_any S n _ HS.out hn1 (by omega)).mono ?_
        rintro e w3 ⟨v3, y3, L, U, rfl, ht3, hu3, hok3, hq3, hs3, hT3⟩
        have hul : U.length = L.length := hok3.len
        obtain ⟨ht30, d1, d2, rfl, -, -, -⟩ := id ht3
        obtain ⟨hu30, d3, d4, rfl, -, -, -⟩ := id hu3
        have hxb : Ext w3 (w3.alloc (.cells #[.slice (some ⟨d1, 0, none⟩) L.length d2, .slice (some ⟨d3, 0, none⟩) U.length d4] 26)) := (Ext.refl _).alloc _
        have HB3 := Lib.hid (BoxV.new w3 (.slice (some ⟨d1, 0, none⟩) L.length d2) (.slice (some ⟨d3, 0, none⟩) U.length d4) 26)
        have HT4 := Lib.hid (touch_ext (HT.out.trans hT3) hxb)
        have HR4 := Lib.hid ((HR.out.touch hT3 (by omega)).ext hxb)
        have HS4 := Lib.hid (hs3.ext hxb)
        have HA4 := Lib.hid (ht3.rows.ext hxb)
        have HU4 := Lib.hid (hu3.rows.ext hxb)
        have HOK := Lib.hid hok3
        have hz4 := Nat.le_trans hT3.size hxb.size
        have hL1 := hq3.1
        have hL2 : L.length ≤ n := hq3.2
        clear ht3 hu3 hok3 hq3 hs3 hT3 HT HR HS hxb ht30 hu30 hul
        go_wp2_with fail
        generalize (w3.alloc (.cells #[.slice (some ⟨d1, 0, none⟩) L.length d2, .slice (some ⟨d3, 0, none⟩) U.length d4] 26)) = w4 at *
        obtain ⟨-, m0, m1, -, -⟩ := HB3.out
        go_wp2_with fail
        refine (l02Good_any L U _ _ _ HA4.out HU4.out HOK.out).mono ?_
        rintro e w5 ⟨rfl, hx5⟩
        have HT5 := Lib.hid (touch_ext HT4.out hx5)
        have HR5 := Lib.hid (HR4.out.ext hx5)
        have HS5 := Lib.hid (HS4.out.ext hx5)
        have HA5 := Lib.hid (HA4.out.ext hx5)
        have HU5 := Lib.hid (HU4.out.ext hx5)
        have n0 := hx5.cell m0
        have n1 := hx5.cell m1
        have hz5 := hx5.size
        clear HT4 HR4 HS4 HA4 HU4 hx5 m0 m1
        cases hg : goodB L U with
        | false =>
          go_wp2
          go_roundw
          case rel => exact ⟨k + 1, by omega, by go_num, HS5.out, HT5.out, HR5.out, by omega⟩
          case measure => simp [intOf]; omega
        | true =>
          have HG := Lib.hid (good_rows HOK.out hg)
          clear hg
          go_wp2_with fail
          refine (l02Twice_any L U _ _ _ HA5.out HU5.out HOK.out).mono ?_
          rintro e w6 ⟨rfl, hx6⟩
          obtain ⟨bt, hbt⟩ : ∃ z, z = invB L.length (mulN L) (mulN U) := ⟨_, rfl⟩
          rw [← hbt]
          clear hbt
          have HT6 := Lib.hid (touch_ext HT5.out hx6)
          have HR6 := Lib.hid (HR5.out.ext hx6)
          have HS6 := Lib.hid (HS5.out.ext hx6)
          have HA6 := Lib.hid (HA5.out.ext hx6)
          have HU6 := Lib.hid (HU5.out.ext hx6)
          have r0 := hx6.cell n0
          have r1 := hx6.cell n1
          have hz6 := hx6.size
          clear HT5 HR5 HS5 HA5 HU5 hx6 n0 n1
          cases bt with
          | false =>
            go_wp2
            go_roundw
            case rel => exact ⟨k + 1, by omega, by go_num, HS6.out, HT6.out, HR6.out, by omega⟩
            case measure => simp [intOf]; omega
          | true =>
            go_wp2_with fail
            refine (l05Cycle_any L.length L U _ _ _ HA6.out HU6.out hL1 (by omega) rfl HG.out).mono ?_
            rintro e w7 ⟨v7, T, rfl, ht7, hl7, hp7, hx7⟩
            obtain ⟨ht70, d5, d6, rfl, -, -, -⟩ := id ht7
            have HT8 := Lib.hid (touch_ext HT6.out hx7)
            have HR8 := Lib.hid (HR6.out.ext hx7)
            have HS8 := Lib.hid (HS6.out.ext hx7)
            have HA8 := Lib.hid ht7
            have HP8 := Lib.hid hp7
            have HL8 := Lib.hid hl7
            clear ht70 ht7 hp7 hl7 hx7
            obtain ⟨-, q0, q1⟩ := HR8.out
            go_wp2
            exact bodyPost_ret (v := .agg #[.slice (some ⟨d5, 0, none⟩) T.length d6]) (by simp [results, Tryz.results79, go_sem, q0]) rfl (drawC_end (lo := w6.heap.size) rfl (by omega) HA8.out (by rw [HL8.out]; exact hL1) (by rw [HL8.out]; omega) HP8.out HS8.out hlt HT8.out)

theorem ren_rows {n : Nat} {t T : List (List Int)} {p : List Int} (h : RenTo n t p n 0 T) (hp : IsoOk n [] [] p) (hl : T.length = n) (hr : ∀ i, i < n → (row T i).length = n) (ht : ∀ x, x < n → IsoOk n [] [] (row t x)) : ∀ x, x < n → IsoOk n [] [] (row T x) := fun X hX => by
  obtain ⟨x, hx, ex⟩ := hp.surj hX
  have key : ∀ Y, Y < n → ∃ y, y < n ∧ ix p y = (Y : Int) ∧ ent T X Y = ix p (ent t x y).toNat := fun Y hY => by
    obtain ⟨y, hy, ey⟩ := hp.surj hY
    refine ⟨y, hy, ey, ?_⟩
    have := h x y hy (.inl hx)
    rw [ex, ey, Int.toNat_natCast, Int.toNat_natCast] at this
    exact this
  refine isoOk_plain.2 ⟨hr X hX, fun i hi => ?_, fun i hi j hj e => ?_⟩
  · rw [hr X hX] at hi ⊢
    obtain ⟨y, hy, _, e⟩ := key i hi
    rw [ent_def, e]
    have hb := (ht x hx).bd hy
    rw [ent_def] at hb
    have := hp.bd hb.2
    omega
  · rw [hr X hX] at hi
    have hj' : j < n := by omega
    obtain ⟨y, hy, e1, e2⟩ := key i hi
    obtain ⟨y', hy', e3, e4⟩ := key j hj'
    rw [ent_def, ent_def, e2, e4] at e
    have hb := (ht x hx).bd hy
    have hb' := (ht x hx).bd hy'
    rw [ent_def] at hb hb'
    have h1 := hp.inj hb.2 hb'.2 e.symm
    have h2 : ent t x y = ent t x y' := by omega
    have h3 := (ht x hx).inj hy hy' (by rw [ent_def, ent_def]; exact h2)
    subst h3
    rw [e1] at e3
    omega

set_option maxRecDepth 100000 in
set_option maxHeartbeats 4000000 in
theorem l05Draw_any (S most : Nat) (w : World) (hs : Src S w) (h1 : 1 ≤ most) (h12 : most ≤ 12) :
    Calls Tryz.prog 44 #[.pointer (some ⟨S, 0, none⟩), .int .i64 most] w (DrawC S most w) := by
  have hlt := hs.lt
  have hx0 : Ext w (w.alloc (.cells #[.slice none 0 0] 71)) := (Ext.refl _).alloc _
  have HR0 := Lib.hid (BoxOne.new w (.slice none 0 0) 71)
  have HS0 := Lib.hid (hs.ext hx0)
  have HT0 := Lib.hid (touch_ext (S := S) (Touch.of_ext (Ext.refl w)) hx0)
  have hz0 : w.heap.size < (w.alloc (.cells #[.slice none 0 0] 71)).heap.size := by simp
  clear hs hx0
  go_enter Tryz.func44, Tryz.ntmps44
  go_wp2_with fail
  generalize (w.alloc (.cells #[.slice none 0 0] 71)) = w0 at *
  refine (l05Any_any S most w0 HS0.out h1 h12).mono ?_
  rintro e w1 ⟨v1, T, rfl, ht, hq1, hq2, hpp, hs1, hT1⟩
  obtain ⟨ht0, d1, d2, rfl, hd1, -⟩ := id ht
  have hxb : Ext w1 (w1.alloc (.cells #[.slice (some ⟨d1, 0, none⟩) T.length d2] 71)) := (Ext.refl _).alloc _
  have HB1 := Lib.hid (BoxOne.new w1 (.slice (some ⟨d1, 0, none⟩) T.length d2) 71)
  have HT1 := Lib.hid (touch_ext (HT0.out.trans hT1) hxb)
  have HR1 := Lib.hid ((HR0.out.touch hT1 (by omega)).ext hxb)
  have HA1 := Lib.hid (ht.ext hxb)
  have HS1 := Lib.hid (hs1.ext hxb)
  have HPP := Lib.hid hpp
  have hz1 := Nat.le_trans hT1.size hxb.size
  have hBz : w0.heap.size ≤ w1.heap.size := hT1.size
  clear ht hs1 hT1 hxb HT0 HR0 HS0 ht0 hd1 hpp
  go_wp2_with fail
  generalize (w1.alloc (.cells #[.slice (some ⟨d1, 0, none⟩) T.length d2] 71)) = w2 at *
  refine (l01Next_any S _ _ HS1.out).mono ?_
  rintro e w3 ⟨r, rfl, r1, r2, -, hs3, hT3⟩
  have HT3 := Lib.hid (HT1.out.trans hT3)
  have HR3 := Lib.hid (HR1.out.touch hT3 (by omega))
  have HB3 := Lib.hid (HB1.out.touch hT3 (by omega))
  have HA3 := Lib.hid (HA1.out.touch hT3 (by omega))
  have HS3 := Lib.hid hs3
  have hz3 := hT3.size
  clear hT3 hs3 HT1 HR1 HB1 HA1 HS1 r2
  obtain ⟨-, k0, -⟩ := HB3.out
  obtain ⟨-, q0, q1⟩ := HR3.out
  by_cases hr : 0 < r
  case neg =>
    go_wp2
    exact bodyPost_ret (v := .agg #[.slice (some ⟨d1, 0, none⟩) T.length d2]) (by simp [results, Tryz.results44, go_sem, q0]) rfl (drawC_end (lo := w0.heap.size) rfl hz0 HA3.out hq1 hq2 HPP.out HS3.out hlt HT3.out)
  case pos =>
    have HTL := Lib.hid (show (∀ i, i < T.length → (row T i).length = T.length) ∧ (∀ x, x < T.length → ∀ y, y < T.length → 0 ≤ ent T x y ∧ ent T x y < T.length) from ⟨fun i hi => (HPP.out i hi).1, fun x hx y hy => by have := (HPP.out x hx).bd hy; rw [ent_def] at this; omega⟩)
    go_wp2_with fail
    go_region_with (first
      | (go_at_call 81; refine (l01Draw_any S T.length _ (HS3.out.ext (by (repeat first | (with_reducible exact Ext.refl _) | (with_reducible assumption) | (with_reducible apply Ext.drew) | (with_reducible apply kx_drewN) | (with_reducible apply kx_alloc) | ((with_reducible refine kx_set ?_ ?_); (first | (simp only []; omega) | (simp; omega) | (focus (simp; done)))) ))) hq1 (by omega)).mono ?_; rintro e wA ⟨p, bp, cp, rfl, hpl, hp, hg, hsA, hTA⟩; have hTA := touch_pre (show Ext w3 _ by (repeat first | (with_reducible exact Ext.refl _) | (with_reducible assumption) | (with_reducible apply Ext.drew) | (with_reducible apply kx_drewN) | (with_reducible apply kx_alloc) | ((with_reducible refine kx_set ?_ ?_); (first | (simp only []; omega) | (simp; omega) | (focus (simp; done)))) )) hTA; have HRA := Lib.hid (HR3.out.touch hTA (by omega)); have hzA := hTA.size; have hBA := HB3.out.touch hTA (by omega); obtain ⟨-, k0, -⟩ := hBA)
      | (go_at_call 80; refine (l01Rename_any T.length T p _ _ _ ((HA3.out.touch hTA (by omega)).rows.ext (by (repeat first | (with_reducible exact Ext.refl _) | (with_reducible assumption) | (with_reducible apply Ext.drew) | (with_reducible apply kx_drewN) | (with_reducible apply kx_alloc) | ((with_reducible refine kx_set ?_ ?_); (first | (simp only []; omega) | (simp; omega) | (focus (simp; done)))) ))) ((hg.ints (by omega) (by simp)).ext (by (repeat first | (with_reducible exact Ext.refl _) | (with_reducible assumption) | (with_reducible apply Ext.drew) | (with_reducible apply kx_drewN) | (with_reducible apply kx_alloc) | ((with_reducible refine kx_set ?_ ?_); (first | (simp only []; omega) | (simp; omega) | (focus (simp; done)))) ))) hq1 (by omega) rfl HTL.out.1 HTL.out.2 hpl (isoOk_plain.2 ⟨hpl, hp⟩)).mono ?_; rintro e wB ⟨bB, cB, A, rfl, tA, lA, rA, nA, xB⟩; have HRB := Lib.hid (BoxOne.ext (W' := wB) HRA.out (by (repeat first | (with_reducible exact Ext.refl _) | (with_reducible assumption) | (with_reducible apply Ext.drew) | (with_reducible apply kx_drewN) | (with_reducible apply kx_alloc) | ((with_reducible refine kx_set ?_ ?_); (first | (simp only []; omega) | (simp; omega) | (focus (simp; done)))) | (with_reducible refine Ext.trans ?_ xB) ))); obtain ⟨-, q0, q1⟩ := HRB.out))
    all_goals
      have xB' := (show Ext wA wB by (repeat first | (with_reducible exact Ext.refl _) | (with_reducible assumption) | (with_reducible apply Ext.drew) | (with_reducible apply kx_drewN) | (with_reducible apply kx_alloc) | ((with_reducible refine kx_set ?_ ?_); (first | (simp only []; omega) | (simp; omega) | (focus (simp; done)))) | (with_reducible refine Ext.trans ?_ xB) ))
      have hsB := hsA.ext xB'
      have hTB := touch_ext (HT3.out.trans hTA) xB'
      have zd : wA.drew.heap.size = wA.heap.size := rfl
      have hPB := ren_rows nA (isoOk_plain.2 ⟨hpl, hp⟩) lA rA HPP.out
      rw [← lA] at hPB
      have HPB := Lib.hid hPB
      clear hPB
      have HLA := Lib.hid lA
      clear lA
      go_wp2
      exact bodyPost_ret (v := .agg #[.slice (some ⟨bB, 0, none⟩) T.length cB]) (by simp [results, Tryz.results44, go_sem, q0]) rfl (drawC_end (lo := wA.heap.size) rfl (show w.heap.size < wA.heap.size by omega) (tA.low (by omega)) (by rw [HLA.out]; exact hq1) (by rw [HLA.out]; exact hq2) HPB.out hsB hlt hTB)
end Go.Proofs.YtjfjpngajboidaaGreat


namespace Go.Proofs.YtjfjpngajboidaaGreat
set_option linter.unusedVariables false
set_option linter.unusedSimpArgs false
open Go.RowKit
attribute [local go_sem ↓] Go.wp_at_zero Go.wp_at_succ
open Go.Deep

set_option maxRecDepth 100000 in
set_option maxHeartbeats 8000000 in
theorem l05Solution_any (n : Nat) (C : List (List Int)) (v : Value) (w : World) (hv : Rows w v C) (h1n : 1 ≤ n) (h12 : n ≤ 12) (hl : C.length = n) (hp : ∀ x, x < n → IsoOk n [] [] (row C x)) :
    Calls Tryz.prog 43 #[.agg #[v]] w (NewS n (fun _ _ => True) w) := by
  obtain ⟨-, b, o, c, rfl, hvc⟩ := id hv
  rw [hl]
  have hx0 : Ext w ((w.alloc (.cells #[.slice (some ⟨b, o, none⟩) n c] 71)).alloc (.cells #[.slice none 0 0, .slice none 0 0] 26)) := ((Ext.refl _).alloc _).alloc _
  have HR := Lib.hid ((BoxOne.new w (.slice (some ⟨b, o, none⟩) n c) 71).ext ((Ext.refl _).alloc (.cells #[.slice none 0 0, .slice none 0 0] 26)))
  have HQ : BoxV (w.heap.size + 1) ((w.alloc (.cells #[.slice (some ⟨b, o, none⟩) n c] 71)).alloc (.cells #[.slice none 0 0, .slice none 0 0] 26)) (.slice none 0 0) (.slice none 0 0) := by
    have h := BoxV.new (w.alloc (.cells #[.slice (some ⟨b, o, none⟩) n c] 71)) (.slice none 0 0) (.slice none 0 0) 26
    simpa using h
  have HQ := Lib.hid HQ
  have HF := Lib.hid (show ∀ W, Ext ((w.alloc (.cells #[.slice (some ⟨b, o, none⟩) n c] 71)).alloc (.cells #[.slice none 0 0, .slice none 0 0] 26)) W → ∀ x, x < n → ∃ d1 s1 m1, W.cell? ⟨b, o + x, none⟩ = some (.slice (some ⟨d1, s1, none⟩) n m1) ∧ Ints W (.slice (some ⟨d1, s1, none⟩) n m1) (row C x) ∧ ∀ y, y < n → ∃ z : Nat, z < n ∧ W.cell? ⟨d1, s1 + y, none⟩ = some (.int .i64 z) from fun W hW x hx => by
    obtain ⟨d1, s1, m1, r1, i1, n1⟩ := (hvc.ext (hx0.trans hW)).get (i := x) (by rw [hl]; exact hx)
    have hrk := hp x hx
    rw [hrk.1] at r1
    refine ⟨d1, s1, m1, r1, by have := i1.ints n1 m1; rwa [hrk.1] at this, fun y hy => ?_⟩
    have hb := hrk.bd hy
    refine ⟨(ix (row C x) y).toNat, hb.2, ?_⟩
    rw [i1 y (by rw [hrk.1]; exact hy)]
    congr 2
    omega)
  have HIX := Lib.hid (show ∀ x, x < n → ∀ y, y < n → ∃ u : Nat, u < n ∧ indexOf (row C x) (y : Int) = (u : Int) from fun x hx y hy => by
    obtain ⟨u, hu, e⟩ := (hp x hx).surj hy
    refine ⟨u, hu, ?_⟩
    rw [← e]
    exact indexOf_at (hp x hx) hu)
  have hz0 : ((w.alloc (.cells #[.slice (some ⟨b, o, none⟩) n c] 71)).alloc (.cells #[.slice none 0 0, .slice none 0 0] 26)).heap.size = w.heap.size + 2 := by simp
  clear hv hvc hl hp
  have k0 := HR.out.2.1
  go_enter Tryz.func43, Tryz.ntmps43
  go_wp2_with fail
  generalize ((w.alloc (.cells #[.slice (some ⟨b, o, none⟩) n c] 71)).alloc (.cells #[.slice none 0 0, .slice none 0 0] 26)) = w0 at *
  refine (l02Empty_any n w0 h1n h12).mono ?_
  rintro e w1 ⟨bA, cA, bB, cB, B, D, rfl, hG, hx1⟩
  have hT0 := hG.two
  have HLT := Lib.hid (show ∀ i, i < n → B i < w1.heap.size ∧ D i < w1.heap.size from fun i hi => ⟨heap_lt (hG.r1 i hi).1, heap_lt (hG.r2 i hi).1⟩)
  have hbA := (hG.o1.lt bA rfl).1
  have hbB := (hG.o2.lt bB rfl).1
  have hT1 := hT0.ext ((Ext.refl w1).alloc (.cells #[.slice (some ⟨bA, 0, none⟩) n cA, .slice (some ⟨bB, 0, none⟩) n cB] 26)) HLT.out
  have hB1 := BoxV.new w1 (.slice (some ⟨bA, 0, none⟩) n cA) (.slice (some ⟨bB, 0, none⟩) n cB) 26
  have hX1 : Ext w0 (w1.alloc (.cells #[.slice (some ⟨bA, 0, none⟩) n cA, .slice (some ⟨bB, 0, none⟩) n cB] 26)) := hx1.alloc _
  have HT1 := Lib.hid hT1
  have HB1 := Lib.hid hB1
  have HX1 := Lib.hid hX1
  have HFZ1 := Lib.hid (show FreeAt (w1.alloc (.cells #[.slice (some ⟨bA, 0, none⟩) n cA, .slice (some ⟨bB, 0, none⟩) n cB] 26)) bA 0 n ∧ FreeAt (w1.alloc (.cells #[.slice (some ⟨bA, 0, none⟩) n cA, .slice (some ⟨bB, 0, none⟩) n cB] 26)) bB 0 n from ⟨(ownFree hG.o1).block (((Ext.refl w1).alloc _).block _ (hG.o1.lt bA rfl).2), (ownFree hG.o2).block (((Ext.refl w1).alloc _).block _ (hG.o2.lt bB rfl).2)⟩)
  have hx1s := hx1.size
  clear hT0 hG hx1 hT1 hB1 hX1 k0
  go_wp2_with fail
  generalize (w1.alloc (.cells #[.slice (some ⟨bA, 0, none⟩) n cA, .slice (some ⟨bB, 0, none⟩) n cB] 26)) = w2 at *
  go_loopw [5] (fun i wr => ∃ (x : Nat) (T U : List (List Int)), x ≤ n ∧ i = .int .i64 x ∧ InT n T U ∧ TwoM (w0.heap.size + 2) n wr bA bB B D T U ∧ BoxV w1.heap.size wr (.slice (some ⟨bA, 0, none⟩) n cA) (.slice (some ⟨bB, 0, none⟩) n cB) ∧ (FreeAt wr bA 0 n ∧ FreeAt wr bB 0 n) ∧ Ext w0 wr) (fun i _ => n - (intOf i).toNat)
  case atStart => exact ⟨0, _, _, Nat.zero_le _, rfl, InT.zero h1n, HT1.out, HB1.out, HFZ1.out, HX1.out⟩
  case round =>
    clear HT1 HB1 HX1 HFZ1
    obtain ⟨x, T, U, hx, rfl, hi, ht, hb, hfz, hX⟩ := hrel
    have HFZ := Lib.hid hfz
    have HI := Lib.hid hi
    have HT := Lib.hid ht
    have HB := Lib.hid hb
    have HX := Lib.hid hX
    clear hi ht hb hX hfz
    by_cases hxl : x < n
    case neg =>
      have hxx : x = n := by omega
      subst hxx
      have hxi : ¬ (x : Int) < (x : Int) := by omega
      obtain ⟨-, q0, q1, q2, q3⟩ := HQ.out.ext HX.out
      obtain ⟨-, p0, p1, p2, p3⟩ := HB.out
      go_wp2
      have hcA := World.block_lt_of_cell? _ _ (HT.out.a 0 (by omega))
      have hcB := World.block_lt_of_cell? _ _ (HT.out.b 0 (by omega))
      have hlt : ∀ i, i < x → B i < wr.heap.size ∧ D i < wr.heap.size := fun i hi => ⟨lt_of_block_cells ((HT.out.t i hi).2.1 0 (by omega)) ((HT.out.t i hi).1 0 (by rw [(HT.out.t i hi).2.2.1]; omega)), lt_of_block_cells ((HT.out.u i hi).2.1 0 (by omega)) ((HT.out.u i hi).1 0 (by rw [(HT.out.u i hi).2.2.1]; omega))⟩
      have t1 := HT.out.tab HFZ.out.1 (by omega) (by omega) hcA (fun i hi => (hlt i hi).1) cA
      have t2 := HT.out.swap.tab HFZ.out.2 (by omega) (by omega) hcB (fun i hi => (hlt i hi).2) cB
      refine bodyPost_ret (v := .agg #[.slice (some ⟨bA, 0, none⟩) x cA, .slice (some ⟨bB, 0, none⟩) x cB]) (by simp [results, Tryz.results43, go_sem, q0, q1]) rfl ⟨_, _, T, U, rfl, ((t1.setOut (p := ⟨w.heap.size + 1, 0, none⟩) (show w.heap.size + 1 < _ by omega) _).setOut (p := ⟨w.heap.size + 1, 1, none⟩) (show w.heap.size + 1 < _ by omega) _).low (by omega), ((t2.setOut (p := ⟨w.heap.size + 1, 0, none⟩) (show w.heap.size + 1 < _ by omega) _).setOut (p := ⟨w.heap.size + 1, 1, none⟩) (show w.heap.size + 1 < _ by omega) _).low (by omega), ?_, HT.out.lt, trivial, ((hx0.trans HX.out).setNew (by simp only []; omega) _).setNew (by simp only []; omega) _⟩
      exact ⟨tableOk_of h1n h12 HT.out.lt (fun i hi => (HT.out.t i hi).2.2.1) (fun i hi j hj => by rw [ent_def]; exact (HI.out i hi j hj).1), tableOk_of h1n h12 HT.out.lu (fun i hi => (HT.out.u i hi).2.2.1) (fun i hi j hj => by rw [ent_def]; exact (HI.out i hi j hj).2), by rw [HT.out.lt, HT.out.lu]⟩
    case pos =>
      have hxi : (x : Int) < (n : Int) := by omega
      obtain ⟨-, p0, p1, -, -⟩ := id HB.out
      have c0 := HT.out.a x hxl
      have c1 := HT.out.b x hxl
      go_wp2_with fail
      go_quiet (fail)
      have hq : Ext wr (wr.drewN nq) := (Ext.refl wr).drewN nq
      have hlt : ∀ i, i < n → B i < wr.heap.size ∧ D i < wr.heap.size := fun i hi => ⟨lt_of_block_cells ((HT.out.t i hi).2.1 0 (by omega)) ((HT.out.t i hi).1 0 (by rw [(HT.out.t i hi).2.2.1]; omega)), lt_of_block_cells ((HT.out.u i hi).2.1 0 (by omega)) ((HT.out.u i hi).1 0 (by rw [(HT.out.u i hi).2.2.1]; omega))⟩
      have HT3 := Lib.hid (HT.out.ext hq hlt)
      have HB3 := Lib.hid (HB.out.ext hq)
      have HX3 := Lib.hid (HX.out.trans hq)
      have HFZ3 := Lib.hid (show FreeAt (wr.drewN nq) bA 0 n ∧ FreeAt (wr.drewN nq) bB 0 n from ⟨HFZ.out.1.block (by simp), HFZ.out.2.block (by simp)⟩)
      clear hq hlt p0 p1 c0 c1
      generalize wr.drewN nq = wq at *
      go_wp2_with fail
      go_loopw [8] (fun i wr => ∃ (y : Nat) (T U : List (List Int)), y ≤ n ∧ i = .int .i64 y ∧ InT n T U ∧ TwoM (w0.heap.size + 2) n wr bA bB B D T U ∧ BoxV w1.heap.size wr (.slice (some ⟨bA, 0, none⟩) n cA) (.slice (some ⟨bB, 0, none⟩) n cB) ∧ (FreeAt wr bA 0 n ∧ FreeAt wr bB 0 n) ∧ Ext w0 wr) (fun i _ => n - (intOf i).toNat)
      case atStart => exact ⟨0, _, _, Nat.zero_le _, rfl, HI.out, HT3.out, HB3.out, HFZ3.out, HX3.out⟩
      case round =>
        clear HT HB HX HI HFZ HT3 HB3 HX3 HFZ3
        obtain ⟨y, T, U, hy, rfl, hi, ht, hb, hfz, hX⟩ := hrel
        have HFZ := Lib.hid hfz
        have HI := Lib.hid hi
        have HT := Lib.hid ht
        have HB := Lib.hid hb
        have HX := Lib.hid hX
        clear hi ht hb hX hfz
        by_cases hyl : y < n
        case neg =>
          have hyy : y = n := by omega
          subst hyy
          have hyi : ¬ (y : Int) < (y : Int) := by omega
          go_wp2
          go_roundw
          case rel => exact ⟨x + 1, T, U, by omega, by go_num, HI.out, HT.out, HB.out, HFZ.out, HX.out⟩
          case measure => simp [intOf]; omega
        case pos =>
          have hyi : (y : Int) < (n : Int) := by omega
          obtain ⟨u, hu, eu⟩ := HIX.out x hxl y hyl
          obtain ⟨d1, s1, m1, r1, i1, -⟩ := HF.out _ HX.out x hxl
          have HI1 := Lib.hid i1
          have k0 := HX.out.cell HR.out.2.1
          clear i1
          go_wp2_with fail
          refine (l01Index_any (row C x) _ _ _ HI1.out).mono ?_
          rintro e w3 ⟨rfl, rfl⟩
          rw [eu]
          clear eu
          have hrow := HT.out.t x hxl
          have q0 := hrow.1 y (by rw [hrow.2.2.1]; exact hyl)
          have q1 := hrow.2.1 y hyl
          have hbX := hrow.2.2.2.1
          have HTL := Lib.hid (HLT.out x hxl)
          rw [Nat.zero_add] at q0 q1
          clear hrow
          go_upto_region 12 with fail
          have HLL := Lib.hid (show T.length = n ∧ U.length = n ∧ (∀ i, i < n → (row T i).length = n) ∧ ∀ i, i < n → (row U i).length = n from ⟨HT.out.lt, HT.out.lu, fun i hi => (HT.out.t i hi).2.2.1, fun i hi => (HT.out.u i hi).2.2.1⟩)
          have HT4 := Lib.hid (HT.out.put hxl hyl (u : Int))
          have HB4 := Lib.hid (HB.out.setOther (a := ⟨B x, y, none⟩) (by have := HTL.out.1; simp only []; omega) (.int .i64 (u : Int)))
          have HX4 := Lib.hid (HX.out.setNew (p := ⟨B x, y, none⟩) (by simp only []; omega) (.int .i64 (u : Int)))
          have HFZ4 := Lib.hid (show FreeAt (wr.setCell ⟨B x, y, none⟩ (.int .i64 (u : Int))) bA 0 n ∧ FreeAt (wr.setCell ⟨B x, y, none⟩ (.int .i64 (u : Int))) bB 0 n from ⟨HFZ.out.1.set _ _, HFZ.out.2.set _ _⟩)
          clear r1 k0 q0 q1 hbX HT HB HX HFZ HI1
          generalize (wr.setCell ⟨B x, y, none⟩ (.int .i64 (u : Int))) = wp at *
          obtain ⟨d3, s3, m3, r3, -, f3⟩ := HF.out _ HX4.out u hu
          obtain ⟨z, hz, e3⟩ := f3 x hxl
          have HST := Lib.hid (HI.out.step (x := (u : Int)) (y := (z : Int)) HLL.out.1 HLL.out.2.1 HLL.out.2.2.1 HLL.out.2.2.2 hxl hyl (by omega) (by omega) (by omega) (by omega))
          have k0 := HX4.out.cell HR.out.2.1
          have hrow := HT4.out.u x hxl
          have q0 := hrow.1 y (by rw [hrow.2.2.1]; exact hyl)
          have q1 := hrow.2.1 y hyl
          have hbX := hrow.2.2.2.1
          rw [Nat.zero_add] at q0 q1
          clear hrow f3
          go_wp2_with fail
          go_roundw
          case rel => exact ⟨y + 1, _, _, by omega, by go_num, HST.out, (HT4.out.swap.put hxl hyl (z : Int)).swap, HB4.out.setOther (by have := HTL.out.2; simp only []; omega) _, ⟨HFZ4.out.1.set _ _, HFZ4.out.2.set _ _⟩, HX4.out.setNew (by simp only []; omega) _⟩
          case measure => simp [intOf]; omega

set_option maxRecDepth 100000 in
set_option maxHeartbeats 4000000 in
theorem l07Spoil_any (S most : Nat) (w : World) (hs : Src S w) (h1 : 1 ≤ most) (h12 : most ≤ 12) :
    Calls Tryz.prog 34 #[.pointer (some ⟨S, 0, none⟩), .int .i64 most] w (DrawQ S w) := by
  have hlt := hs.lt
  have hx0 : Ext w (w.alloc (.cells #[.slice none 0 0, .slice none 0 0] 26)) := (Ext.refl _).alloc _
  have HR0 := Lib.hid (BoxV.new w (.slice none 0 0) (.slice none 0 0) 26)
  have HS0 := Lib.hid (hs.ext hx0)
  have HT0 := Lib.hid (touch_ext (S := S) (Touch.of_ext (Ext.refl w)) hx0)
  have hz0 : w.heap.size < (w.alloc (.cells #[.slice none 0 0, .slice none 0 0] 26)).heap.size := by simp
  clear hs hx0
  go_enter Tryz.func34, Tryz.ntmps34
  go_wp2_with fail
  generalize (w.alloc (.cells #[.slice none 0 0, .slice none 0 0] 26)) = w0 at *
  refine (l01Next_any S _ w0 HS0.out).mono ?_
  rintro e w1 ⟨r, rfl, -, -, -, hs1, hT1⟩
  have HT1 := Lib.hid (HT0.out.trans hT1)
  have HR1 := Lib.hid (HR0.out.touchS hT1 (by omega))
  have HS1 := Lib.hid hs1
  have hz1 := hT1.size
  clear hT1 hs1 HT0 HR0 HS0
  by_cases hr : r = 0
  case pos =>
    subst hr
    go_wp2_with fail
    refine (l05Draw_any S most w1 HS1.out h1 h12).mono ?_
    rintro e w2 ⟨v2, T, rfl, ht, hq1, hq2, hpp, hs2, hT2⟩
    have HT2 := Lib.hid (HT1.out.trans hT2)
    have HR2 := Lib.hid (HR1.out.touchS hT2 (by omega))
    have hz2 := hT2.size
    go_wp2_with fail
    refine (l05Solution_any T.length T v2 w2 ht.rows hq1 (by omega) rfl hpp).mono ?_
    rintro e w3 ⟨v3, y3, L, U, rfl, ht3, hu3, -, hl3, -, hx3⟩
    obtain ⟨ht30, d1, d2, rfl, -⟩ := id ht3
    obtain ⟨hu30, d3, d4, rfl, -⟩ := id hu3
    have HT3 := Lib.hid (touch_ext HT2.out hx3)
    have HR3 := Lib.hid (HR2.out.ext hx3)
    have HS3 := Lib.hid (hs2.ext hx3)
    have HA3 := Lib.hid ht3.rowsP
    have HU3 := Lib.hid hu3.rowsP
    have hL13 : L.length ≤ 13 := by omega
    clear ht30 hu30 ht3 hu3 hl3 hx3 hs2 hT2 ht hpp HT2 HR2
    obtain ⟨-, q0, q1, q2, q3⟩ := HR3.out
    go_wp2
    exact bodyPost_ret (v := .agg #[.slice (some ⟨d1, 0, none⟩) L.length d2, .slice (some ⟨d3, 0, none⟩) U.length d4]) (by simp [results, Tryz.results34, go_sem, q0, q1]) rfl (drawQ_end (lo := w2.heap.size) rfl (by omega) HA3.out HU3.out hL13 HS3.out hlt HT3.out)
  case neg =>
    go_wp2_with fail
    refine (l02Spoil_any S most w1 HS1.out h1 h12).mono ?_
    rintro e w3 ⟨v3, y3, L, U, rfl, ht3, hu3, hl3, hs3, hT3⟩
    obtain ⟨d1, o1, c1, rfl⟩ := ht3.shape
    obtain ⟨d2, o2, c2, rfl⟩ := hu3.shape
    have HT3 := Lib.hid (HT1.out.trans hT3)
    have HR3 := Lib.hid (HR1.out.touchS hT3 (by omega))
    have HS3 := Lib.hid hs3
    have HA3 := Lib.hid ht3
    have HU3 := Lib.hid hu3
    clear ht3 hu3 hs3 hT3
    obtain ⟨-, q0, q1, q2, q3⟩ := HR3.out
    go_wp2
    exact bodyPost_ret (v := .agg #[.slice (some ⟨d1, o1, none⟩) L.length c1, .slice (some ⟨d2, o2, none⟩) U.length c2]) (by simp [results, Tryz.results34, go_sem, q0, q1]) rfl (drawQ_end (lo := w1.heap.size) rfl (by omega) HA3.out HU3.out hl3 HS3.out hlt HT3.out)
end Go.Proofs.YtjfjpngajboidaaGreat


namespace Go.Proofs.YtjfjpngajboidaaGreat
set_option linter.unusedVariables false
set_option linter.unusedSimpArgs false
open Go.RowKit
attribute [local go_sem ↓] Go.wp_at_zero Go.wp_at_succ
open Go.Deep

theorem l01Next_eq (S n : Nat) (m : Int) (w : World) (hs : Src S w) (hm : m = (n : Int)) (hn : 1 ≤ n) :
    Calls Tryz.prog 42 #[.pointer (some ⟨S, 0, none⟩), .int .i64 m] w fun e w' => ∃ j : Nat, j < n ∧ e = .returned (.int .i64 j) ∧ Src S w' ∧ Touch S (S + 1) w w' := by
  subst hm
  exact l01Next_nat S n w hs hn
def lenOf (v : Value) : Nat := match v with
  | .slice _ n _ => n
  | _ => 0
def DrawW (S : Nat) (w : World) (e : Ending) (w' : World) : Prop := ∃ b c l, e = .returned (.slice (some ⟨b, 0, none⟩) l.length c) ∧ RF w.heap.size (fun _ => False) w' (.slice (some ⟨b, 0, none⟩) l.length c) l ∧ l.length ≤ 20 ∧ l.length ≤ c ∧ Src S w' ∧ Touch S (S + 1) w w'
theorem drawW_end {S : Nat} {w w' : World} {b c : Nat} {l : List Int} (hi : GrowI 2 w.heap.size w' (.slice (some ⟨b, 0, none⟩) l.length c) l) (hl : l.length ≤ 20) (hs : Src S w') (hT : Touch S (S + 1) w w') : DrawW S w (.returned (.slice (some ⟨b, 0, none⟩) l.length c)) w' :=
  ⟨b, c, l, rfl, RF.of hi (by simp) (by omega), hl, by
    rcases hi.2 with ⟨h, _⟩ | ⟨g, cap, cur, h, _, _, hc, _⟩
    · cases h
    · simp only [Value.slice.injEq, Option.some.injEq, Addr.mk.injEq, and_true, true_and] at h
      omega, hs, hT⟩

set_option maxRecDepth 100000 in
set_option maxHeartbeats 4000000 in
theorem l09DrawWord_any (S n most : Nat) (w : World) (hs : Src S w) (h1 : 1 ≤ n) (hn : n ≤ 1000) (hm : most ≤ 9) :
    Calls Tryz.prog 35 #[.pointer (some ⟨S, 0, none⟩), .int .i64 n, .int .i64 most] w (DrawW S w) := by
  have hlt := hs.lt
  have hx0 : Ext w (w.alloc (.cells #[] 2)) := (Ext.refl _).alloc _
  have HG0 := Lib.hid (GrowI.lit (e := 2) (base := w.heap.size) (w := w) (Nat.le_refl _))
  have HS0 := Lib.hid (hs.ext hx0)
  have HT0 := Lib.hid (Touch.of_ext (lo := S) (hi := S + 1) hx0)
  clear hs hx0
  go_enter Tryz.func35, Tryz.ntmps35
  go_wp2_with fail
  generalize (w.alloc (.cells #[] 2)) = w0 at *
  refine (l01Next_eq S (most + 1) _ _ HS0.out (by omega) (by omega)).mono ?_
  rintro e w1 ⟨j, hj, rfl, hs1, hT1⟩
  have HG1 := Lib.hid (HG0.out.touchS hT1 (fun e => by have := Option.some.inj (show some w.heap.size = some S from e); omega))
  have HS1 := Lib.hid hs1
  have HT1 := Lib.hid (HT0.out.trans hT1)
  clear hs1 hT1 HG0 HS0 HT0
  go_wp2_with fail
  go_loopw [7, 8] (fun va vj wr => ∃ (k : Nat) (l : List Int) (b c : Nat), vj = .int .i64 k ∧ l.length + k ≤ most ∧ va = .slice (some ⟨b, 0, none⟩) l.length c ∧ GrowI 2 w.heap.size wr (.slice (some ⟨b, 0, none⟩) l.length c) l ∧ Src S wr ∧ Touch S (S + 1) w wr) (fun _ vj _ => (intOf vj).toNat)
  case atStart => exact ⟨j, [], w.heap.size, 0, rfl, by simp; omega, rfl, HG1.out, HS1.out, HT1.out⟩
  case round =>
    clear HG1 HS1 HT1 hj
    obtain ⟨k, l, b, c, rfl, hl, rfl, hg, hs, hT⟩ := hrel
    have HG := Lib.hid hg
    have HS := Lib.hid hs
    have HT := Lib.hid hT
    clear hg hs hT
    by_cases hk : 0 < k
    case pos =>
      have hki : (0 : Int) < (k : Int) := by omega
      have hkn : ¬ (k : Int) ≤ 0 := by omega
      go_wp2_with fail
      refine (l01Next_nat S n _ HS.out h1).mono ?_
      rintro e w2 ⟨x, hx, rfl, hs2, hT2⟩
      have hb := HG.out.lt (k := b) rfl
      have HG2 := Lib.hid (HG.out.touchS hT2 (fun e => by have := Option.some.inj (show some b = some S from e); omega))
      have HS2 := Lib.hid (hs2.ext ((Ext.refl w2).alloc (.cells #[.int .i64 x] 2)))
      have HT2 := Lib.hid (touch_ext (HT.out.trans hT2) ((Ext.refl w2).alloc (.cells #[.int .i64 x] 2)))
      have hz2 : w.heap.size ≤ (w2.alloc (.cells #[.int .i64 x] 2)).heap.size := HT2.out.size
      clear hs2 hT2 HG HS HT
      go_wp2_with (at_builtin; refine wpList_append_int_at rfl _ _ 27 2 rfl Tryz.underlying27 infoInt w.heap.size _ l rfl (HG2.out.alloc _) _ _ rfl (cell_new _ _ _) (by omega) hz2 ?_)
      intro v' w3 hi3 hgr hv3 hbl
      obtain ⟨b3, c3, rfl, ho3⟩ := hi3.own hv3
      have HI3 := Lib.hid hi3
      have HS3 := Lib.hid (src_grownE (g := b) HS2.out hgr (by omega))
      have HT3 := Lib.hid (touch_grownE HT2.out hgr hb.1)
      have hl3 : (l ++ [(x : Int)]).length = l.length + 1 := by simp
      have HL3 := Lib.hid hl3
      clear hi3 hgr hv3 hbl ho3 hl3 HG2 HS2 HT2
      go_wp2
      go_roundw
      case rel => exact ⟨k - 1, l ++ [(x : Int)], b3, c3, congrArg (Value.int .i64) (by omega), by rw [HL3.out]; omega, rfl, HI3.out, HS3.out, HT3.out⟩
      case measure => simp [intOf]; omega
    case neg =>
      have hk0 : k = 0 := by omega
      have hki : ¬ (0 : Int) < (k : Int) := by omega
      have hb := HG.out.lt (k := b) rfl
      clear hk0 hk
      go_wp2_with fail
      refine (l01Next_any S _ _ HS.out).mono ?_
      rintro e w2 ⟨r, rfl, -, -, -, hs2, hT2⟩
      have HG2 := Lib.hid (HG.out.touchS hT2 (fun e => by have := Option.some.inj (show some b = some S from e); omega))
      have HS2 := Lib.hid hs2
      have HT2 := Lib.hid (HT.out.trans hT2)
      have hz2 := HT2.out.size
      clear hs2 hT2 HG HS HT
      by_cases hr0 : r = 0
      case pos =>
        subst hr0
        have hxb : Ext w2 (w2.alloc (.cells #[.int .i64 (-1), .int .i64 (n : Int)] 2)) := (Ext.refl _).alloc _
        have HP := Lib.hid (row_litE (w := w2) rfl [-1, (n : Int)] 2)
        have HG3 := Lib.hid (HG2.out.alloc (.cells #[.int .i64 (-1), .int .i64 (n : Int)] 2))
        have HS3 := Lib.hid (HS2.out.ext hxb)
        have HT3 := Lib.hid (touch_ext HT2.out hxb)
        have hz3 := hxb.size
        clear HG2 HS2 HT2 hxb
        go_wp2_with fail
        refine (l01Pick_lit S [-1, (n : Int)] _ _ _ _ HP.out (by simp) (by simp) (by omega) HS3.out (by simp)).mono ?_
        rintro e w4 ⟨i, hi, rfl, hs4, hT4⟩
        obtain ⟨x, hx⟩ : ∃ x, x = ix [-1, (n : Int)] i := ⟨_, rfl⟩
        rw [← hx]
        clear hx hi HP
        have HG4 := Lib.hid (HG3.out.touchS hT4 (fun e => by have := Option.some.inj (show some b = some S from e); omega))
        have HS4 := Lib.hid (hs4.ext ((Ext.refl w4).alloc (.cells #[.int .i64 x] 2)))
        have HT4 := Lib.hid (touch_ext (HT3.out.trans hT4) ((Ext.refl w4).alloc (.cells #[.int .i64 x] 2)))
        have hz4 : w.heap.size ≤ (w4.alloc (.cells #[.int .i64 x] 2)).heap.size := HT4.out.size
        clear hs4 hT4 HG3 HS3 HT3
        go_wp2_with (at_builtin; refine wpList_append_int_at rfl _ _ 27 2 rfl Tryz.underlying27 infoInt w.heap.size _ l rfl (HG4.out.alloc _) _ _ rfl (cell_new _ _ _) (by omega) hz4 ?_)
        intro v' w5 hi5 hgr hv5 hbl
        obtain ⟨b5, c5, rfl, ho5⟩ := hi5.own hv5
        have HI5 := Lib.hid hi5
        have HS5 := Lib.hid (src_grownE (g := b) HS4.out hgr (by omega))
        have HT5 := Lib.hid (touch_grownE HT4.out hgr hb.1)
        have hl5 : (l ++ [x]).length ≤ 20 := by simp; omega
        clear hi5 hgr hv5 hbl ho5 HG4 HS4 HT4
        go_wp2
        go_ret
        exact drawW_end HI5.out hl5 HS5.out HT5.out
      case neg =>
        by_cases hr1 : r = 1
        case pos =>
          subst hr1
          go_wp2_with fail
          go_loopw [7] (fun va wr => ∃ (l : List Int) (b c : Nat), l.length ≤ 9 ∧ va = .slice (some ⟨b, 0, none⟩) l.length c ∧ GrowI 2 w.heap.size wr (.slice (some ⟨b, 0, none⟩) l.length c) l ∧ Src S wr ∧ Touch S (S + 1) w wr) (fun va _ => 20 - lenOf va)
          case atStart => exact ⟨l, b, c, by omega, rfl, HG2.out, HS2.out, HT2.out⟩
          case round =>
            clear HG2 HS2 HT2 hz2 hb hl
            obtain ⟨l, b, c, hl, rfl, hg, hs, hT⟩ := hrel
            have HG := Lib.hid hg
            have HS := Lib.hid hs
            have HT := Lib.hid hT
            have hb := hg.lt (k := b) rfl
            clear hg hs hT
            by_cases hl8 : l.length ≤ 8
            case neg =>
              have hli : ¬ (l.length : Int) ≤ 8 := by omega
              go_wp2
              go_ret
              exact drawW_end HG.out (by omega) HS.out HT.out
            case pos =>
              have hli : (l.length : Int) ≤ 8 := by omega
              have HS2 := Lib.hid (HS.out.ext ((Ext.refl wr).alloc (.cells #[.int .i64 0] 2)))
              have HT2 := Lib.hid (touch_ext HT.out ((Ext.refl wr).alloc (.cells #[.int .i64 0] 2)))
              have hz2 : w.heap.size ≤ (wr.alloc (.cells #[.int .i64 0] 2)).heap.size := HT2.out.size
              clear HS HT
              go_wp2_with (at_builtin; refine wpList_append_int_at rfl _ _ 27 2 rfl Tryz.underlying27 infoInt w.heap.size _ l rfl (HG.out.alloc _) _ _ rfl (cell_new _ _ _) (by omega) hz2 ?_)
              intro v' w3 hi3 hgr hv3 hbl
              obtain ⟨b3, c3, rfl, ho3⟩ := hi3.own hv3
              have HI3 := Lib.hid hi3
              have HS3 := Lib.hid (src_grownE (g := b) HS2.out hgr (by omega))
              have HT3 := Lib.hid (touch_grownE HT2.out hgr hb.1)
              have HL3 := Lib.hid (show (l ++ [(0 : Int)]).length = l.length + 1 by simp)
              clear hi3 hgr hv3 hbl ho3 HG HS2 HT2
              go_wp2
              go_roundw
              case rel => exact ⟨l ++ [(0 : Int)], b3, c3, by rw [HL3.out]; omega, rfl, HI3.out, HS3.out, HT3.out⟩
              case measure => simp [lenOf]; omega
        case neg =>
          go_wp2
          go_ret
          exact drawW_end HG2.out (by omega) HS2.out HT2.out

def size9 (L : List (List Int)) : Nat := if L.length = 0 then 1 else L.length
theorem size9_pos (L : List (List Int)) : 1 ≤ size9 L := by unfold size9; split <;> omega
theorem size9_le {L : List (List Int)} (h : L.length ≤ 13) : size9 L ≤ 13 := by unfold size9; split <;> omega

set_option maxRecDepth 100000 in
theorem l09Size_any (L S : List (List Int)) (v y : Value) (w : World) (hv : Rows w v L) (hy : Rows w y S) :
    Calls Tryz.prog 36 #[.agg #[v, y]] w fun e w' => e = .returned (.int .i64 (size9 L)) ∧ Ext w w' := by
  obtain ⟨-, b, o, c, rfl, -⟩ := id hv
  obtain ⟨-, b2, o2, c2, rfl, -⟩ := id hy
  have hx0 : Ext w (w.alloc (.cells #[.slice (some ⟨b, o, none⟩) L.length c, .slice (some ⟨b2, o2, none⟩) S.length c2] 26)) := (Ext.refl _).alloc _
  have k0 := cell_new2a w (.slice (some ⟨b, o, none⟩) L.length c) (.slice (some ⟨b2, o2, none⟩) S.length c2) 26
  have HSZ := Lib.hid (show (L.length = 0 → size9 L = 1) ∧ (L.length ≠ 0 → size9 L = L.length) from ⟨fun h => by unfold size9; rw [if_pos h], fun h => by unfold size9; rw [if_neg h]⟩)
  clear hv hy
  by_cases h : L.length = 0
  case pos =>
    rw [h] at hx0 k0 ⊢
    rw [HSZ.out.1 h]
    clear HSZ h
    go_enter Tryz.func36, Tryz.ntmps36
    go_wp2
    go_ret
    exact ⟨rfl, hx0⟩
  case neg =>
    rw [HSZ.out.2 h]
    have hb : ((L.length : Int) == 0) = false := beq_eq_false_iff_ne.2 (by omega)
    have hne : (L.length : Int) ≠ 0 := by omega
    go_enter Tryz.func36, Tryz.ntmps36
    go_wp2
    go_ret
    exact ⟨rfl, hx0⟩
end Go.Proofs.YtjfjpngajboidaaGreat


namespace Go.Proofs.YtjfjpngajboidaaGreat
set_option linter.unusedVariables false
set_option linter.unusedSimpArgs false

@[irreducible] noncomputable def wordB (n : Nat) (l : List Int) : Bool := by classical exact decide (WordOk n l ∧ l.length ≤ 8)
theorem wordB_iff {n : Nat} {l : List Int} : wordB n l = true ↔ WordOk n l ∧ l.length ≤ 8 := by unfold wordB; simp
theorem wordB_no {n : Nat} {l : List Int} : wordB n l = false ↔ ¬ (WordOk n l ∧ l.length ≤ 8) := by rw [← wordB_iff]; simp
theorem wordB_bad {n : Nat} {l : List Int} {k : Nat} (hk : k < l.length) (h : inR (ix l k) 0 ((n : Int) - 1) = false) : wordB n l = false := wordB_no.2 fun ⟨h1, _⟩ => inR_false.1 h (by have := h1 k hk; omega)
theorem wordB_end {n : Nat} {l : List Int} (h : WordOk n l) : wordB n l = decide (l.length ≤ 8) := by
  rw [Bool.eq_iff_iff, wordB_iff, decide_eq_true_iff]
  exact ⟨fun h => h.2, fun k => ⟨h, k⟩⟩
@[irreducible] noncomputable def codeW (L S : List (List Int)) (u v : List Int) : Int := if solB L S then (if wordB L.length u && wordB L.length v then 0 else 2) else 1
theorem codeW_bad {L S : List (List Int)} {u v : List Int} (h : solB L S = false) : codeW L S u v = 1 := by unfold codeW; rw [h]; rfl
theorem codeW_out {L S : List (List Int)} {u v : List Int} (h : solB L S = true) (k : (wordB L.length u && wordB L.length v) = false) : codeW L S u v = 2 := by unfold codeW; rw [h, k]; rfl
theorem codeW_ok {L S : List (List Int)} {u v : List Int} (h : solB L S = true) (h1 : wordB L.length u = true) (h2 : wordB L.length v = true) : codeW L S u v = 0 := by unfold codeW; rw [h, h1, h2]; rfl
theorem codeW_zero {L S : List (List Int)} {u v : List Int} (h : codeW L S u v = 0) : SolOk L S ∧ (WordOk L.length u ∧ u.length ≤ 8) ∧ (WordOk L.length v ∧ v.length ≤ 8) := by
  cases h1 : solB L S with
  | false => rw [codeW_bad h1] at h; cases h
  | true =>
    cases h2 : (wordB L.length u && wordB L.length v) with
    | false => rw [codeW_out h1 h2] at h; cases h
    | true =>
      rw [Bool.and_eq_true, wordB_iff, wordB_iff] at h2
      exact ⟨solB_iff.1 h1, h2⟩
end Go.Proofs.YtjfjpngajboidaaGreat


namespace Go.Proofs.YtjfjpngajboidaaGreat
set_option linter.unusedVariables false
set_option linter.unusedSimpArgs false

theorem lex_less {l m : List Int} (h : l.length = m.length) : l < m ↔ LexLt l m := by
  induction l generalizing m with
  | nil =>
    cases m with
    | nil => exact ⟨fun k => absurd k (by simp), fun k => absurd k (LexLt.irrefl _)⟩
    | cons _ _ => simp at h
  | cons a r ih =>
    cases m with
    | nil => simp at h
    | cons b s =>
      have hl : r.length = s.length := by simpa using h
      rw [List.cons_lt_cons_iff, ih hl]
      have c0 : ∀ (x : Int) (q : List Int), ix (x :: q) 0 = x := fun x q => by rw [ix_eq]; rfl
      have cs : ∀ (x : Int) (q : List Int) (i : Nat), ix (x :: q) (i + 1) = ix q i := fun x q i => by rw [ix_eq, ix_eq]; simp [List.getD]
      constructor
      · rintro (k | ⟨rfl, d, k1, k2⟩)
        · exact ⟨0, fun i hi => by omega, by rw [c0, c0]; exact k⟩
        · refine ⟨d + 1, fun i hi => ?_, by rw [cs, cs]; exact k2⟩
          cases i with
          | zero => rw [c0, c0]
          | succ i => rw [cs, cs]; exact k1 i (by omega)
      · rintro ⟨d, k1, k2⟩
        cases d with
        | zero => rw [c0, c0] at k2; exact .inl k2
        | succ d =>
          have e := k1 0 (by omega)
          rw [c0, c0] at e
          refine .inr ⟨e, d, fun i hi => ?_, by rw [cs, cs] at k2; exact k2⟩
          have := k1 (i + 1) (by omega)
          rwa [cs, cs] at this
theorem lex_total {l m : List Int} (h : l.length = m.length) (k : ¬ LexLt l m) : m = l ∨ LexLt m l := by
  by_cases e : m = l
  · exact .inl e
  · right
    obtain ⟨d, hd, h1, h2⟩ := lex_first (n := l.length) (p := m) (r := l) h.symm rfl e
    by_cases h3 : ix m d < ix l d
    · exact ⟨d, h1, h3⟩
    · exact absurd ⟨d, fun i hi => (h1 i hi).symm, by omega⟩ k
theorem lex_behind {u a b : List Int} (h : LexLt (u ++ a) (u ++ b)) : LexLt a b := by
  obtain ⟨d, h1, h2⟩ := h
  by_cases hd : d < u.length
  · rw [ix_app hd, ix_app hd] at h2; omega
  · have e : d = u.length + (d - u.length) := by omega
    rw [e, ix_app_right, ix_app_right] at h2
    refine ⟨d - u.length, fun i hi => ?_, h2⟩
    have := h1 (u.length + i) (by omega)
    rwa [ix_app_right, ix_app_right] at this
theorem lex_head {l : List (List Int)} (hs : l.Pairwise LexLt) {p : List Int} (hp : p ∈ l) (hmin : ∀ q, q ∈ l → ¬ LexLt q p) : l.head? = some p := by
  cases l with
  | nil => cases hp
  | cons a r =>
    rcases List.mem_cons.1 hp with e | e
    · rw [e]; rfl
    · exact absurd ((List.pairwise_cons.1 hs).1 p e) (hmin a List.mem_cons_self)

section
variable {n : Nat} {f g fi gi : Nat → Nat → Nat}
@[irreducible] noncomputable def nfL (n : Nat) (f g fi gi : Nat → Nat → Nat) (u : List Int) : List Int := (wclL n f g fi gi u).headD []
theorem nfL_mem (hm : Mv n f g fi gi) {u : List Int} (hu : WordOk n u) : nfL n f g fi gi u ∈ wclL n f g fi gi u := by
  have h := wclL_self hm hu
  unfold nfL
  cases e : wclL n f g fi gi u with
  | nil => rw [e] at h; cases h
  | cons a r => exact List.mem_cons_self
theorem nfL_head (hm : Mv n f g fi gi) {u : List Int} (hu : WordOk n u) : ∃ r, wclL n f g fi gi u = nfL n f g fi gi u :: r := by
  have h := wclL_self hm hu
  unfold nfL
  cases e : wclL n f g fi gi u with
  | nil => rw [e] at h; cases h
  | cons a r => exact ⟨r, rfl⟩
theorem nfL_le (hm : Mv n f g fi gi) {u v : List Int} (hu : WordOk n u) (hv : v ∈ wclL n f g fi gi u) : nfL n f g fi gi u = v ∨ LexLt (nfL n f g fi gi u) v := by
  obtain ⟨r, e⟩ := nfL_head hm hu
  have hs := sorted_wclL n f g fi gi u
  rw [e] at hv hs
  rcases List.mem_cons.1 hv with e2 | e2
  · exact .inl e2.symm
  · exact .inr ((List.pairwise_cons.1 hs).1 v e2)
theorem nfL_eqv (hm : Mv n f g fi gi) {u : List Int} (hu : WordOk n u) : Eqv f g fi gi u (nfL n f g fi gi u) := (mem_wclL hm hu).1 (nfL_mem hm hu)
theorem WordOk.left {p q : List Int} (h : WordOk n (p ++ q)) : WordOk n p := fun i hi => by
  have := h i (by simp; omega)
  rwa [ix_app hi] at this
theorem WordOk.right {p q : List Int} (h : WordOk n (p ++ q)) : WordOk n q := fun i hi => by
  have := h (p.length + i) (by simp; omega)
  rwa [ix_app_right] at this
theorem WordOk.app {p q : List Int} (h : WordOk n p) (k : WordOk n q) : WordOk n (p ++ q) := fun i hi => by
  by_cases hp : i < p.length
  · rw [ix_app hp]; exact h i hp
  · have e : i = p.length + (i - p.length) := by omega
    rw [e, ix_app_right]
    exact k _ (by simp at hi; omega)

@[irreducible] noncomputable def restL (n : Nat) (f g fi gi : Nat → Nat → Nat) (u w : List Int) : List (List Int) := ((wclL n f g fi gi w).filter fun x => decide (x.take u.length = u)).map (·.drop u.length)
theorem mem_restL (hm : Mv n f g fi gi) {u v w : List Int} (hw : WordOk n w) : v ∈ restL n f g fi gi u w ↔ Eqv f g fi gi w (u ++ v) := by
  unfold restL
  rw [List.mem_map]
  constructor
  · rintro ⟨x, hx, rfl⟩
    obtain ⟨h1, h2⟩ := List.mem_filter.1 hx
    have h2 : x.take u.length = u := by simpa using h2
    have e : u ++ x.drop u.length = x := by
      conv => lhs; rw [← h2]
      rw [show (x.take u.length).length = u.length by rw [h2]] 
      exact List.take_append_drop _ _
    rw [e]; exact (mem_wclL hm hw).1 h1
  · intro h
    refine ⟨u ++ v, List.mem_filter.2 ⟨(mem_wclL hm hw).2 h, by simp⟩, by simp⟩
theorem sorted_restL (n : Nat) (f g fi gi : Nat → Nat → Nat) (u w : List Int) : (restL n f g fi gi u w).Pairwise LexLt := by
  unfold restL
  rw [List.pairwise_map]
  have h := (sorted_wclL n f g fi gi w).filter fun x => decide (x.take u.length = u)
  refine h.imp_of_mem ?_
  intro a b ha hb hl
  have h1 : a.take u.length = u := by simpa using (List.mem_filter.1 ha).2
  have h2 : b.take u.length = u := by simpa using (List.mem_filter.1 hb).2
  refine lex_behind (u := u) ?_
  have e : ∀ x : List Int, x.take u.length = u → u ++ x.drop u.length = x := fun x hx => by
    have := List.take_append_drop u.length x
    rwa [hx] at this
  rw [e a h1, e b h2]
  exact hl
theorem rest_normal (hm : Mv n f g fi gi) {u w v : List Int} (hw : WordOk n w) (h : (restL n f g fi gi u w).head? = some v) : nfL n f g fi gi v = v ∧ WordOk n v ∧ Eqv f g fi gi w (u ++ v) := by
  obtain ⟨r, hr⟩ : ∃ r, restL n f g fi gi u w = v :: r := by
    cases e : restL n f g fi gi u w with
    | nil => rw [e] at h; cases h
    | cons a r => rw [e] at h; exact ⟨r, by rw [Option.some.inj h]⟩
  have hv : Eqv f g fi gi w (u ++ v) := (mem_restL hm hw).1 (by rw [hr]; exact List.mem_cons_self)
  have hok := (hv.ok hm hw).right
  refine ⟨?_, hok, hv⟩
  have h1 : nfL n f g fi gi v ∈ restL n f g fi gi u w := (mem_restL hm hw).2 (hv.trans ((nfL_eqv hm hok).ahead u))
  have hs := sorted_restL n f g fi gi u w
  rw [hr] at h1 hs
  rcases List.mem_cons.1 h1 with e | e
  · exact e
  · have h2 := (List.pairwise_cons.1 hs).1 _ e
    rcases nfL_le hm hok (wclL_self hm hok) with e2 | e2
    · exact e2
    · exact absurd (h2.trans' e2) (LexLt.irrefl _)

def stepB (best : Option (List Int)) (r : List Int) : Option (List Int) := match best with
  | none => some r
  | some b => if lessB r b then some r else some b
theorem fold_best {m : Nat} : ∀ (L : List (List Int)) (best : Option (List Int)), (∀ r, r ∈ L → r.length = m) → (∀ b, best = some b → b.length = m) →
    (L.foldl stepB best = none ↔ best = none ∧ L = []) ∧ ∀ b, L.foldl stepB best = some b → b.length = m ∧ (best = some b ∨ b ∈ L) ∧ (∀ r, r ∈ L → ¬ LexLt r b) ∧ ∀ a, best = some a → ¬ LexLt a b := by
  intro L
  induction L with
  | nil =>
    intro best _ hb
    exact ⟨by simp, fun b h => ⟨hb b h, .inl h, fun r hr => (by cases hr), fun a ha => by rw [ha] at h; rw [Option.some.inj h]; exact LexLt.irrefl b⟩⟩
  | cons r L ih =>
    intro best hL hb
    rw [List.foldl_cons]
    have hr := hL r List.mem_cons_self
    have hs : ∀ b, stepB best r = some b → b.length = m := by
      intro b h
      unfold stepB at h
      cases best with
      | none => rw [← Option.some.inj h]; exact hr
      | some a =>
        simp only at h
        split at h
        · rw [← Option.some.inj h]; exact hr
        · rw [← Option.some.inj h]; exact hb a rfl
    obtain ⟨h1, h2⟩ := ih (stepB best r) (fun x hx => hL x (List.mem_cons_of_mem _ hx)) hs
    have hne : stepB best r ≠ none := by
      unfold stepB
      cases best with
      | none => simp
      | some a => simp only; split <;> simp
    refine ⟨⟨fun e => absurd (h1.1 e).1 hne, fun e => absurd e.2 (by simp)⟩, fun b hbb => ?_⟩
    obtain ⟨k1, k2, k3, k4⟩ := h2 b hbb
    obtain ⟨c, hc⟩ : ∃ c, stepB best r = some c := by
      cases e : stepB best r with
      | none => exact absurd e hne
      | some c => exact ⟨c, rfl⟩
    have hcl := hs c hc
    have hcb := k4 c hc
    have hrc : ¬ LexLt r c := by
      unfold stepB at hc
      cases best with
      | none => rw [← Option.some.inj hc]; exact LexLt.irrefl r
      | some a =>
        simp only at hc
        split at hc
        · rw [← Option.some.inj hc]; exact LexLt.irrefl r
        · rename_i hl
          rw [← Option.some.inj hc, ← lex_less (by rw [hr, hb a rfl])]
          unfold lessB at hl
          simpa using hl
    have hac : ∀ a, best = some a → ¬ LexLt a c := by
      intro a ha
      subst ha
      unfold stepB at hc
      simp only at hc
      split at hc
      · rename_i hl
        rw [← Option.some.inj hc]
        intro k
        unfold lessB at hl
        have h5 := (lex_less (l := r) (m := a) (by rw [hr, hb a rfl])).1 (by simpa using hl)
        exact LexLt.irrefl _ (h5.trans' k)
      · rw [← Option.some.inj hc]; exact LexLt.irrefl a
    have le : ∀ x : List Int, x.length = m → ¬ LexLt x c → ¬ LexLt x b := by
      intro x hx h5 h6
      rcases lex_total (l := x) (m := c) (by rw [hx, hcl]) h5 with e | e
      · subst e; exact hcb h6
      · exact hcb (e.trans' h6)
    refine ⟨k1, ?_, fun x hx => ?_, fun a ha => le a (hb a ha) (hac a ha)⟩
    · rcases k2 with k2 | k2
      · rw [hc] at k2
        have : c = b := Option.some.inj k2
        subst this
        unfold stepB at hc
        cases best with
        | none => right; rw [← Option.some.inj hc]; exact List.mem_cons_self
        | some a =>
          simp only at hc
          split at hc
          · right; rw [← Option.some.inj hc]; exact List.mem_cons_self
          · left; exact hc
      · exact .inr (List.mem_cons_of_mem _ k2)
    · rcases List.mem_cons.1 hx with e | e
      · subst e; exact le x hr hrc
      · exact k3 x e
@[irreducible] noncomputable def candL (n : Nat) (f g fi gi : Nat → Nat → Nat) (u : List Int) (L : List (List Int)) : List (List Int) := (L.filter fun x => decide (x.take u.length ∈ wclL n f g fi gi u)).map (·.drop u.length)
theorem best_rest (hm : Mv n f g fi gi) {u w : List Int} (hu : WordOk n u) (hw : WordOk n w) (hl : u.length ≤ w.length) : (candL n f g fi gi u (wclL n f g fi gi w)).foldl stepB none = (restL n f g fi gi u w).head? := by
  have hmem : ∀ v, v ∈ candL n f g fi gi u (wclL n f g fi gi w) ↔ v ∈ restL n f g fi gi u w := by
    intro v
    rw [mem_restL hm hw]
    unfold candL
    rw [List.mem_map]
    constructor
    · rintro ⟨x, hx, rfl⟩
      obtain ⟨h1, h2⟩ := List.mem_filter.1 hx
      have h2 : x.take u.length ∈ wclL n f g fi gi u := by simpa using h2
      have h3 := (mem_wclL hm hu).1 h2
      have h4 := (mem_wclL hm hw).1 h1
      have hxo := h4.ok hm hw
      have h5 := (h3.symm hm hu).behind (x.drop u.length)
      rw [List.take_append_drop] at h5
      exact h4.trans h5
    · intro h
      refine ⟨u ++ v, List.mem_filter.2 ⟨(mem_wclL hm hw).2 h, by simpa using wclL_self hm hu⟩, by simp⟩
  have hlen : ∀ v, v ∈ candL n f g fi gi u (wclL n f g fi gi w) → v.length = w.length - u.length := by
    intro v hv
    have := ((mem_restL hm hw).1 ((hmem v).1 hv)).len
    simp at this
    omega
  obtain ⟨h1, h2⟩ := fold_best (m := w.length - u.length) (candL n f g fi gi u (wclL n f g fi gi w)) none hlen (fun b h => by cases h)
  cases e : (candL n f g fi gi u (wclL n f g fi gi w)).foldl stepB none with
  | none =>
    have h3 := (h1.1 e).2
    cases e2 : restL n f g fi gi u w with
    | nil => rfl
    | cons a r =>
      have := (hmem a).2 (by rw [e2]; exact List.mem_cons_self)
      rw [h3] at this
      cases this
  | some b =>
    obtain ⟨-, k2, k3, -⟩ := h2 b e
    rcases k2 with k2 | k2
    · cases k2
    · exact (lex_head (sorted_restL n f g fi gi u w) ((hmem b).1 k2) fun q hq => k3 q ((hmem q).2 hq)).symm

/-! ### divisors -/
@[irreducible] noncomputable def divK (n : Nat) (f g fi gi : Nat → Nat → Nat) (w : List Int) (k : Nat) : List (List Int) := by
  classical exact (allL n k).filter fun v => decide (∃ x, x ∈ wclL n f g fi gi w ∧ nfL n f g fi gi (x.take k) = v)
theorem sorted_divK (n : Nat) (f g fi gi : Nat → Nat → Nat) (w : List Int) (k : Nat) : (divK n f g fi gi w k).Pairwise LexLt := by
  unfold divK
  exact (sorted_allL n _).filter _
theorem begin_ok (hm : Mv n f g fi gi) {w x : List Int} (hw : WordOk n w) (hx : x ∈ wclL n f g fi gi w) (k : Nat) : WordOk n (x.take k) := by
  have h := ((mem_wclL hm hw).1 hx).ok hm hw
  have e := List.take_append_drop k x
  rw [← e] at h
  exact h.left
theorem mem_divK (hm : Mv n f g fi gi) {w v : List Int} (hw : WordOk n w) {k : Nat} (hk : k ≤ w.length) : v ∈ divK n f g fi gi w k ↔ ∃ x, x ∈ wclL n f g fi gi w ∧ nfL n f g fi gi (x.take k) = v := by
  unfold divK
  rw [List.mem_filter, mem_allL]
  constructor
  · intro h; simpa using h.2
  · intro h
    refine ⟨?_, by simpa using h⟩
    obtain ⟨x, hx, rfl⟩ := h
    have hb := begin_ok hm hw hx k
    have h1 := nfL_eqv hm hb
    have h2 := h1.len
    have h3 := ((mem_wclL hm hw).1 hx).len
    rw [List.length_take, h3] at h2
    have h4 : (nfL n f g fi gi (x.take k)).length = k := by omega
    exact ⟨h4, fun i hi => h1.ok hm hb i (by omega)⟩
theorem begin_few (hm : Mv n f g fi gi) {w x : List Int} (hw : WordOk n w) (hx : x ∈ wclL n f g fi gi w) (k : Nat) : (wclL n f g fi gi (x.take k)).length ≤ (wclL n f g fi gi w).length := by
  have h := (mem_wclL hm hw).1 hx
  have hok := h.ok hm hw
  have e := List.take_append_drop k x
  have := wclL_begin hm (p := x.take k) (q := x.drop k) (by rw [e]; exact hok)
  rw [e, wclL_same hm hw h] at this
  exact this
theorem div_divides (hm : Mv n f g fi gi) {w v : List Int} (hw : WordOk n w) {k : Nat} (hk : k ≤ w.length) (h : v ∈ divK n f g fi gi w k) : restL n f g fi gi v w ≠ [] ∧ WordOk n v ∧ v.length = k ∧ (wclL n f g fi gi v).length ≤ (wclL n f g fi gi w).length := by
  obtain ⟨x, hx, rfl⟩ := (mem_divK hm hw hk).1 h
  have hb := begin_ok hm hw hx k
  have h1 := nfL_eqv hm hb
  have h0 := (mem_wclL hm hw).1 hx
  have h2 := (h1.behind (x.drop k))
  rw [List.take_append_drop] at h2
  refine ⟨fun e => ?_, h1.ok hm hb, ?_, ?_⟩
  · have := (mem_restL hm hw).2 (h0.trans h2)
    rw [e] at this
    cases this
  · have := h1.len
    rw [List.length_take, h0.len] at this
    omega
  · rw [wclL_same hm hb h1]; exact begin_few hm hw hx k
@[irreducible] noncomputable def divTo (n : Nat) (f g fi gi : Nat → Nat → Nat) (w : List Int) (k : Nat) : List (List Int) := (List.range k).flatMap (divK n f g fi gi w)
theorem divTo_zero (n : Nat) (f g fi gi : Nat → Nat → Nat) (w : List Int) : divTo n f g fi gi w 0 = [] := by unfold divTo; rfl
theorem divTo_succ (n : Nat) (f g fi gi : Nat → Nat → Nat) (w : List Int) (k : Nat) : divTo n f g fi gi w (k + 1) = divTo n f g fi gi w k ++ divK n f g fi gi w k := by unfold divTo; rw [List.range_succ, List.flatMap_append]; simp
theorem mem_divTo {w v : List Int} {m : Nat} : v ∈ divTo n f g fi gi w m ↔ ∃ k, k < m ∧ v ∈ divK n f g fi gi w k := by
  unfold divTo; rw [List.mem_flatMap]; simp
end
end Go.Proofs.YtjfjpngajboidaaGreat


namespace Go.Proofs.YtjfjpngajboidaaGreat
set_option linter.unusedVariables false
set_option linter.unusedSimpArgs false

theorem inv_ex {L S : List (List Int)} (h : SolOk L S) : ∃ T U, InvTo L S L.length 0 T U := by
  have hy : ∀ x, x < L.length → (∃ T U, InvTo L S x 0 T U) → ∀ y, y ≤ L.length → ∃ T U, InvTo L S x y T U := by
    intro x hx h0 y
    induction y with
    | zero => exact fun _ => h0
    | succ y ih =>
      intro hy
      obtain ⟨T, U, hI⟩ := ih (by omega)
      exact ⟨_, _, hI.step h hx (by omega)⟩
  have hx : ∀ x, x ≤ L.length → ∃ T U, InvTo L S x 0 T U := by
    intro x
    induction x with
    | zero => exact fun _ => ⟨_, _, InvTo.start h⟩
    | succ x ih =>
      intro hx
      obtain ⟨T, U, hI⟩ := hy x (by omega) (ih (by omega)) L.length (Nat.le_refl _)
      exact ⟨_, _, hI.next⟩
  exact hx L.length (Nat.le_refl _)
@[irreducible] noncomputable def invP (L S : List (List Int)) : List (List Int) × List (List Int) := by
  classical exact if h : ∃ q : List (List Int) × List (List Int), InvTo L S L.length 0 q.1 q.2 then Classical.choose h else ([], [])
theorem invP_ok {L S : List (List Int)} (h : SolOk L S) : InvTo L S L.length 0 (invP L S).1 (invP L S).2 := by
  obtain ⟨T, U, hI⟩ := inv_ex h
  have hq : ∃ q : List (List Int) × List (List Int), InvTo L S L.length 0 q.1 q.2 := ⟨(T, U), hI⟩
  unfold invP
  rw [dif_pos hq]
  exact Classical.choose_spec hq
theorem invP_eq {L S T U : List (List Int)} (h : SolOk L S) (hI : InvTo L S L.length 0 T U) : (invP L S).1 = T ∧ (invP L S).2 = U := inv_eq h (invP_ok h) hI
theorem mvP {L S : List (List Int)} (h : SolOk L S) : Mv L.length (mulN L) (mulN S) (mulN (invP L S).1) (mulN (invP L S).2) := mv_of h (invP_ok h)
def EqS (L S : List (List Int)) (u v : List Int) : Prop := Eqv (mulN L) (mulN S) (mulN (invP L S).1) (mulN (invP L S).2) u v
@[irreducible] noncomputable def clS (L S : List (List Int)) (u : List Int) : List (List Int) := wclL L.length (mulN L) (mulN S) (mulN (invP L S).1) (mulN (invP L S).2) u
@[irreducible] noncomputable def nfS (L S : List (List Int)) (u : List Int) : List Int := nfL L.length (mulN L) (mulN S) (mulN (invP L S).1) (mulN (invP L S).2) u
@[irreducible] noncomputable def rsS (L S : List (List Int)) (u w : List Int) : List (List Int) := restL L.length (mulN L) (mulN S) (mulN (invP L S).1) (mulN (invP L S).2) u w
theorem clS_def (L S : List (List Int)) (u : List Int) : clS L S u = wclL L.length (mulN L) (mulN S) (mulN (invP L S).1) (mulN (invP L S).2) u := by unfold clS; rfl
theorem nfS_def (L S : List (List Int)) (u : List Int) : nfS L S u = nfL L.length (mulN L) (mulN S) (mulN (invP L S).1) (mulN (invP L S).2) u := by unfold nfS; rfl
theorem rsS_def (L S : List (List Int)) (u w : List Int) : rsS L S u w = restL L.length (mulN L) (mulN S) (mulN (invP L S).1) (mulN (invP L S).2) u w := by unfold rsS; rfl
theorem clS_eq {L S T U : List (List Int)} (h : SolOk L S) (hI : InvTo L S L.length 0 T U) (u : List Int) : wclL L.length (mulN L) (mulN S) (mulN T) (mulN U) u = clS L S u := by
  obtain ⟨e1, e2⟩ := invP_eq h hI
  rw [clS_def, e1, e2]
section
variable {L S : List (List Int)}
theorem mem_clS (h : SolOk L S) {u v : List Int} (hu : WordOk L.length u) : v ∈ clS L S u ↔ EqS L S u v := by rw [clS_def]; exact mem_wclL (mvP h) hu
theorem EqS.len {u v : List Int} (h : EqS L S u v) : v.length = u.length := Eqv.len h
theorem EqS.ok {u v : List Int} (h : EqS L S u v) (hs : SolOk L S) (hu : WordOk L.length u) : WordOk L.length v := Eqv.ok (mvP hs) h hu
theorem EqS.refl (u : List Int) : EqS L S u u := Eqv.refl
theorem EqS.trans {u v w : List Int} (h : EqS L S u v) (k : EqS L S v w) : EqS L S u w := Eqv.trans h k
theorem EqS.symm {u v : List Int} (h : EqS L S u v) (hs : SolOk L S) (hu : WordOk L.length u) : EqS L S v u := Eqv.symm (mvP hs) h hu
theorem clS_self (h : SolOk L S) {u : List Int} (hu : WordOk L.length u) : u ∈ clS L S u := (mem_clS h hu).2 (EqS.refl u)
theorem clS_same (h : SolOk L S) {u v : List Int} (hu : WordOk L.length u) (e : EqS L S u v) : clS L S v = clS L S u := by rw [clS_def, clS_def]; exact wclL_same (mvP h) hu e
theorem clS_begin (h : SolOk L S) {p q : List Int} (hu : WordOk L.length (p ++ q)) : (clS L S p).length ≤ (clS L S (p ++ q)).length := by rw [clS_def, clS_def]; exact wclL_begin (mvP h) hu
theorem clS_end (h : SolOk L S) {p q : List Int} (hu : WordOk L.length (p ++ q)) : (clS L S q).length ≤ (clS L S (p ++ q)).length := by rw [clS_def, clS_def]; exact wclL_end (mvP h) hu
theorem clS_word (h : SolOk L S) {u v : List Int} (hu : WordOk L.length u) (hv : v ∈ clS L S u) : WordOk L.length v ∧ v.length = u.length := ⟨((mem_clS h hu).1 hv).ok h hu, ((mem_clS h hu).1 hv).len⟩
theorem clS_row (h : SolOk L S) {u : List Int} (hu : WordOk L.length u) {i : Nat} (hi : i < (clS L S u).length) : row (clS L S u) i ∈ clS L S u := by
  rw [row_eq, List.getD_eq_getElem?_getD, List.getElem?_eq_getElem hi]; exact List.getElem_mem hi
theorem clS_pos (h : SolOk L S) {u : List Int} (hu : WordOk L.length u) : 0 < (clS L S u).length := List.length_pos_of_mem (clS_self h hu)
theorem nfS_row (h : SolOk L S) {u : List Int} (hu : WordOk L.length u) : nfS L S u = row (clS L S u) 0 := by
  obtain ⟨r, e⟩ := nfL_head (mvP h) hu
  rw [nfS_def, clS_def, e, row_eq]
  rfl
theorem nfS_eqv (h : SolOk L S) {u : List Int} (hu : WordOk L.length u) : EqS L S u (nfS L S u) := by rw [nfS_def]; exact nfL_eqv (mvP h) hu
theorem nfS_word (h : SolOk L S) {u : List Int} (hu : WordOk L.length u) : WordOk L.length (nfS L S u) ∧ (nfS L S u).length = u.length := ⟨(nfS_eqv h hu).ok h hu, (nfS_eqv h hu).len⟩
theorem mem_rsS (h : SolOk L S) {u v w : List Int} (hw : WordOk L.length w) : v ∈ rsS L S u w ↔ EqS L S w (u ++ v) := by rw [rsS_def]; exact mem_restL (mvP h) hw
theorem rest_nf (h : SolOk L S) {u v w : List Int} (hw : WordOk L.length w) (e : (rsS L S u w).head? = some v) : nfS L S v = v ∧ WordOk L.length v ∧ EqS L S w (u ++ v) := by
  rw [rsS_def] at e
  rw [nfS_def]
  exact rest_normal (mvP h) hw e
end
/-! ### codes -/
@[irreducible] noncomputable def clsC (L S : List (List Int)) (w : List Int) : Int := if codeW L S w w = 0 then (if (clS L S w).length ≤ 1000 then 0 else 3) else codeW L S w w
theorem clsC_bad {L S : List (List Int)} {w : List Int} (h : codeW L S w w ≠ 0) : clsC L S w = codeW L S w w := by unfold clsC; rw [if_neg h]
theorem clsC_many {L S : List (List Int)} {w : List Int} (h : codeW L S w w = 0) (k : 1000 < (clS L S w).length) : clsC L S w = 3 := by unfold clsC; rw [if_pos h, if_neg (by omega)]
theorem clsC_ok {L S : List (List Int)} {w : List Int} (h : codeW L S w w = 0) (k : (clS L S w).length ≤ 1000) : clsC L S w = 0 := by unfold clsC; rw [if_pos h, if_pos k]
theorem clsC_zero {L S : List (List Int)} {w : List Int} (h : clsC L S w = 0) : codeW L S w w = 0 ∧ (clS L S w).length ≤ 1000 := by
  by_cases h1 : codeW L S w w = 0
  · refine ⟨h1, ?_⟩
    by_cases h2 : (clS L S w).length ≤ 1000
    · exact h2
    · rw [clsC_many h1 (by omega)] at h; cases h
  · rw [clsC_bad h1] at h; exact absurd h h1
@[irreducible] noncomputable def dvC (L S : List (List Int)) (u w : List Int) : Int := if codeW L S u w = 0 then (if (clS L S u).length ≤ 1000 ∧ (clS L S w).length ≤ 1000 then 0 else 3) else codeW L S u w
theorem dvC_bad {L S : List (List Int)} {u w : List Int} (h : codeW L S u w ≠ 0) : dvC L S u w = codeW L S u w := by unfold dvC; rw [if_neg h]
theorem dvC_many {L S : List (List Int)} {u w : List Int} (h : codeW L S u w = 0) (k : ¬ ((clS L S u).length ≤ 1000 ∧ (clS L S w).length ≤ 1000)) : dvC L S u w = 3 := by unfold dvC; rw [if_pos h, if_neg k]
theorem dvC_ok {L S : List (List Int)} {u w : List Int} (h : codeW L S u w = 0) (k : (clS L S u).length ≤ 1000) (k2 : (clS L S w).length ≤ 1000) : dvC L S u w = 0 := by unfold dvC; rw [if_pos h, if_pos ⟨k, k2⟩]
theorem dvC_zero {L S : List (List Int)} {u w : List Int} (h : dvC L S u w = 0) : codeW L S u w = 0 ∧ (clS L S u).length ≤ 1000 ∧ (clS L S w).length ≤ 1000 := by
  by_cases h1 : codeW L S u w = 0
  · refine ⟨h1, ?_⟩
    by_cases h2 : (clS L S u).length ≤ 1000 ∧ (clS L S w).length ≤ 1000
    · exact h2
    · rw [dvC_many h1 h2] at h; cases h
  · rw [dvC_bad h1] at h; exact absurd h h1
@[irreducible] noncomputable def dvB (L S : List (List Int)) (u w : List Int) : Bool := decide (dvC L S u w = 0) && !(rsS L S u w).isEmpty
theorem dvB_no {L S : List (List Int)} {u w : List Int} (h : dvC L S u w ≠ 0) : dvB L S u w = false := by unfold dvB; rw [decide_eq_false h]; rfl
theorem dvB_ok {L S : List (List Int)} {u w : List Int} (h : dvC L S u w = 0) : dvB L S u w = !(rsS L S u w).isEmpty := by unfold dvB; rw [decide_eq_true h]; rfl
@[irreducible] noncomputable def quC (L S : List (List Int)) (u w : List Int) : Int := if dvC L S u w = 0 then (if (rsS L S u w).isEmpty then 4 else 0) else dvC L S u w
theorem quC_bad {L S : List (List Int)} {u w : List Int} (h : dvC L S u w ≠ 0) : quC L S u w = dvC L S u w := by unfold quC; rw [if_neg h]
theorem quC_no {L S : List (List Int)} {u w : List Int} (h : dvC L S u w = 0) (k : (rsS L S u w).isEmpty = true) : quC L S u w = 4 := by unfold quC; rw [if_pos h, if_pos k]
theorem quC_ok {L S : List (List Int)} {u w : List Int} (h : dvC L S u w = 0) (k : (rsS L S u w).isEmpty = false) : quC L S u w = 0 := by unfold quC; rw [if_pos h, if_neg (by rw [k]; simp)]
@[irreducible] noncomputable def quV (L S : List (List Int)) (u w : List Int) : List Int := (rsS L S u w).headD []
theorem quV_head {L S : List (List Int)} {u w : List Int} (h : (rsS L S u w).isEmpty = false) : (rsS L S u w).head? = some (quV L S u w) := by
  unfold quV
  cases e : rsS L S u w with
  | nil => rw [e] at h; cases h
  | cons a r => rfl
end Go.Proofs.YtjfjpngajboidaaGreat


namespace Go.Proofs.YtjfjpngajboidaaGreat
set_option linter.unusedVariables false
set_option linter.unusedSimpArgs false

@[irreducible] noncomputable def bstS (L S : List (List Int)) (u : List Int) (l : List (List Int)) : Option (List Int) := (candL L.length (mulN L) (mulN S) (mulN (invP L S).1) (mulN (invP L S).2) u l).foldl stepB none
section
variable {L S : List (List Int)}
theorem bstS_nil (u : List Int) : bstS L S u [] = none := by unfold bstS candL; rfl
theorem bstS_yes {u x : List Int} {l : List (List Int)} (h : x.take u.length ∈ clS L S u) : bstS L S u (l ++ [x]) = stepB (bstS L S u l) (x.drop u.length) := by
  rw [clS_def] at h
  unfold bstS candL
  rw [List.filter_append, List.map_append, List.foldl_append]
  simp [h]
theorem bstS_no {u x : List Int} {l : List (List Int)} (h : x.take u.length ∉ clS L S u) : bstS L S u (l ++ [x]) = bstS L S u l := by
  rw [clS_def] at h
  unfold bstS candL
  rw [List.filter_append, List.map_append, List.foldl_append]
  simp [h]
theorem bstS_all (h : SolOk L S) {u w : List Int} (hu : WordOk L.length u) (hw : WordOk L.length w) (hl : u.length ≤ w.length) : bstS L S u (clS L S w) = (rsS L S u w).head? := by
  rw [rsS_def, clS_def]
  unfold bstS
  exact best_rest (mvP h) hu hw hl
theorem rsS_long (h : SolOk L S) {u w : List Int} (hw : WordOk L.length w) (hl : w.length < u.length) : rsS L S u w = [] := by
  cases e : rsS L S u w with
  | nil => rfl
  | cons a r =>
    have h1 := ((mem_rsS h hw).1 (by rw [e]; exact List.mem_cons_self)).len
    simp at h1
    omega
end
theorem stepB_none (r : List Int) : stepB none r = some r := rfl
theorem stepB_less {b r : List Int} (h : lessB r b = true) : stepB (some b) r = some r := by unfold stepB; simp [h]
theorem stepB_keep {b r : List Int} (h : lessB r b = false) : stepB (some b) r = some b := by unfold stepB; simp [h]
theorem clsC_part {L S : List (List Int)} (h : SolOk L S) {p q w : List Int} (hw : WordOk L.length w) (h8 : w.length ≤ 8) (he : EqS L S w (p ++ q)) (hl : (clS L S w).length ≤ 1000) : clsC L S p = 0 ∧ clsC L S q = 0 := by
  have hpq := he.ok h hw
  have hlen := he.len
  simp at hlen
  have hs := clS_same h hw he
  have h1 := clS_begin h hpq
  have h2 := clS_end h hpq
  rw [hs] at h1 h2
  have hsb := solB_iff.2 h
  have w1 : wordB L.length p = true := wordB_iff.2 ⟨hpq.left, by omega⟩
  have w2 : wordB L.length q = true := wordB_iff.2 ⟨hpq.right, by omega⟩
  exact ⟨clsC_ok (codeW_ok hsb w1 w1) (by omega), clsC_ok (codeW_ok hsb w2 w2) (by omega)⟩
theorem intsW_take {w : World} {b o c k : Nat} {l : List Int} (h : IntsAt w b o l) (hl : l.length ≤ 1048576) (hk : k ≤ l.length) : Ints w (.slice (some ⟨b, o, none⟩) k c) (l.take k) := by
  have hlk : (l.take k).length = k := by rw [List.length_take]; omega
  refine ⟨by omega, b, o, c, by rw [hlk], fun i hi => ?_⟩
  rw [hlk] at hi
  have e := h i (by omega)
  rw [e]
  congr 2
  rw [ix_eq, ix_eq, List.getD_eq_getElem?_getD, List.getD_eq_getElem?_getD, List.getElem?_take, if_pos hi]
theorem intsW_drop {w : World} {b o c k : Nat} {l : List Int} (h : IntsAt w b o l) (hl : l.length ≤ 1048576) (hk : k ≤ l.length) : Ints w (.slice (some ⟨b, o + k, none⟩) (l.length - k) c) (l.drop k) := by
  have hlk : (l.drop k).length = l.length - k := by rw [List.length_drop]
  refine ⟨by omega, b, o + k, c, by rw [hlk], fun i hi => ?_⟩
  rw [hlk] at hi
  have e := h (k + i) (by omega)
  rw [Nat.add_assoc, e]
  congr 2
  rw [ix_eq, ix_eq, List.getD_eq_getElem?_getD, List.getD_eq_getElem?_getD, List.getElem?_drop]
end Go.Proofs.YtjfjpngajboidaaGreat


namespace Go.Proofs.YtjfjpngajboidaaGreat
set_option linter.unusedVariables false
set_option linter.unusedSimpArgs false
open Go.RowKit
open Go.Deep

set_option maxRecDepth 100000 in
set_option maxHeartbeats 1000000 in
theorem l09Word_any (n : Nat) (l : List Int) (v : Value) (w : World) (hv : Ints w v l) (hn : n ≤ 12) :
    Calls Tryz.prog 64 #[.int .i64 n, v] w fun e w' => e = .returned (.bool (wordB n l)) ∧ w = w' := by
  obtain ⟨hl, b, o, c, rfl, hc⟩ := hv
  go_enter Tryz.func64, Tryz.ntmps64
  go_wp2_with fail
  go_loopw [5] (fun i wr => ∃ k : Nat, k ≤ l.length ∧ i = .int .i64 k ∧ (∀ j, j < k → 0 ≤ ix l j ∧ ix l j < n) ∧ w = wr) (fun i _ => l.length - (intOf i).toNat)
  case atStart => exact ⟨0, Nat.zero_le _, rfl, fun j hj => by omega, rfl⟩
  case round =>
    obtain ⟨k, hk, rfl, hok, rfl⟩ := hrel
    have HOK := Lib.hid hok
    clear hok
    by_cases hlt : k < l.length
    case neg =>
      have hki : ¬ (k : Int) < (l.length : Int) := by omega
      have hE := wordB_end (n := n) (l := l) (fun i hi => HOK.out i (by omega))
      have hb : decide ((l.length : Int) ≤ 8) = decide (l.length ≤ 8) := by rw [decide_eq_decide]; omega
      go_wp2
      go_ret
      exact ⟨by first | rfl | (rw [hE, ← hb]; rfl), rfl⟩
    case pos =>
      have hki : (k : Int) < (l.length : Int) := by omega
      have c0 := hc k hlt
      have hn1 : IntKind.i64.wrap ((n : Int) - 1) = (n : Int) - 1 := IntWalk.i64_in _ (by omega)
      go_wp2_with fail
      refine (l01In_any (ix l k) 0 ((n : Int) - 1) w).mono ?_
      rintro e w1 ⟨rfl, rfl⟩
      cases h : inR (ix l k) 0 ((n : Int) - 1) with
      | false =>
        go_wp2
        go_ret
        exact ⟨by rw [wordB_bad hlt h]; rfl, rfl⟩
      | true =>
        have hr := inR_iff.1 h
        go_wp2
        go_roundw
        case rel => exact ⟨k + 1, by omega, by go_num, fun j hj => by
          by_cases e : j = k
          · subst e; omega
          · exact HOK.out j (by omega), by first | rfl | trivial⟩
        case measure => simp [intOf]; omega

set_option maxRecDepth 100000 in
set_option maxHeartbeats 1000000 in
theorem l09Code_any (L S : List (List Int)) (p q : List Int) (v y u z : Value) (w : World) (hv : Rows w v L) (hy : Rows w y S) (hu : Ints w u p) (hz : Ints w z q) :
    Calls Tryz.prog 27 #[.agg #[v, y], u, z] w fun e w' => e = .returned (.int .i64 (codeW L S p q)) ∧ Ext w w' := by
  obtain ⟨-, b, o, c, rfl, -⟩ := id hv
  obtain ⟨-, b2, o2, c2, rfl, -⟩ := id hy
  have hx0 : Ext w (w.alloc (.cells #[.slice (some ⟨b, o, none⟩) L.length c, .slice (some ⟨b2, o2, none⟩) S.length c2] 26)) := (Ext.refl _).alloc _
  have k0 := cell_new2a w (.slice (some ⟨b, o, none⟩) L.length c) (.slice (some ⟨b2, o2, none⟩) S.length c2) 26
  have k1 := cell_new2b w (.slice (some ⟨b, o, none⟩) L.length c) (.slice (some ⟨b2, o2, none⟩) S.length c2) 26
  have HV := Lib.hid (hv.ext hx0)
  have HY := Lib.hid (hy.ext hx0)
  have HU := Lib.hid (hu.ext hx0)
  have HZ := Lib.hid (hz.ext hx0)
  clear hv hy hu hz
  go_enter Tryz.func27, Tryz.ntmps27
  go_wp2_with fail
  generalize (w.alloc (.cells #[.slice (some ⟨b, o, none⟩) L.length c, .slice (some ⟨b2, o2, none⟩) S.length c2] 26)) = w1 at *
  refine (l02Is_any L S _ _ _ HV.out HY.out).mono ?_
  rintro e w2 ⟨rfl, hx⟩
  replace k0 := hx.cell k0
  replace k1 := hx.cell k1
  cases hs : solB L S with
  | false =>
    go_wp2_with fail
    go_ret
    exact ⟨by rw [codeW_bad hs]; rfl, hx0.trans hx⟩
  | true =>
    have h12 := (solB_iff.1 hs).l.2.1
    go_wp2_with fail
    refine (l09Word_any L.length p _ _ (HU.out.ext hx) h12).mono ?_
    rintro e w3 ⟨rfl, rfl⟩
    cases h1 : wordB L.length p with
    | false =>
      go_wp2_with fail
      go_ret
      exact ⟨by rw [codeW_out hs (by rw [h1]; rfl)]; rfl, hx0.trans hx⟩
    | true =>
      go_wp2_with fail
      refine (l09Word_any L.length q _ _ (HZ.out.ext hx) h12).mono ?_
      rintro e w3 ⟨rfl, rfl⟩
      cases h2 : wordB L.length q with
      | false =>
        go_wp2_with fail
        go_ret
        exact ⟨by rw [codeW_out hs (by rw [h1, h2]; rfl)]; rfl, hx0.trans hx⟩
      | true =>
        go_wp2_with fail
        go_ret
        exact ⟨by rw [codeW_ok hs h1 h2]; rfl, hx0.trans hx⟩
end Go.Proofs.YtjfjpngajboidaaGreat


namespace Go.Proofs.YtjfjpngajboidaaGreat
set_option linter.unusedVariables false
set_option linter.unusedSimpArgs false
open Go.RowKit
attribute [local go_sem ↓] Go.wp_at_zero Go.wp_at_succ
open Go.Deep

structure TwoB (S R C lo : Nat) (w0 w : World) (v y : Value) (L U : List (List Int)) : Prop where
  bc : BoxV C w v y
  bb : BoxV R w (.slice none 0 0) (.slice none 0 0)
  a : RowsP (fun k => lo ≤ k) w v L
  u : RowsP (fun k => lo ≤ k) w y U
  l : L.length ≤ 13
  src : Src S w
  x : Ext w0 w
  rs : R < S
  sl : S < lo
  nc : C ≠ S
  nr : C ≠ R
  r0 : w0.heap.size ≤ R
theorem TwoB.touch {S R C lo : Nat} {w0 w w' : World} {v y : Value} {L U : List (List Int)} (h : TwoB S R C lo w0 w v y L U) (hs : Src S w') (m : Touch S (S + 1) w w') : TwoB S R C lo w0 w' v y L U :=
  ⟨h.bc.touchS m h.nc, h.bb.touchS m (by have := h.rs; omega), h.a.touch m (fun k hk => by have := h.sl; omega), h.u.touch m (fun k hk => by have := h.sl; omega), h.l, hs, h.x.touch m (by have := h.rs; have := h.r0; omega), h.rs, h.sl, h.nc, h.nr, h.r0⟩
theorem TwoB.ext {S R C lo : Nat} {w0 w w' : World} {v y : Value} {L U : List (List Int)} (h : TwoB S R C lo w0 w v y L U) (hx : Ext w w') : TwoB S R C lo w0 w' v y L U :=
  ⟨h.bc.ext hx, h.bb.ext hx, h.a.ext hx, h.u.ext hx, h.l, h.src.ext hx, h.x.trans hx, h.rs, h.sl, h.nc, h.nr, h.r0⟩
theorem TwoB.fin {S R C lo : Nat} {w0 w : World} {v y : Value} {L U : List (List Int)} (h : TwoB S R C lo w0 w v y L U) (v0 y0 : Value) : Rows ((w.setCell ⟨R, 0, none⟩ v0).setCell ⟨R, 1, none⟩ y0) v L ∧ Rows ((w.setCell ⟨R, 0, none⟩ v0).setCell ⟨R, 1, none⟩ y0) y U ∧ Ext w0 ((w.setCell ⟨R, 0, none⟩ v0).setCell ⟨R, 1, none⟩ y0) := by
  have k1 : ∀ k, lo ≤ k → k ≠ R := fun k hk => by have := h.rs; have := h.sl; omega
  exact ⟨((h.a.setO (a := ⟨R, 0, none⟩) k1 v0 (fun k h => h)).setO (a := ⟨R, 1, none⟩) k1 y0 (fun k h => h)).rows, ((h.u.setO (a := ⟨R, 0, none⟩) k1 v0 (fun k h => h)).setO (a := ⟨R, 1, none⟩) k1 y0 (fun k h => h)).rows, (h.x.setNew (p := ⟨R, 0, none⟩) h.r0 v0).setNew (p := ⟨R, 1, none⟩) h.r0 y0⟩
theorem RF.touchS {S lo : Nat} {D : Nat → Prop} {w w' : World} {x : Value} {l : List Int} (h : RF lo D w x l) (m : Touch S (S + 1) w w') (hS : S < lo) : RF lo D w' x l := h.keep m.size fun k h1 hk _ => m.block k hk (by omega)
theorem RF.rebase {lo lo' : Nat} {D : Nat → Prop} {w : World} {b n c : Nat} {l : List Int} (h : RF lo D w (.slice (some ⟨b, 0, none⟩) n c) l) (hb : lo' ≤ b) : RF lo' D w (.slice (some ⟨b, 0, none⟩) n c) l := by
  obtain ⟨h0, b', c', e, h2, h3, h4, h5⟩ := h
  simp only [Value.slice.injEq, Option.some.injEq, Addr.mk.injEq, and_true] at e
  obtain ⟨rfl, e2, rfl⟩ := e
  exact ⟨h0, b, c, by rw [e2], hb, h3, h4, h5⟩
theorem TwoB.make {S R : Nat} {w0 w1 w2 : World} {a1 a2 : Option Addr} {n1 c1 n2 c2 e : Nat} {L U : List (List Int)} (hb : BoxV R w2 (.slice none 0 0) (.slice none 0 0)) (h1 : RowsP (fun k => w1.heap.size ≤ k) w2 (.slice a1 n1 c1) L) (h2 : RowsP (fun k => w1.heap.size ≤ k) w2 (.slice a2 n2 c2) U) (hl : L.length ≤ 13) (hs : Src S w2) (hx : Ext w0 w2) (hrs : R < S) (hsl : S < w1.heap.size) (hr0 : w0.heap.size ≤ R) (hz : w1.heap.size ≤ w2.heap.size) : TwoB S R w2.heap.size w1.heap.size w0 (w2.alloc (.cells #[.slice a1 n1 c1, .slice a2 n2 c2] e)) (.slice a1 n1 c1) (.slice a2 n2 c2) L U := by
  have hxb : Ext w2 (w2.alloc (.cells #[.slice a1 n1 c1, .slice a2 n2 c2] e)) := (Ext.refl _).alloc _
  exact ⟨BoxV.new w2 _ _ e, hb.ext hxb, h1.ext hxb, h2.ext hxb, hl, hs.ext hxb, hx.trans hxb, hrs, hsl, by omega, by omega, hr0⟩
def DrawT2 (w : World) (e : Ending) (w' : World) : Prop := ∃ v y u x L U p q, e = .returned (.tuple #[.agg #[v, y], u, x]) ∧ Rows w' v L ∧ Rows w' y U ∧ Ints w' u p ∧ Ints w' x q ∧ p.length ≤ 20 ∧ q.length ≤ 20 ∧ Ext w w'
def DrawT1 (w : World) (e : Ending) (w' : World) : Prop := ∃ v y u L U p, e = .returned (.tuple #[.agg #[v, y], u]) ∧ Rows w' v L ∧ Rows w' y U ∧ Ints w' u p ∧ p.length ≤ 20 ∧ Ext w w'

set_option maxRecDepth 100000 in
set_option maxHeartbeats 4000000 in
theorem DrawDivisorsOfWord_any (bs : List Int) (v : Value) (w : World) (hv : BytesR w v bs) (hl : bs.length ≤ 4096) :
    Calls Tryz.prog 13 #[v] w (DrawT1 w) := by
  have hx0 : Ext w (w.alloc (.cells #[.slice none 0 0, .slice none 0 0] 26)) := (Ext.refl _).alloc _
  have HR0 := Lib.hid (BoxV.new w (.slice none 0 0) (.slice none 0 0) 26)
  have HV := Lib.hid (hv.ext hx0)
  have hz0 : w.heap.size < (w.alloc (.cells #[.slice none 0 0, .slice none 0 0] 26)).heap.size := by simp
  clear hv
  go_enter Tryz.func13, Tryz.ntmps13
  go_wp2_with fail
  generalize (w.alloc (.cells #[.slice none 0 0, .slice none 0 0] 26)) = w0 at *
  refine (l01From_any bs v w0 HV.out hl).mono ?_
  rintro e w1 ⟨S, rfl, hS, hs1, hx1⟩
  have hS1 := hs1.lt
  go_wp2_with fail
  refine (l07Spoil_any S 5 w1 hs1 (by omega) (by omega)).mono ?_
  rintro e w2 ⟨v2, y2, L, U, rfl, hA, hU, hl13, hs2, hT2⟩
  obtain ⟨d1, o1, c1, rfl⟩ := hA.shape
  obtain ⟨d2, o2, c2, rfl⟩ := hU.shape
  have HB := Lib.hid (TwoB.make (e := 26) ((HR0.out.ext hx1).touchS hT2 (by omega)) hA hU hl13 hs2 ((hx0.trans hx1).touch hT2 (by omega)) (by omega) hS1 (Nat.le_refl _) hT2.size)
  have hz2 := hT2.size
  clear hA hU hl13 hs2 hT2 hx0 hx1 HR0 HV hs1
  go_wp2_with fail
  generalize (w2.alloc (.cells #[.slice (some ⟨d1, o1, none⟩) L.length c1, .slice (some ⟨d2, o2, none⟩) U.length c2] 26)) = w3 at *
  obtain ⟨-, k0, k1, -, -⟩ := HB.out.bc
  obtain ⟨-, q0, q1, q2, q3⟩ := HB.out.bb
  go_region_with (first
    | (go_at_call 36; refine (l09Size_any L U _ _ _ (HB.out.a.rows.ext (by (repeat first | (with_reducible exact Ext.refl _) | (with_reducible assumption) | (with_reducible apply Ext.drew) | (with_reducible apply kx_drewN) | (with_reducible apply kx_alloc) | ((with_reducible refine kx_set ?_ ?_); (first | (simp only []; omega) | (simp; omega) | (focus (simp; done)))) ))) (HB.out.u.rows.ext (by (repeat first | (with_reducible exact Ext.refl _) | (with_reducible assumption) | (with_reducible apply Ext.drew) | (with_reducible apply kx_drewN) | (with_reducible apply kx_alloc) | ((with_reducible refine kx_set ?_ ?_); (first | (simp only []; omega) | (simp; omega) | (focus (simp; done)))) )))).mono ?_; rintro e w4 ⟨rfl, hx4⟩; have HB4 := Lib.hid (HB.out.ext (show Ext w3 w4 by (repeat first | (with_reducible exact Ext.refl _) | (with_reducible assumption) | (with_reducible apply Ext.drew) | (with_reducible apply kx_drewN) | (with_reducible apply kx_alloc) | ((with_reducible refine kx_set ?_ ?_); (first | (simp only []; omega) | (simp; omega) | (focus (simp; done)))) | (with_reducible refine Ext.trans ?_ hx4) ))); obtain ⟨-, k0, k1, -, -⟩ := HB4.out.bc; obtain ⟨-, q0, q1, q2, q3⟩ := HB4.out.bb)
    | (go_at_call 35; refine (l09DrawWord_any S (size9 L) 4 _ (HB4.out.src.ext (by (repeat first | (with_reducible exact Ext.refl _) | (with_reducible assumption) | (with_reducible apply Ext.drew) | (with_reducible apply kx_drewN) | (with_reducible apply kx_alloc) | ((with_reducible refine kx_set ?_ ?_); (first | (simp only []; omega) | (simp; omega) | (focus (simp; done)))) ))) (size9_pos L) (by have := size9_le HB4.out.l; omega) (by omega)).mono ?_; rintro e w5 ⟨b5, c5, l5, rfl, hr5, hl5, -, hs5, hT5⟩; have HB5 := Lib.hid (HB4.out.touch hs5 (touch_pre (show Ext w4 _ by (repeat first | (with_reducible exact Ext.refl _) | (with_reducible assumption) | (with_reducible apply Ext.drew) | (with_reducible apply kx_drewN) | (with_reducible apply kx_alloc) | ((with_reducible refine kx_set ?_ ?_); (first | (simp only []; omega) | (simp; omega) | (focus (simp; done)))) )) hT5)); obtain ⟨-, k0, k1, -, -⟩ := HB5.out.bc; obtain ⟨-, q0, q1, q2, q3⟩ := HB5.out.bb))
  all_goals
    have HL5 := Lib.hid hl5
    have HRF := Lib.hid hr5
    have hz5 := Nat.lt_of_lt_of_le HB4.out.bb.1 (Ext.size (show Ext w4 _ by (repeat first | (with_reducible exact Ext.refl _) | (with_reducible assumption) | (with_reducible apply Ext.drew) | (with_reducible apply kx_drewN) | (with_reducible apply kx_alloc) | ((with_reducible refine kx_set ?_ ?_); (first | (simp only []; omega) | (simp; omega) | (focus (simp; done)))) )))
    clear hr5 hl5
    go_wp2
    have hf := HB5.out.fin (.slice (some ⟨d1, o1, none⟩) L.length c1) (.slice (some ⟨d2, o2, none⟩) U.length c2)
    exact bodyPost_ret (v := .tuple #[.agg #[.slice (some ⟨d1, o1, none⟩) L.length c1, .slice (some ⟨d2, o2, none⟩) U.length c2], .slice (some ⟨b5, 0, none⟩) l5.length c5]) (by simp [results, Tryz.results13, go_sem, q0, q1]) rfl
      ⟨_, _, _, L, U, l5, rfl, hf.1, hf.2.1, ((HRF.out.setOut (a := ⟨w.heap.size, 0, none⟩) (by simp only []; omega) _).setOut (a := ⟨w.heap.size, 1, none⟩) (by simp only []; omega) _).ints, HL5.out, hf.2.2⟩

set_option maxRecDepth 100000 in
set_option maxHeartbeats 8000000 in
theorem l09Two_any (bs : List Int) (v : Value) (w : World) (hv : BytesR w v bs) (hl : bs.length ≤ 4096) :
    Calls Tryz.prog 25 #[v] w (DrawT2 w) := by
  have hx0 : Ext w (w.alloc (.cells #[.slice none 0 0, .slice none 0 0] 26)) := (Ext.refl _).alloc _
  have HR0 := Lib.hid (BoxV.new w (.slice none 0 0) (.slice none 0 0) 26)
  have HV := Lib.hid (hv.ext hx0)
  have hz0 : w.heap.size < (w.alloc (.cells #[.slice none 0 0, .slice none 0 0] 26)).heap.size := by simp
  clear hv
  go_enter Tryz.func25, Tryz.ntmps25
  go_wp2_with fail
  generalize (w.alloc (.cells #[.slice none 0 0, .slice none 0 0] 26)) = w0 at *
  refine (l01From_any bs v w0 HV.out hl).mono ?_
  rintro e w1 ⟨S, rfl, hS, hs1, hx1⟩
  have hS1 := hs1.lt
  go_wp2_with fail
  refine (l07Spoil_any S 6 w1 hs1 (by omega) (by omega)).mono ?_
  rintro e w2 ⟨v2, y2, L, U, rfl, hA, hU, hl13, hs2, hT2⟩
  obtain ⟨d1, o1, c1, rfl⟩ := hA.shape
  obtain ⟨d2, o2, c2, rfl⟩ := hU.shape
  have HB := Lib.hid (TwoB.make (e := 26) ((HR0.out.ext hx1).touchS hT2 (by omega)) hA hU hl13 hs2 ((hx0.trans hx1).touch hT2 (by omega)) (by omega) hS1 (Nat.le_refl _) hT2.size)
  have hzc := hT2.size
  clear hA hU hl13 hs2 hT2 hx0 hx1 HR0 HV hs1
  go_wp2_with fail
  generalize (w2.alloc (.cells #[.slice (some ⟨d1, o1, none⟩) L.length c1, .slice (some ⟨d2, o2, none⟩) U.length c2] 26)) = w3 at *
  obtain ⟨-, k0, k1, -, -⟩ := HB.out.bc
  go_wp2_with fail
  refine (l09Size_any L U _ _ _ HB.out.a.rows HB.out.u.rows).mono ?_
  rintro e w4 ⟨rfl, hx4⟩
  have HB4 := Lib.hid (HB.out.ext hx4)
  clear hx4 HB k0 k1
  go_wp2_with fail
  refine (l09DrawWord_any S (size9 L) 5 _ HB4.out.src (size9_pos L) (by have := size9_le HB4.out.l; omega) (by omega)).mono ?_
  rintro e w5 ⟨b5, c5, q, rfl, hr5, hl5, hc5, hs5, hT5⟩
  have HB5 := Lib.hid (HB4.out.touch hs5 hT5)
  have HW5 := Lib.hid (show RF w1.heap.size (fun _ => False) w5 (.slice (some ⟨b5, 0, none⟩) q.length c5) q from RF.low hr5 (by have := HB4.out.bc.1; omega))
  have HL5 := Lib.hid hl5
  obtain ⟨-, k0, k1, -, -⟩ := HB5.out.bc
  clear hr5 hs5 hT5 HB4 hl5
  go_wp2_with fail
  refine (l02Is_any L U _ _ _ HB5.out.a.rows HB5.out.u.rows).mono ?_
  rintro e w6 ⟨rfl, hx6⟩
  have HBc := Lib.hid (HB5.out.ext hx6)
  have HWc := Lib.hid (RF.extS HW5.out hx6)
  clear hx6 HB5 HW5 k0 k1
  cases hsol : solB L U with
  | false =>
    clear hsol
    go_wp2_with fail
    obtain ⟨-, k0, k1, -, -⟩ := HBc.out.bc
    obtain ⟨-, q0, q1, q2, q3⟩ := HBc.out.bb
    go_region_with (first
      | (go_at_call 36; refine (l09Size_any L U _ _ _ (HBc.out.a.rows.ext (by (repeat first | (with_reducible exact Ext.refl _) | (with_reducible assumption) | (with_reducible apply Ext.drew) | (with_reducible apply kx_drewN) | (with_reducible apply kx_alloc) | ((with_reducible refine kx_set ?_ ?_); (first | (simp only []; omega) | (simp; omega) | (focus (simp; done)))) ))) (HBc.out.u.rows.ext (by (repeat first | (with_reducible exact Ext.refl _) | (with_reducible assumption) | (with_reducible apply Ext.drew) | (with_reducible apply kx_drewN) | (with_reducible apply kx_alloc) | ((with_reducible refine kx_set ?_ ?_); (first | (simp only []; omega) | (simp; omega) | (focus (simp; done)))) )))).mono ?_; rintro e wX ⟨rfl, hxX⟩; have HBX := Lib.hid (HBc.out.ext (show Ext w6 wX by (repeat first | (with_reducible exact Ext.refl _) | (with_reducible assumption) | (with_reducible apply Ext.drew) | (with_reducible apply kx_drewN) | (with_reducible apply kx_alloc) | ((with_reducible refine kx_set ?_ ?_); (first | (simp only []; omega) | (simp; omega) | (focus (simp; done)))) | (with_reducible refine Ext.trans ?_ hxX) ))); have HWX := Lib.hid (RF.extS HWc.out (show Ext w6 wX by (repeat first | (with_reducible exact Ext.refl _) | (with_reducible assumption) | (with_reducible apply Ext.drew) | (with_reducible apply kx_drewN) | (with_reducible apply kx_alloc) | ((with_reducible refine kx_set ?_ ?_); (first | (simp only []; omega) | (simp; omega) | (focus (simp; done)))) | (with_reducible refine Ext.trans ?_ hxX) ))); obtain ⟨-, k0, k1, -, -⟩ := HBX.out.bc; obtain ⟨-, q0, q1, q2, q3⟩ := HBX.out.bb)
      | (go_at_call 35; refine (l09DrawWord_any S (size9 L) 3 _ (HBX.out.src.ext (by (repeat first | (with_reducible exact Ext.refl _) | (with_reducible assumption) | (with_reducible apply Ext.drew) | (with_reducible apply kx_drewN) | (with_reducible apply kx_alloc) | ((with_reducible refine kx_set ?_ ?_); (first | (simp only []; omega) | (simp; omega) | (focus (simp; done)))) ))) (size9_pos L) (by have := size9_le HBX.out.l; omega) (by omega)).mono ?_; rintro e wY ⟨bY, cY, lY, rfl, hrY, hlY, -, hsY, hTY⟩; have hTY := touch_pre (show Ext wX _ by (repeat first | (with_reducible exact Ext.refl _) | (with_reducible assumption) | (with_reducible apply Ext.drew) | (with_reducible apply kx_drewN) | (with_reducible apply kx_alloc) | ((with_reducible refine kx_set ?_ ?_); (first | (simp only []; omega) | (simp; omega) | (focus (simp; done)))) )) hTY; have HBY := Lib.hid (HBX.out.touch hsY hTY); have HWY := Lib.hid (HWX.out.touchS hTY hS1); have hzbY := Nat.le_trans (Ext.size (show Ext wX _ by (repeat first | (with_reducible exact Ext.refl _) | (with_reducible assumption) | (with_reducible apply Ext.drew) | (with_reducible apply kx_drewN) | (with_reducible apply kx_alloc) | ((with_reducible refine kx_set ?_ ?_); (first | (simp only []; omega) | (simp; omega) | (focus (simp; done)))) ))) hrY.atS.1; have HRY := Lib.hid (RF.rebase (lo' := w1.heap.size) hrY (Nat.le_trans (Nat.le_trans hzc (Nat.le_of_lt HBX.out.bc.1)) hzbY)); obtain ⟨-, k0, k1, -, -⟩ := HBY.out.bc; obtain ⟨-, q0, q1, q2, q3⟩ := HBY.out.bb))
    all_goals
      have HLY := Lib.hid hlY
      clear hrY hlY
      go_wp2
      have hf := HBY.out.fin (.slice (some ⟨d1, o1, none⟩) L.length c1) (.slice (some ⟨d2, o2, none⟩) U.length c2)
      exact bodyPost_ret (v := .tuple #[.agg #[.slice (some ⟨d1, o1, none⟩) L.length c1, .slice (some ⟨d2, o2, none⟩) U.length c2], .slice (some ⟨bY, 0, none⟩) lY.length cY, .slice (some ⟨b5, 0, none⟩) q.length c5]) (by simp [results, Tryz.results25, go_sem, q0, q1]) rfl
        ⟨_, _, _, _, L, U, lY, q, rfl, hf.1, hf.2.1, ((HRY.out.setOut (a := ⟨w.heap.size, 0, none⟩) (by simp only []; omega) _).setOut (a := ⟨w.heap.size, 1, none⟩) (by simp only []; omega) _).ints, ((HWY.out.setOut (a := ⟨w.heap.size, 0, none⟩) (by simp only []; omega) _).setOut (a := ⟨w.heap.size, 1, none⟩) (by simp only []; omega) _).ints, HLY.out, HL5.out, hf.2.2⟩
  | true =>
    have HP := Lib.hid (solB_iff.1 hsol).pair
    have hsz : size9 L = L.length := by unfold size9; rw [if_neg]; have := HP.out.l.1; omega
    have HSZ := Lib.hid hsz
    clear hsol hsz
    obtain ⟨-, k0, k1, -, -⟩ := HBc.out.bc
    go_wp2_with fail
    refine (l09Size_any L U _ _ _ HBc.out.a.rows HBc.out.u.rows).mono ?_
    rintro e w7 ⟨rfl, hx7⟩
    have HBd := Lib.hid (HBc.out.ext hx7)
    have HWd := Lib.hid (RF.extS HWc.out hx7)
    clear hx7 HBc HWc k0 k1
    go_wp2_with fail
    refine (l09Word_any (size9 L) q _ _ HWd.out.ints (by rw [HSZ.out]; exact HP.out.l.2.1)).mono ?_
    rintro e w8 ⟨rfl, rfl⟩
    have HBc := Lib.hid HBd.out
    have HWc := Lib.hid HWd.out
    clear HBd HWd
    cases hwb : wordB (size9 L) q with
    | false =>
      clear hwb
      go_wp2_with fail
      obtain ⟨-, k0, k1, -, -⟩ := HBc.out.bc
      obtain ⟨-, q0, q1, q2, q3⟩ := HBc.out.bb
      go_region_with (first
        | (go_at_call 36; refine (l09Size_any L U _ _ _ (HBc.out.a.rows.ext (by (repeat first | (with_reducible exact Ext.refl _) | (with_reducible assumption) | (with_reducible apply Ext.drew) | (with_reducible apply kx_drewN) | (with_reducible apply kx_alloc) | ((with_reducible refine kx_set ?_ ?_); (first | (simp only []; omega) | (simp; omega) | (focus (simp; done)))) ))) (HBc.out.u.rows.ext (by (repeat first | (with_reducible exact Ext.refl _) | (with_reducible assumption) | (with_reducible apply Ext.drew) | (with_reducible apply kx_drewN) | (with_reducible apply kx_alloc) | ((with_reducible refine kx_set ?_ ?_); (first | (simp only []; omega) | (simp; omega) | (focus (simp; done)))) )))).mono ?_; rintro e wX ⟨rfl, hxX⟩; have HBX := Lib.hid (HBc.out.ext (show Ext w7 wX by (repeat first | (with_reducible exact Ext.refl _) | (with_reducible assumption) | (with_reducible apply Ext.drew) | (with_reducible apply kx_drewN) | (with_reducible apply kx_alloc) | ((with_reducible refine kx_set ?_ ?_); (first | (simp only []; omega) | (simp; omega) | (focus (simp; done)))) | (with_reducible refine Ext.trans ?_ hxX) ))); have HWX := Lib.hid (RF.extS HWc.out (show Ext w7 wX by (repeat first | (with_reducible exact Ext.refl _) | (with_reducible assumption) | (with_reducible apply Ext.drew) | (with_reducible apply kx_drewN) | (with_reducible apply kx_alloc) | ((with_reducible refine kx_set ?_ ?_); (first | (simp only []; omega) | (simp; omega) | (focus (simp; done)))) | (with_reducible refine Ext.trans ?_ hxX) ))); obtain ⟨-, k0, k1, -, -⟩ := HBX.out.bc; obtain ⟨-, q0, q1, q2, q3⟩ := HBX.out.bb)
        | (go_at_call 35; refine (l09DrawWord_any S (size9 L) 3 _ (HBX.out.src.ext (by (repeat first | (with_reducible exact Ext.refl _) | (with_reducible assumption) | (with_reducible apply Ext.drew) | (with_reducible apply kx_drewN) | (with_reducible apply kx_alloc) | ((with_reducible refine kx_set ?_ ?_); (first | (simp only []; omega) | (simp; omega) | (focus (simp; done)))) ))) (size9_pos L) (by have := size9_le HBX.out.l; omega) (by omega)).mono ?_; rintro e wY ⟨bY, cY, lY, rfl, hrY, hlY, -, hsY, hTY⟩; have hTY := touch_pre (show Ext wX _ by (repeat first | (with_reducible exact Ext.refl _) | (with_reducible assumption) | (with_reducible apply Ext.drew) | (with_reducible apply kx_drewN) | (with_reducible apply kx_alloc) | ((with_reducible refine kx_set ?_ ?_); (first | (simp only []; omega) | (simp; omega) | (focus (simp; done)))) )) hTY; have HBY := Lib.hid (HBX.out.touch hsY hTY); have HWY := Lib.hid (HWX.out.touchS hTY hS1); have hzbY := Nat.le_trans (Ext.size (show Ext wX _ by (repeat first | (with_reducible exact Ext.refl _) | (with_reducible assumption) | (with_reducible apply Ext.drew) | (with_reducible apply kx_drewN) | (with_reducible apply kx_alloc) | ((with_reducible refine kx_set ?_ ?_); (first | (simp only []; omega) | (simp; omega) | (focus (simp; done)))) ))) hrY.atS.1; have HRY := Lib.hid (RF.rebase (lo' := w1.heap.size) hrY (Nat.le_trans (Nat.le_trans hzc (Nat.le_of_lt HBX.out.bc.1)) hzbY)); obtain ⟨-, k0, k1, -, -⟩ := HBY.out.bc; obtain ⟨-, q0, q1, q2, q3⟩ := HBY.out.bb))
      all_goals
        have HLY := Lib.hid hlY
        clear hrY hlY
        go_wp2
        have hf := HBY.out.fin (.slice (some ⟨d1, o1, none⟩) L.length c1) (.slice (some ⟨d2, o2, none⟩) U.length c2)
        exact bodyPost_ret (v := .tuple #[.agg #[.slice (some ⟨d1, o1, none⟩) L.length c1, .slice (some ⟨d2, o2, none⟩) U.length c2], .slice (some ⟨bY, 0, none⟩) lY.length cY, .slice (some ⟨b5, 0, none⟩) q.length c5]) (by simp [results, Tryz.results25, go_sem, q0, q1]) rfl
          ⟨_, _, _, _, L, U, lY, q, rfl, hf.1, hf.2.1, ((HRY.out.setOut (a := ⟨w.heap.size, 0, none⟩) (by simp only []; omega) _).setOut (a := ⟨w.heap.size, 1, none⟩) (by simp only []; omega) _).ints, ((HWY.out.setOut (a := ⟨w.heap.size, 0, none⟩) (by simp only []; omega) _).setOut (a := ⟨w.heap.size, 1, none⟩) (by simp only []; omega) _).ints, HLY.out, HL5.out, hf.2.2⟩
    | true =>
      have HWB := Lib.hid (show WordOk L.length q ∧ q.length ≤ 8 from by rw [HSZ.out] at hwb; exact wordB_iff.1 hwb)
      clear hwb
      go_wp2_with fail
      refine (l01Next_any S _ _ HBc.out.src).mono ?_
      rintro e w9 ⟨r, rfl, -, -, -, hs9, hT9⟩
      have HBd := Lib.hid (HBc.out.touch hs9 hT9)
      have HWd := Lib.hid (HWc.out.touchS hT9 hS1)
      clear hs9 hT9 HBc HWc
      have HBc := Lib.hid HBd.out
      have HWc := Lib.hid HWd.out
      clear HBd HWd
      by_cases hr : r = 0
      case pos =>
        subst hr
        go_wp2_with fail
        obtain ⟨-, k0, k1, -, -⟩ := HBc.out.bc
        obtain ⟨-, q0, q1, q2, q3⟩ := HBc.out.bb
        go_region_with (first
          | (go_at_call 36; refine (l09Size_any L U _ _ _ (HBc.out.a.rows.ext (by (repeat first | (with_reducible exact Ext.refl _) | (with_reducible assumption) | (with_reducible apply Ext.drew) | (with_reducible apply kx_drewN) | (with_reducible apply kx_alloc) | ((with_reducible refine kx_set ?_ ?_); (first | (simp only []; omega) | (simp; omega) | (focus (simp; done)))) ))) (HBc.out.u.rows.ext (by (repeat first | (with_reducible exact Ext.refl _) | (with_reducible assumption) | (with_reducible apply Ext.drew) | (with_reducible apply kx_drewN) | (with_reducible apply kx_alloc) | ((with_reducible refine kx_set ?_ ?_); (first | (simp only []; omega) | (simp; omega) | (focus (simp; done)))) )))).mono ?_; rintro e wX ⟨rfl, hxX⟩; have HBX := Lib.hid (HBc.out.ext (show Ext w9 wX by (repeat first | (with_reducible exact Ext.refl _) | (with_reducible assumption) | (with_reducible apply Ext.drew) | (with_reducible apply kx_drewN) | (with_reducible apply kx_alloc) | ((with_reducible refine kx_set ?_ ?_); (first | (simp only []; omega) | (simp; omega) | (focus (simp; done)))) | (with_reducible refine Ext.trans ?_ hxX) ))); have HWX := Lib.hid (RF.extS HWc.out (show Ext w9 wX by (repeat first | (with_reducible exact Ext.refl _) | (with_reducible assumption) | (with_reducible apply Ext.drew) | (with_reducible apply kx_drewN) | (with_reducible apply kx_alloc) | ((with_reducible refine kx_set ?_ ?_); (first | (simp only []; omega) | (simp; omega) | (focus (simp; done)))) | (with_reducible refine Ext.trans ?_ hxX) ))); obtain ⟨-, k0, k1, -, -⟩ := HBX.out.bc; obtain ⟨-, q0, q1, q2, q3⟩ := HBX.out.bb)
          | (go_at_call 35; refine (l09DrawWord_any S (size9 L) 3 _ (HBX.out.src.ext (by (repeat first | (with_reducible exact Ext.refl _) | (with_reducible assumption) | (with_reducible apply Ext.drew) | (with_reducible apply kx_drewN) | (with_reducible apply kx_alloc) | ((with_reducible refine kx_set ?_ ?_); (first | (simp only []; omega) | (simp; omega) | (focus (simp; done)))) ))) (size9_pos L) (by have := size9_le HBX.out.l; omega) (by omega)).mono ?_; rintro e wY ⟨bY, cY, lY, rfl, hrY, hlY, -, hsY, hTY⟩; have hTY := touch_pre (show Ext wX _ by (repeat first | (with_reducible exact Ext.refl _) | (with_reducible assumption) | (with_reducible apply Ext.drew) | (with_reducible apply kx_drewN) | (with_reducible apply kx_alloc) | ((with_reducible refine kx_set ?_ ?_); (first | (simp only []; omega) | (simp; omega) | (focus (simp; done)))) )) hTY; have HBY := Lib.hid (HBX.out.touch hsY hTY); have HWY := Lib.hid (HWX.out.touchS hTY hS1); have hzbY := Nat.le_trans (Ext.size (show Ext wX _ by (repeat first | (with_reducible exact Ext.refl _) | (with_reducible assumption) | (with_reducible apply Ext.drew) | (with_reducible apply kx_drewN) | (with_reducible apply kx_alloc) | ((with_reducible refine kx_set ?_ ?_); (first | (simp only []; omega) | (simp; omega) | (focus (simp; done)))) ))) hrY.atS.1; have HRY := Lib.hid (RF.rebase (lo' := w1.heap.size) hrY (Nat.le_trans (Nat.le_trans hzc (Nat.le_of_lt HBX.out.bc.1)) hzbY)); obtain ⟨-, k0, k1, -, -⟩ := HBY.out.bc; obtain ⟨-, q0, q1, q2, q3⟩ := HBY.out.bb))
        all_goals
          have HLY := Lib.hid hlY
          clear hrY hlY
          go_wp2
          have hf := HBY.out.fin (.slice (some ⟨d1, o1, none⟩) L.length c1) (.slice (some ⟨d2, o2, none⟩) U.length c2)
          exact bodyPost_ret (v := .tuple #[.agg #[.slice (some ⟨d1, o1, none⟩) L.length c1, .slice (some ⟨d2, o2, none⟩) U.length c2], .slice (some ⟨bY, 0, none⟩) lY.length cY, .slice (some ⟨b5, 0, none⟩) q.length c5]) (by simp [results, Tryz.results25, go_sem, q0, q1]) rfl
            ⟨_, _, _, _, L, U, lY, q, rfl, hf.1, hf.2.1, ((HRY.out.setOut (a := ⟨w.heap.size, 0, none⟩) (by simp only []; omega) _).setOut (a := ⟨w.heap.size, 1, none⟩) (by simp only []; omega) _).ints, ((HWY.out.setOut (a := ⟨w.heap.size, 0, none⟩) (by simp only []; omega) _).setOut (a := ⟨w.heap.size, 1, none⟩) (by simp only []; omega) _).ints, HLY.out, HL5.out, hf.2.2⟩
      case neg =>
        have hq20 := HL5.out
        go_wp2_with fail
        refine (l01Next_eq S (q.length + 1) _ _ HBc.out.src (by omega) (by omega)).mono ?_
        rintro e wa ⟨j, hj, rfl, hsa, hTa⟩
        have HBa := Lib.hid (HBc.out.touch hsa hTa)
        have HWa := Lib.hid (HWc.out.touchS hTa hS1)
        have hqi := HWa.out.ints
        have hjq : j ≤ q.length := by omega
        have hjc : j ≤ c5 := by omega
        have hjc' : (j : Int) ≤ (c5 : Int) := by omega
        have HI := Lib.hid (show Ints wa (.slice (some ⟨b5, 0, none⟩) j c5) (q.take j) from by
          obtain ⟨hql, b', o', c', e', hi'⟩ := hqi
          simp only [Value.slice.injEq, Option.some.injEq, Addr.mk.injEq, and_true, true_and] at e'
          obtain ⟨⟨rfl, rfl⟩, rfl⟩ := e'
          exact intsW_take hi' hql hjq)
        clear hsa hTa HBc HWc hqi
        go_wp2_with fail
        refine (l01Own_any (q.take j) _ _ HI.out).mono ?_
        rintro e wb ⟨bu, cu, rfl, hou, hxu⟩
        have hU := RF.own (c := cu) hou (by rw [List.length_take]; omega) (Nat.le_refl _)
        have hlj : (q.take j).length = j := by rw [List.length_take]; omega
        rw [hlj] at hU ⊢
        have HU := Lib.hid hU
        clear hU hlj
        have HBb := Lib.hid (HBa.out.ext hxu)
        have HWb := Lib.hid (RF.extS HWa.out hxu)
        have HUb := Lib.hid (show RF w1.heap.size (fun _ => False) wb (.slice (some ⟨bu, 0, none⟩) j cu) (q.take j) from RF.low HU.out (by have := HBa.out.bc.1; omega))
        have HLU := Lib.hid (show (q.take j).length ≤ 20 by rw [List.length_take]; have := HL5.out; omega)
        clear hou hxu HU HI HBa HWa
        go_wp2_with fail
        refine (l01Next_nat S 6 _ HBb.out.src (by omega)).mono ?_
        rintro e wd ⟨k, hk, rfl, hsd, hTd⟩
        have HBd := Lib.hid (HBb.out.touch hsd hTd)
        have HWd := Lib.hid (HWb.out.touchS hTd hS1)
        have HUd := Lib.hid (HUb.out.touchS hTd hS1)
        clear hsd hTd HBb HWb HUb
        go_wp2_with fail
        go_loopw [7, 9] (fun vw vk wr => ∃ (k : Nat) (p : List Int) (b c : Nat), k ≤ 5 ∧ vk = .int .i64 k ∧ vw = .slice (some ⟨b, 0, none⟩) p.length c ∧ RF w1.heap.size (fun _ => False) wr (.slice (some ⟨b, 0, none⟩) p.length c) p ∧ WordOk L.length p ∧ p.length ≤ 8 ∧ TwoB S w.heap.size w2.heap.size w1.heap.size w wr (.slice (some ⟨d1, o1, none⟩) L.length c1) (.slice (some ⟨d2, o2, none⟩) U.length c2) L U ∧ RF w1.heap.size (fun _ => False) wr (.slice (some ⟨bu, 0, none⟩) j cu) (q.take j)) (fun _ vk _ => (intOf vk).toNat)
        case atStart => exact ⟨k, q, b5, c5, by omega, rfl, rfl, HWd.out, HWB.out.1, HWB.out.2, HBd.out, HUd.out⟩
        case round =>
          clear HBd HWd HUd hk
          obtain ⟨k, p, b, c, hk5, rfl, rfl, hw, hwo, hp8, hb, hu⟩ := hrel
          have HW := Lib.hid hw
          have HWO := Lib.hid hwo
          have HB := Lib.hid hb
          have HU := Lib.hid hu
          clear hw hwo hb hu
          obtain ⟨-, k0, k1, -, -⟩ := HB.out.bc
          obtain ⟨-, q0, q1, q2, q3⟩ := HB.out.bb
          by_cases hkp : 0 < k ∧ 1 < p.length
          case neg =>
            have hend : ∀ (vk : Value), True := fun _ => trivial
            clear hend
            have hf := HB.out.fin (.slice (some ⟨d1, o1, none⟩) L.length c1) (.slice (some ⟨d2, o2, none⟩) U.length c2)
            have HF := Lib.hid hf
            clear hf
            by_cases hk0 : 0 < k
            case neg =>
              have hki : ¬ (0 : Int) < (k : Int) := by omega
              go_wp2
              exact bodyPost_ret (v := .tuple #[.agg #[.slice (some ⟨d1, o1, none⟩) L.length c1, .slice (some ⟨d2, o2, none⟩) U.length c2], .slice (some ⟨bu, 0, none⟩) j cu, .slice (some ⟨b, 0, none⟩) p.length c]) (by simp [results, Tryz.results25, go_sem, q0, q1]) rfl
                ⟨_, _, _, _, L, U, q.take j, p, rfl, HF.out.1, HF.out.2.1, ((HU.out.setOut (a := ⟨w.heap.size, 0, none⟩) (by simp only []; omega) _).setOut (a := ⟨w.heap.size, 1, none⟩) (by simp only []; omega) _).ints, ((HW.out.setOut (a := ⟨w.heap.size, 0, none⟩) (by simp only []; omega) _).setOut (a := ⟨w.heap.size, 1, none⟩) (by simp only []; omega) _).ints, HLU.out, by omega, HF.out.2.2⟩
            case pos =>
              have hki : (0 : Int) < (k : Int) := by omega
              have hpi : ¬ (1 : Int) < (p.length : Int) := by omega
              go_wp2
              exact bodyPost_ret (v := .tuple #[.agg #[.slice (some ⟨d1, o1, none⟩) L.length c1, .slice (some ⟨d2, o2, none⟩) U.length c2], .slice (some ⟨bu, 0, none⟩) j cu, .slice (some ⟨b, 0, none⟩) p.length c]) (by simp [results, Tryz.results25, go_sem, q0, q1]) rfl
                ⟨_, _, _, _, L, U, q.take j, p, rfl, HF.out.1, HF.out.2.1, ((HU.out.setOut (a := ⟨w.heap.size, 0, none⟩) (by simp only []; omega) _).setOut (a := ⟨w.heap.size, 1, none⟩) (by simp only []; omega) _).ints, ((HW.out.setOut (a := ⟨w.heap.size, 0, none⟩) (by simp only []; omega) _).setOut (a := ⟨w.heap.size, 1, none⟩) (by simp only []; omega) _).ints, HLU.out, by omega, HF.out.2.2⟩
          case pos =>
            obtain ⟨hk0, hp1⟩ := hkp
            have hki : (0 : Int) < (k : Int) := by omega
            have hpi : (1 : Int) < (p.length : Int) := by omega
            have hwr : IntKind.i64.wrap ((p.length : Int) - 1) = (p.length : Int) - 1 := IntWalk.i64_in _ (by omega)
            go_wp2_with fail
            go_region_with (first
              | (go_at_call 42; refine (l01Next_eq S (p.length - 1) _ _ (HB.out.src.ext (by (repeat first | (with_reducible exact Ext.refl _) | (with_reducible assumption) | (with_reducible apply Ext.drew) | (with_reducible apply kx_drewN) | (with_reducible apply kx_alloc) | ((with_reducible refine kx_set ?_ ?_); (first | (simp only []; omega) | (simp; omega) | (focus (simp; done)))) ))) (by omega) (by omega)).mono ?_; rintro e wX ⟨i, hi, rfl, hsX, hTX⟩; have hTX := touch_pre (show Ext wr _ by (repeat first | (with_reducible exact Ext.refl _) | (with_reducible assumption) | (with_reducible apply Ext.drew) | (with_reducible apply kx_drewN) | (with_reducible apply kx_alloc) | ((with_reducible refine kx_set ?_ ?_); (first | (simp only []; omega) | (simp; omega) | (focus (simp; done)))) )) hTX; have HBX := Lib.hid (HB.out.touch hsX hTX); have HWX := Lib.hid (HW.out.touchS hTX hS1); have HUX := Lib.hid (HU.out.touchS hTX hS1); obtain ⟨-, k0, k1, -, -⟩ := HBX.out.bc)
              | (go_at_call 66; refine (l02Do_any L U p i _ _ _ _ (HBX.out.a.rows.ext (by (repeat first | (with_reducible exact Ext.refl _) | (with_reducible assumption) | (with_reducible apply Ext.drew) | (with_reducible apply kx_drewN) | (with_reducible apply kx_alloc) | ((with_reducible refine kx_set ?_ ?_); (first | (simp only []; omega) | (simp; omega) | (focus (simp; done)))) ))) (HBX.out.u.rows.ext (by (repeat first | (with_reducible exact Ext.refl _) | (with_reducible assumption) | (with_reducible apply Ext.drew) | (with_reducible apply kx_drewN) | (with_reducible apply kx_alloc) | ((with_reducible refine kx_set ?_ ?_); (first | (simp only []; omega) | (simp; omega) | (focus (simp; done)))) ))) (HWX.out.ints.ext (by (repeat first | (with_reducible exact Ext.refl _) | (with_reducible assumption) | (with_reducible apply Ext.drew) | (with_reducible apply kx_drewN) | (with_reducible apply kx_alloc) | ((with_reducible refine kx_set ?_ ?_); (first | (simp only []; omega) | (simp; omega) | (focus (simp; done)))) ))) HP.out HWO.out (by omega)).mono ?_; rintro e wY ⟨bY, cY, rfl, hoY, hxY⟩; have hzY := Nat.le_trans (Ext.size (show Ext wX _ by (repeat first | (with_reducible exact Ext.refl _) | (with_reducible assumption) | (with_reducible apply Ext.drew) | (with_reducible apply kx_drewN) | (with_reducible apply kx_alloc) | ((with_reducible refine kx_set ?_ ?_); (first | (simp only []; omega) | (simp; omega) | (focus (simp; done)))) ))) hoY.1; have hxY := (show Ext wX wY by (repeat first | (with_reducible exact Ext.refl _) | (with_reducible assumption) | (with_reducible apply Ext.drew) | (with_reducible apply kx_drewN) | (with_reducible apply kx_alloc) | ((with_reducible refine kx_set ?_ ?_); (first | (simp only []; omega) | (simp; omega) | (focus (simp; done)))) | (with_reducible refine Ext.trans ?_ hxY) ))))
            all_goals
              have HMO := Lib.hid (HP.out.move HWO.out (show i + 1 < p.length by omega))
              have HML := Lib.hid (show (moveL (mulN L) (mulN U) p i).length ≤ 8 by rw [length_moveL]; exact hp8)
              have HRY := Lib.hid (RF.rebase (lo' := w1.heap.size) (RF.own (c := cY) hoY (Nat.le_trans HML.out (by omega)) (Nat.le_refl _)) (by have := HBX.out.bc.1; omega))
              have HBY := Lib.hid (HBX.out.ext hxY)
              have HUY := Lib.hid (RF.extS HUX.out hxY)
              clear hoY hsX hTX
              go_wp2
              go_roundw
              case rel => exact ⟨k - 1, _, bY, cY, by omega, congrArg (Value.int .i64) (by omega), rfl, HRY.out, HMO.out, HML.out, HBY.out, HUY.out⟩
              case measure => simp [intOf]; omega

theorem ints_setNil {w : World} {v : Value} {l : List Int} (h : Ints w v l) {a : Addr} (ha : w.cell? a = some (.slice none 0 0)) (u : Value) : Ints (w.setCell a u) v l := by
  obtain ⟨h0, b, o, c, rfl, hi⟩ := h
  exact ⟨h0, b, o, c, rfl, hi.setSl ha u⟩
theorem rows_setNil {w : World} {v : Value} {t : List (List Int)} (h : Rows w v t) {a : Addr} (ha : w.cell? a = some (.slice none 0 0)) (u : Value) : Rows (w.setCell a u) v t := by
  obtain ⟨h0, b, o, c, rfl, hc⟩ := h
  refine ⟨h0, b, o, c, rfl, fun i hi => ?_⟩
  obtain ⟨x, h1, h2⟩ := hc i hi
  refine ⟨x, ?_, ints_setNil h2 ha u⟩
  rw [World.cell?_setCell_other _ _ _ _ (fun e => ?_)]
  · exact h1
  · rw [← e, ha] at h1
    obtain ⟨-, b', o', c', rfl, -⟩ := h2
    cases h1
theorem nil_after {w : World} {R : Nat} {u : Value} (h1 : w.cell? ⟨R, 1, none⟩ = some (.slice none 0 0)) : (w.setCell ⟨R, 0, none⟩ u).cell? ⟨R, 1, none⟩ = some (.slice none 0 0) := by
  rw [World.cell?_setCell_other _ _ _ _ (by simp)]; exact h1
theorem rows_setNil2 {w : World} {v : Value} {t : List (List Int)} {R : Nat} (h : Rows w v t) (h0 : w.cell? ⟨R, 0, none⟩ = some (.slice none 0 0)) (h1 : w.cell? ⟨R, 1, none⟩ = some (.slice none 0 0)) (u0 u1 : Value) : Rows ((w.setCell ⟨R, 0, none⟩ u0).setCell ⟨R, 1, none⟩ u1) v t := rows_setNil (rows_setNil h h0 u0) (nil_after h1) u1
theorem ints_setNil2 {w : World} {v : Value} {t : List Int} {R : Nat} (h : Ints w v t) (h0 : w.cell? ⟨R, 0, none⟩ = some (.slice none 0 0)) (h1 : w.cell? ⟨R, 1, none⟩ = some (.slice none 0 0)) (u0 u1 : Value) : Ints ((w.setCell ⟨R, 0, none⟩ u0).setCell ⟨R, 1, none⟩ u1) v t := ints_setNil (ints_setNil h h0 u0) (nil_after h1) u1

set_option maxRecDepth 100000 in
set_option maxHeartbeats 2000000 in
theorem DrawQuotientWord_any (bs : List Int) (v : Value) (w : World) (hv : BytesR w v bs) (hl : bs.length ≤ 4096) :
    Calls Tryz.prog 6 #[v] w (DrawT2 w) := by
  have hx0 : Ext w (w.alloc (.cells #[.slice none 0 0, .slice none 0 0] 26)) := (Ext.refl _).alloc _
  have HR0 := Lib.hid (BoxV.new w (.slice none 0 0) (.slice none 0 0) 26)
  have HV := Lib.hid (hv.ext hx0)
  have hz0 : w.heap.size < (w.alloc (.cells #[.slice none 0 0, .slice none 0 0] 26)).heap.size := by simp
  clear hv
  go_enter Tryz.func6, Tryz.ntmps6
  go_wp2_with fail
  generalize (w.alloc (.cells #[.slice none 0 0, .slice none 0 0] 26)) = w0 at *
  refine (l09Two_any bs v w0 HV.out hl).mono ?_
  rintro e w1 ⟨v1, y1, u1, x1, L, U, p, q, rfl, hA, hU, hp, hq, hpl, hql, hx1⟩
  obtain ⟨-, d1, o1, c1, rfl, -⟩ := id hA
  obtain ⟨-, d2, o2, c2, rfl, -⟩ := id hU
  obtain ⟨-, d3, o3, c3, rfl, -⟩ := id hp
  obtain ⟨-, d4, o4, c4, rfl, -⟩ := id hq
  have hxb : Ext w1 (w1.alloc (.cells #[.slice (some ⟨d1, o1, none⟩) L.length c1, .slice (some ⟨d2, o2, none⟩) U.length c2] 26)) := (Ext.refl _).alloc _
  have HB := Lib.hid (BoxV.new w1 (.slice (some ⟨d1, o1, none⟩) L.length c1) (.slice (some ⟨d2, o2, none⟩) U.length c2) 26)
  have HR := Lib.hid ((HR0.out.ext hx1).ext hxb)
  have HA := Lib.hid (hA.ext hxb)
  have HU := Lib.hid (hU.ext hxb)
  have HP := Lib.hid (hp.ext hxb)
  have HQ := Lib.hid (hq.ext hxb)
  have HX := Lib.hid ((hx0.trans hx1).trans hxb)
  clear hA hU hp hq hx1 hxb HR0 HV hx0
  obtain ⟨-, k0, k1, -, -⟩ := HB.out
  obtain ⟨-, q0, q1, q2, q3⟩ := HR.out
  go_wp2
  have a1 := rows_setNil2 HA.out q0 q1 (.slice (some ⟨d1, o1, none⟩) L.length c1) (.slice (some ⟨d2, o2, none⟩) U.length c2)
  have a2 := rows_setNil2 HU.out q0 q1 (.slice (some ⟨d1, o1, none⟩) L.length c1) (.slice (some ⟨d2, o2, none⟩) U.length c2)
  have a3 := ints_setNil2 HP.out q0 q1 (.slice (some ⟨d1, o1, none⟩) L.length c1) (.slice (some ⟨d2, o2, none⟩) U.length c2)
  have a4 := ints_setNil2 HQ.out q0 q1 (.slice (some ⟨d1, o1, none⟩) L.length c1) (.slice (some ⟨d2, o2, none⟩) U.length c2)
  exact bodyPost_ret (v := .tuple #[.agg #[.slice (some ⟨d1, o1, none⟩) L.length c1, .slice (some ⟨d2, o2, none⟩) U.length c2], .slice (some ⟨d3, o3, none⟩) p.length c3, .slice (some ⟨d4, o4, none⟩) q.length c4]) (by simp [results, Tryz.results6, go_sem, q0, q1]) rfl
    ⟨_, _, _, _, L, U, p, q, rfl, a1, a2, a3, a4, hpl, hql, (HX.out.setNew (p := ⟨w.heap.size, 0, none⟩) (Nat.le_refl _) _).setNew (p := ⟨w.heap.size, 1, none⟩) (Nat.le_refl _) _⟩
end Go.Proofs.YtjfjpngajboidaaGreat


namespace Go.Proofs.YtjfjpngajboidaaGreat
set_option linter.unusedVariables false
set_option linter.unusedSimpArgs false
open Go.RowKit
open Go.Deep
attribute [local go_sem ↓] Go.wp_at_zero Go.wp_at_succ

theorem newK_of {base : Nat} {e : TypeId} {w w3 : World} {b3 c3 : Nat} {l : List Int} (hb : base = w.heap.size) (hi : GrowI e base w3 (.slice (some ⟨b3, 0, none⟩) l.length c3) l) (hl : l.length ≤ 1048576) (ho : OwnI base w3.heap.size w3 b3 0 l) (hx : Ext w w3) : NewK l w (.returned (.slice (some ⟨b3, 0, none⟩) l.length c3)) w3 := by
  subst hb
  exact ⟨_, rfl, ⟨hl, b3, c3, rfl, hi.room, ho.1, ho.2.1, fun h => h, ho.2.2.1⟩, hx⟩

set_option maxRecDepth 100000 in
theorem l01Own_k (l : List Int) (v : Value) (w : World) (hv : Ints w v l) :
    Calls Tryz.prog 65 #[v] w (NewK l w) := by
  obtain ⟨hlen, b, o, c, rfl, hc⟩ := hv
  have hx0 : Ext w (w.alloc (.cells #[] 2)) := (Ext.refl _).alloc _
  have hi0 := GrowI.lit (e := 2) (base := w.heap.size) (w := w) (Nat.le_refl _)
  go_enter Tryz.func65, Tryz.ntmps65
  go_wp2_with (at_builtin; refine wpList_append_ints rfl _ _ 27 2 rfl Tryz.underlying27 infoInt w.heap.size _ _ rfl hi0 b o c l rfl (hc.ext hx0) (by simp) hlen (by simp) ?_)
  intro v' w3 hi3 hgr hv3
  have hx3 : Ext w w3 := hx0.grown hgr hi0 (Nat.le_refl _)
  have HI3 := Lib.hid hi3
  obtain ⟨b3, c3, rfl, ho⟩ := hi3.own (fun h => by first | exact hv3 h | simpa using (hv3.1 h).1)
  go_wp2
  go_ret
  exact newK_of rfl HI3.out hlen ho hx3

set_option maxRecDepth 100000 in
theorem slicesClone_k (l : List Int) (v : Value) (w : World) (hv : Ints w v l) :
    Calls Tryz.prog 68 #[v] w (NewK l w) := by
  obtain ⟨hlen, b, o, c, rfl, hc⟩ := hv
  have hx0 : Ext w (w.alloc (.cells #[] 2)) := (Ext.refl _).alloc _
  have hi0 := GrowI.lit (e := 2) (base := w.heap.size) (w := w) (Nat.le_refl _)
  have he : ∀ w : World, (binOp .eql 27 (.slice (some ⟨b, o, none⟩) l.length c) (.slice none 0 0)).run Tryz.prog w = .ok (.bool false) w := fun _ => rfl
  go_enter Tryz.func68, Tryz.ntmps68
  go_wp2_with (at_builtin; refine wpList_append_ints rfl _ _ 27 2 rfl Tryz.underlying27 infoInt w.heap.size _ _ rfl hi0 b o c l rfl (hc.ext hx0) (by simp) hlen (by simp) ?_)
  intro v' w3 hi3 hgr hv3
  have hx3 : Ext w w3 := hx0.grown hgr hi0 (Nat.le_refl _)
  have HI3 := Lib.hid hi3
  obtain ⟨b3, c3, rfl, ho⟩ := hi3.own (fun h => by first | exact hv3 h | simpa using (hv3.1 h).1)
  go_wp2
  go_ret
  exact newK_of rfl HI3.out hlen ho hx3

set_option maxRecDepth 100000 in
set_option maxHeartbeats 1000000 in
theorem l01Own2_k (t : List (List Int)) (v : Value) (w : World) (hv : Rows w v t) :
    Calls Tryz.prog 99 #[v] w fun e w' => ∃ v, e = .returned v ∧ RowsK w.heap.size w' v t ∧ Ext w w' := by
  obtain ⟨hlen, b, o, c, rfl, hc⟩ := id hv
  go_enter Tryz.func99, Tryz.ntmps99
  go_wp2
  have hx0 : Ext w (w.alloc (.cells #[] 27)) := (Ext.refl _).alloc _
  have hg0 := MineK.lit (e := 27) (lo := w.heap.size) (w := w) (fun _ => False) (Nat.le_refl _)
  go_loopw [3, 4] (fun v x wr => ∃ (k g c : Nat) (xs : List Value), k ≤ t.length ∧ x = .int .i64 k ∧ v = .slice (some ⟨g, 0, none⟩) (t.take k).length c ∧ MineK 27 w.heap.size (fun _ => False) wr g c xs (t.take k) ∧ Ext w wr) (fun _ x _ => t.length - (intOf x).toNat)
  case atStart => exact ⟨0, _, _, _, Nat.zero_le _, rfl, rfl, hg0, hx0⟩
  case round =>
    clear hx0 hg0
    obtain ⟨k, g, cg, xs, hk, rfl, rfl, hg, hx⟩ := hrel
    by_cases hkl : k < t.length
    case neg =>
      have : t.take k = t := List.take_of_length_le (by omega)
      rw [this] at hg
      rw [this]
      have HR := Lib.hid (hg.toRows hlen)
      clear hg this
      go_wp2
      go_ret
      exact ⟨_, by first | rfl | trivial, HR.out, hx⟩
    case pos =>
      obtain ⟨b4, o4, c4, r4, i4, m4⟩ := (hc.ext hx).get hkl
      have e4 := i4.ints m4 c4
      have HTK := Lib.hid (show (t.take k).length ≤ 1048576 by rw [List.length_take]; omega)
      have HT1 := Lib.hid (show t.take (k + 1) = t.take k ++ [row t k] from take_row t k hkl)
      have HG := Lib.hid hg
      have HX := Lib.hid hx
      have zg := hg.at_g
      clear hg hx i4
      go_wp2_with fail
      refine (l01Own_k (row t k) _ _ e4).mono ?_
      rintro e w3 ⟨x3, rfl, hr3, hx3⟩
      have HR3 := Lib.hid ((hr3.mono (lo' := w.heap.size) (D' := fun b => b = g ∨ False) (Below.size HX.out) (fun b h1 h2 q => q.elim (fun e => absurd e (by omega)) id)).ext (ext_box w3 x3 27))
      have hxb := hx3.trans (ext_box w3 x3 27)
      have HG3 := Lib.hid (HG.out.ext hxb)
      have HXB := Lib.hid (HX.out.trans hxb)
      have zb := HXB.out.size
      have hone := hr3.cell
      obtain ⟨-, b3, c3, rfl, -⟩ := id hr3
      have hlk : (t.take k).length = k := by rw [List.length_take]; omega
      have HOWN := Lib.hid (show (w3.alloc (.cells #[.slice (some ⟨b3, 0, none⟩) (row t k).length c3] 27)).ownsRow w.heap.size 27 1 (.slice (some ⟨g, 0, none⟩) k cg) k xs by have := HG3.out.own; rwa [hlk] at this)
      have HLK := Lib.hid hlk
      clear hr3 hx3 hxb HG e4 hlk
      go_wp2_with (at_builtin; refine wpList_append_one rfl _ _ 24 27 rfl Tryz.underlying24 infoSl w.heap.size _ _ xs rfl HOWN.out _ _ hone rfl (cell_new _ _ _) (by omega) zb ?_)
      intro v' w8 hown8 hgr8 hv8 hbl8
      obtain ⟨g', c', rfl, hm8, -⟩ := HG3.out.app HR3.out (by rw [HLK.out]; exact hown8) hgr8 hv8 (by
        rcases hbl8 with e | e
        · exact .inl e
        · exact .inr (by rw [show (w3.alloc (.cells #[.slice (some ⟨b3, 0, none⟩) (row t k).length c3] 27)).heap.size = w3.heap.size + 1 by simp]; exact e))
      have hX8 : Ext w w8 := Ext.grown HXB.out hgr8 HOWN.out (Nat.le_refl _)
      rw [← HT1.out] at hm8 ⊢
      clear hown8 hgr8 hv8 hbl8
      go_wp2
      go_roundw
      case rel => exact ⟨k + 1, _, _, _, by omega, by go_num, rfl, hm8, hX8⟩
      case measure => simp [intOf]; omega
end Go.Proofs.YtjfjpngajboidaaGreat
