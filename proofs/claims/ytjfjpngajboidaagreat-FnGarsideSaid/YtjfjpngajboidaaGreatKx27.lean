/-
  Draws of the reference: l05Any, l05Draw.
-/
import Derived.Test.YtjfjpngajboidaaGreatKx26
namespace Go.Proofs.YtjfjpngajboidaaGreat
set_option linter.unusedVariables false
set_option linter.unusedSimpArgs false
open Go.RowKit
attribute [local go_sem ↓] Go.wp_at_zero Go.wp_at_succ
open Go.Deep

def DrawC (S most : Nat) (w : World) (e : Ending) (w' : World) : Prop := ∃ v T, e = .returned (.agg #[v]) ∧ TabF w.heap.size w' v T ∧ 1 ≤ T.length ∧ T.length ≤ most ∧ (∀ x, x < T.length → IsoOk T.length [] [] (row T x)) ∧ Src S w' ∧ Touch S (S + 1) w w'
theorem drawC_end {S B lo most : Nat} {w w2 : World} {v v0 : Value} {T : List (List Int)} (hB : w.heap.size = B) (hlo : B < lo) (hT : TabF lo w2 v T) (h1 : 1 ≤ T.length) (hm : T.length ≤ most) (hp : ∀ x, x < T.length → IsoOk T.length [] [] (row T x)) (hs : Src S w2) (hS : S < B) (ht : Touch S (S + 1) w w2) :
    DrawC S most w (.returned (.agg #[v])) (w2.setCell ⟨B, 0, none⟩ v0) := by
  subst hB
  exact ⟨v, T, rfl, (hT.setOut (p := ⟨w.heap.size, 0, none⟩) hlo v0).low (by omega), h1, hm, hp, src_setCell hs (p := ⟨w.heap.size, 0, none⟩) hS v0, touch_setIn ht (p := ⟨w.heap.size, 0, none⟩) (Nat.le_refl _) v0⟩
theorem good_rows {L S : List (List Int)} (hP : PairOk L S) (h : goodB L S = true) : ∀ x, x < L.length → IsoOk L.length [] [] (row L x) := fun x hx => by
  rw [goodB_def, Bool.and_eq_true] at h
  exact isoOk_plain.2 ⟨hP.rowL hx, permRowsB_iff.1 h.1 x hx⟩

theorem flip_rows {n : Nat} {L : List (List Int)} (hl : L.length = n) (h : L = twA (idL n) n) : ∀ x, x < n → IsoOk n [] [] (row L x) := fun x hx => by
  rw [h, row_twA hx]
  exact idL_perm n

set_option maxRecDepth 100000 in
set_option maxHeartbeats 8000000 in
theorem l05Any_any (S most : Nat) (w : World) (hs : Src S w) (h1 : 1 ≤ most) (h12 : most ≤ 12) :
    Calls Tryz.prog 79 #[.pointer (some ⟨S, 0, none⟩), .int .i64 most] w (DrawC S most w) := by
  have hlt := hs.lt
  have hx0 : Ext w (w.alloc (.cells #[.slice none 0 0] 71)) := (Ext.refl _).alloc _
  have HR0 := Lib.hid (BoxOne.new w (.slice none 0 0) 71)
  have HS0 := Lib.hid (hs.ext hx0)
  have HT0 := Lib.hid (touch_ext (S := S) (Touch.of_ext (Ext.refl w)) hx0)
  have hz0 : w.heap.size < (w.alloc (.cells #[.slice none 0 0] 71)).heap.size := by simp
  clear hs hx0
  go_enter Tryz.func79, Tryz.ntmps79
  go_wp2_with fail
  generalize (w.alloc (.cells #[.slice none 0 0] 71)) = w0 at *
  refine (l01Next_nat S most w0 HS0.out h1).mono ?_
  rintro e w1 ⟨q, hq, rfl, hs1, hT1⟩
  have HT1 := Lib.hid (HT0.out.trans hT1)
  have HR1 := Lib.hid (HR0.out.touch hT1 (by omega))
  have hz1 := hT1.size
  clear hT1 HT0 HR0 HS0
  obtain ⟨n, hn⟩ : ∃ n, n = 1 + q := ⟨_, rfl⟩
  have hn1 : 1 ≤ n := by omega
  have hnm : n ≤ most := by omega
  have hni : (1 : Int) + (q : Int) = (n : Int) := by omega
  clear hn hq
  go_wp2_with fail
  refine (l01Next_any S 3 w1 hs1).mono ?_
  rintro e w2 ⟨k3, rfl, -, -, -, hs2, hT2⟩
  have HT2 := Lib.hid (HT1.out.trans hT2)
  have HR2 := Lib.hid (HR1.out.touch hT2 (by omega))
  have HS2 := Lib.hid hs2
  have hz2 := hT2.size
  clear hT2 HT1 HR1 hs1 hs2 hni
  have hwz : w0.heap.size ≤ w2.heap.size := by omega
  clear hz1 hz2
  go_upto_if 16 with fail
  go_cut [] (fun wx => Src S wx ∧ Touch S (S + 1) w wx ∧ BoxOne w.heap.size wx (.slice none 0 0) ∧ w0.heap.size ≤ wx.heap.size)
  case first =>
    by_cases hk0 : k3 = 0
    case neg =>
      go_wp2
      go_meet
      case rel => exact ⟨HS2.out, HT2.out, HR2.out, hwz⟩
    case pos =>
      subst hk0
      rw [show ((0 : Int) == 0) = true from rfl]
      go_wp2_with fail
      go_loopw [6] (fun i wr => ∃ k : Nat, k ≤ 30 ∧ i = .int .i64 k ∧ Src S wr ∧ Touch S (S + 1) w wr ∧ BoxOne w.heap.size wr (.slice none 0 0) ∧ w0.heap.size ≤ wr.heap.size) (fun i _ => 30 - (intOf i).toNat)
      case atStart => exact ⟨0, Nat.zero_le _, rfl, HS2.out, HT2.out, HR2.out, hwz⟩
      case round =>
        clear HS2 HT2 HR2 hwz
        obtain ⟨k, hk, rfl, hs, ht, hr, hz⟩ := hrel
        have HS := Lib.hid hs
        have HT := Lib.hid ht
        have HR := Lib.hid hr
        clear hs ht hr
        by_cases hkl : k < 30
        case neg =>
          have hki : ¬ (k : Int) < 30 := by omega
          go_wp2
          go_meet
          case rel => exact ⟨HS.out, HT.out, HR.out, hz⟩
        case pos =>
          have hki : (k : Int) < 30 := by omega
          go_wp2_with fail
          refine (l01Next_nat S n _ HS.out hn1).mono ?_
          rintro e w3 ⟨a, ha, rfl, hs3, hT3⟩
          go_wp2_with fail
          refine (l01Next_nat S n _ hs3 hn1).mono ?_
          rintro e w4 ⟨b, hb, rfl, hs4, hT4⟩
          go_wp2_with fail
          refine (l01Next_nat S n _ hs4 hn1).mono ?_
          rintro e w5 ⟨c, hc, rfl, hs5, hT5⟩
          have hT5 := (hT3.trans hT4).trans hT5
          have HR5 := Lib.hid (HR.out.touch hT5 (by omega))
          have HT5 := Lib.hid (HT.out.trans hT5)
          have hz5 := hT5.size
          go_wp2_with fail
          refine (l05Affine_any n a b c w5 hn1 (by omega)).mono ?_
          rintro e w6 ⟨v6, T, rfl, ht6, hl6, hr6, hx6⟩
          obtain ⟨ht60, d1, d2, rfl, hd1, hd1', -⟩ := id ht6
          have hxb : Ext w6 (w6.alloc (.cells #[.slice (some ⟨d1, 0, none⟩) T.length d2] 71)) := (Ext.refl _).alloc _
          have HB6 := Lib.hid (BoxOne.new w6 (.slice (some ⟨d1, 0, none⟩) T.length d2) 71)
          have hx67 := hx6.trans hxb
          have HT6 := Lib.hid (touch_ext HT5.out hx67)
          have HR6 := Lib.hid (HR5.out.ext hx67)
          have HS6 := Lib.hid (hs5.ext hx67)
          have HA6 := Lib.hid (ht6.ext hxb)
          have HL6 := Lib.hid hl6
          have hz6 := hx67.size
          clear hs3 hs4 hs5 hT3 hT4 hT5 hx67 hx6 hxb ht6 hl6 HT HR HS HR5 HT5 ht60
          go_wp2_with fail
          generalize (w6.alloc (.cells #[.slice (some ⟨d1, 0, none⟩) T.length d2] 71)) = w7 at *
          have m0 := HB6.out.2.1
          go_wp2_with fail
          refine (l05Is_any T _ _ HA6.out.rows).mono ?_
          rintro e w8 ⟨B, rfl, hB, hx8⟩
          have HT8 := Lib.hid (touch_ext HT6.out hx8)
          have HR8 := Lib.hid (HR6.out.ext hx8)
          have HS8 := Lib.hid (HS6.out.ext hx8)
          have HA8 := Lib.hid (HA6.out.ext hx8)
          have m8 := hx8.cell m0
          have hz8 := hx8.size
          have HBB := Lib.hid hB
          clear HT6 HR6 HS6 HA6 hx8 hB m0
          cases B with
          | true =>
            obtain ⟨-, q0, q1⟩ := HR8.out
            obtain ⟨-, hpp⟩ := HBB.out rfl
            have HPP := Lib.hid hpp
            clear hpp
            go_wp2
            exact bodyPost_ret (v := .agg #[.slice (some ⟨d1, 0, none⟩) T.length d2]) (by simp [results, Tryz.results79, go_sem, q0]) rfl (drawC_end (lo := w5.heap.size) rfl (by omega) HA8.out (by rw [HL6.out]; exact hn1) (by rw [HL6.out]; exact hnm) HPP.out HS8.out hlt HT8.out)
          | false =>
            go_wp2
            go_roundw
            case rel => exact ⟨k + 1, by omega, by go_num, HS8.out, HT8.out, HR8.out, by omega⟩
            case measure => simp [intOf]; omega
  case rest =>
    clear HS2 HT2 HR2 hwz
    obtain ⟨hs, ht, hr, hz⟩ := hcut
    have HS2 := Lib.hid hs
    have HT2 := Lib.hid ht
    have HR2 := Lib.hid hr
    clear hs ht hr
    go_wp2_with fail
    go_loopw [8] (fun i wr => ∃ k : Nat, k ≤ 8 ∧ i = .int .i64 k ∧ Src S wr ∧ Touch S (S + 1) w wr ∧ BoxOne w.heap.size wr (.slice none 0 0) ∧ w0.heap.size ≤ wr.heap.size) (fun i _ => 8 - (intOf i).toNat)
    case atStart => exact ⟨0, Nat.zero_le _, rfl, HS2.out, HT2.out, HR2.out, hz⟩
    case round =>
      clear HS2 HT2 HR2 hz
      obtain ⟨k, hk, rfl, hs, ht, hr, hz⟩ := hrel
      have HS := Lib.hid hs
      have HT := Lib.hid ht
      have HR := Lib.hid hr
      clear hs ht hr
      by_cases hkl : k < 8
      case neg =>
        have hki : ¬ (k : Int) < 8 := by omega
        go_wp2_with fail
        refine (l02Flip_any n _ hn1 (by omega)).mono ?_
        rintro e w3 ⟨v3, y3, L, U, rfl, ht3, hu3, hok3, hl3, hf3, hx3⟩
        have hpp := flip_rows hl3 hf3.1
        go_wp2_with fail
        refine (l05Cycle_any n L U v3 y3 _ ht3.rows hu3.rows hn1 (by omega) hl3 hpp).mono ?_
        rintro e w4 ⟨v4, T, rfl, ht4, hl4, hp4, hx4⟩
        obtain ⟨ht40, d1, d2, rfl, hd1, hd1', -⟩ := id ht4
        have hx34 := hx3.trans hx4
        have HT8 := Lib.hid (touch_ext HT.out hx34)
        have HR8 := Lib.hid (HR.out.ext hx34)
        have HS8 := Lib.hid (HS.out.ext hx34)
        have HA8 := Lib.hid ht4
        have HP8 := Lib.hid hp4
        have HL8 := Lib.hid hl4
        have hz3 := hx3.size
        clear ht40 ht4 hp4 hl4 hx34 hx3 hx4 ht3 hu3 hok3 hl3 hf3 hpp
        obtain ⟨-, q0, q1⟩ := HR8.out
        go_wp2
        exact bodyPost_ret (v := .agg #[.slice (some ⟨d1, 0, none⟩) T.length d2]) (by simp [results, Tryz.results79, go_sem, q0]) rfl (drawC_end (lo := w3.heap.size) rfl (by omega) HA8.out (by rw [HL8.out]; exact hn1) (by rw [HL8.out]; exact hnm) HP8.out HS8.out hlt HT8.out)
      case pos =>
        have hki : (k : Int) < 8 := by omega
        go_wp2_with fail
        refine (l02Draw_any S n _ HS.out hn1 (by omega)).mono ?_
        rintro e w3 ⟨v3, y3, L, U, rfl, ht3, hu3, hok3, hq3, hs3, hT3⟩
        have hul : U.length = L.length := hok3.len
        obtain ⟨ht30, d1, d2, rfl, -, -, -⟩ := id ht3
        obtain ⟨hu30, d3, d4, rfl, -, -, -⟩ := id hu3
        have hxb : Ext w3 (w3.alloc (.cells #[.slice (some ⟨d1, 0, none⟩) L.length d2, .slice (some ⟨d3, 0, none⟩) U.length d4] 26)) := (Ext.refl _).alloc _
        have HB3 := Lib.hid (BoxV.new w3 (.slice (some ⟨d1, 0, none⟩) L.length d2) (.slice (some ⟨d3, 0, none⟩) U.length d4) 26)
        have HT4 := Lib.hid (touch_ext (HT.out.trans hT3) hxb)
        have HR4 := Lib.hid ((HR.out.touch hT3 (by omega)).ext hxb)
        have HS4 := Lib.hid (hs3.ext hxb)
        have HA4 := Lib.hid (ht3.rows.ext hxb)
        have HU4 := Lib.hid (hu3.rows.ext hxb)
        have HOK := Lib.hid hok3
        have hz4 := Nat.le_trans hT3.size hxb.size
        have hL1 := hq3.1
        have hL2 : L.length ≤ n := hq3.2
        clear ht3 hu3 hok3 hq3 hs3 hT3 HT HR HS hxb ht30 hu30 hul
        go_wp2_with fail
        generalize (w3.alloc (.cells #[.slice (some ⟨d1, 0, none⟩) L.length d2, .slice (some ⟨d3, 0, none⟩) U.length d4] 26)) = w4 at *
        obtain ⟨-, m0, m1, -, -⟩ := HB3.out
        go_wp2_with fail
        refine (l02Good_any L U _ _ _ HA4.out HU4.out HOK.out).mono ?_
        rintro e w5 ⟨rfl, hx5⟩
        have HT5 := Lib.hid (touch_ext HT4.out hx5)
        have HR5 := Lib.hid (HR4.out.ext hx5)
        have HS5 := Lib.hid (HS4.out.ext hx5)
        have HA5 := Lib.hid (HA4.out.ext hx5)
        have HU5 := Lib.hid (HU4.out.ext hx5)
        have n0 := hx5.cell m0
        have n1 := hx5.cell m1
        have hz5 := hx5.size
        clear HT4 HR4 HS4 HA4 HU4 hx5 m0 m1
        cases hg : goodB L U with
        | false =>
          go_wp2
          go_roundw
          case rel => exact ⟨k + 1, by omega, by go_num, HS5.out, HT5.out, HR5.out, by omega⟩
          case measure => simp [intOf]; omega
        | true =>
          have HG := Lib.hid (good_rows HOK.out hg)
          clear hg
          go_wp2_with fail
          refine (l02Twice_any L U _ _ _ HA5.out HU5.out HOK.out).mono ?_
          rintro e w6 ⟨rfl, hx6⟩
          obtain ⟨bt, hbt⟩ : ∃ z, z = invB L.length (mulN L) (mulN U) := ⟨_, rfl⟩
          rw [← hbt]
          clear hbt
          have HT6 := Lib.hid (touch_ext HT5.out hx6)
          have HR6 := Lib.hid (HR5.out.ext hx6)
          have HS6 := Lib.hid (HS5.out.ext hx6)
          have HA6 := Lib.hid (HA5.out.ext hx6)
          have HU6 := Lib.hid (HU5.out.ext hx6)
          have r0 := hx6.cell n0
          have r1 := hx6.cell n1
          have hz6 := hx6.size
          clear HT5 HR5 HS5 HA5 HU5 hx6 n0 n1
          cases bt with
          | false =>
            go_wp2
            go_roundw
            case rel => exact ⟨k + 1, by omega, by go_num, HS6.out, HT6.out, HR6.out, by omega⟩
            case measure => simp [intOf]; omega
          | true =>
            go_wp2_with fail
            refine (l05Cycle_any L.length L U _ _ _ HA6.out HU6.out hL1 (by omega) rfl HG.out).mono ?_
            rintro e w7 ⟨v7, T, rfl, ht7, hl7, hp7, hx7⟩
            obtain ⟨ht70, d5, d6, rfl, -, -, -⟩ := id ht7
            have HT8 := Lib.hid (touch_ext HT6.out hx7)
            have HR8 := Lib.hid (HR6.out.ext hx7)
            have HS8 := Lib.hid (HS6.out.ext hx7)
            have HA8 := Lib.hid ht7
            have HP8 := Lib.hid hp7
            have HL8 := Lib.hid hl7
            clear ht70 ht7 hp7 hl7 hx7
            obtain ⟨-, q0, q1⟩ := HR8.out
            go_wp2
            exact bodyPost_ret (v := .agg #[.slice (some ⟨d5, 0, none⟩) T.length d6]) (by simp [results, Tryz.results79, go_sem, q0]) rfl (drawC_end (lo := w6.heap.size) rfl (by omega) HA8.out (by rw [HL8.out]; exact hL1) (by rw [HL8.out]; omega) HP8.out HS8.out hlt HT8.out)

theorem ren_rows {n : Nat} {t T : List (List Int)} {p : List Int} (h : RenTo n t p n 0 T) (hp : IsoOk n [] [] p) (hl : T.length = n) (hr : ∀ i, i < n → (row T i).length = n) (ht : ∀ x, x < n → IsoOk n [] [] (row t x)) : ∀ x, x < n → IsoOk n [] [] (row T x) := fun X hX => by
  obtain ⟨x, hx, ex⟩ := hp.surj hX
  have key : ∀ Y, Y < n → ∃ y, y < n ∧ ix p y = (Y : Int) ∧ ent T X Y = ix p (ent t x y).toNat := fun Y hY => by
    obtain ⟨y, hy, ey⟩ := hp.surj hY
    refine ⟨y, hy, ey, ?_⟩
    have := h x y hy (.inl hx)
    rw [ex, ey, Int.toNat_natCast, Int.toNat_natCast] at this
    exact this
  refine isoOk_plain.2 ⟨hr X hX, fun i hi => ?_, fun i hi j hj e => ?_⟩
  · rw [hr X hX] at hi ⊢
    obtain ⟨y, hy, _, e⟩ := key i hi
    rw [ent_def, e]
    have hb := (ht x hx).bd hy
    rw [ent_def] at hb
    have := hp.bd hb.2
    omega
  · rw [hr X hX] at hi
    have hj' : j < n := by omega
    obtain ⟨y, hy, e1, e2⟩ := key i hi
    obtain ⟨y', hy', e3, e4⟩ := key j hj'
    rw [ent_def, ent_def, e2, e4] at e
    have hb := (ht x hx).bd hy
    have hb' := (ht x hx).bd hy'
    rw [ent_def] at hb hb'
    have h1 := hp.inj hb.2 hb'.2 e.symm
    have h2 : ent t x y = ent t x y' := by omega
    have h3 := (ht x hx).inj hy hy' (by rw [ent_def, ent_def]; exact h2)
    subst h3
    rw [e1] at e3
    omega

set_option maxRecDepth 100000 in
set_option maxHeartbeats 4000000 in
theorem l05Draw_any (S most : Nat) (w : World) (hs : Src S w) (h1 : 1 ≤ most) (h12 : most ≤ 12) :
    Calls Tryz.prog 44 #[.pointer (some ⟨S, 0, none⟩), .int .i64 most] w (DrawC S most w) := by
  have hlt := hs.lt
  have hx0 : Ext w (w.alloc (.cells #[.slice none 0 0] 71)) := (Ext.refl _).alloc _
  have HR0 := Lib.hid (BoxOne.new w (.slice none 0 0) 71)
  have HS0 := Lib.hid (hs.ext hx0)
  have HT0 := Lib.hid (touch_ext (S := S) (Touch.of_ext (Ext.refl w)) hx0)
  have hz0 : w.heap.size < (w.alloc (.cells #[.slice none 0 0] 71)).heap.size := by simp
  clear hs hx0
  go_enter Tryz.func44, Tryz.ntmps44
  go_wp2_with fail
  generalize (w.alloc (.cells #[.slice none 0 0] 71)) = w0 at *
  refine (l05Any_any S most w0 HS0.out h1 h12).mono ?_
  rintro e w1 ⟨v1, T, rfl, ht, hq1, hq2, hpp, hs1, hT1⟩
  obtain ⟨ht0, d1, d2, rfl, hd1, -⟩ := id ht
  have hxb : Ext w1 (w1.alloc (.cells #[.slice (some ⟨d1, 0, none⟩) T.length d2] 71)) := (Ext.refl _).alloc _
  have HB1 := Lib.hid (BoxOne.new w1 (.slice (some ⟨d1, 0, none⟩) T.length d2) 71)
  have HT1 := Lib.hid (touch_ext (HT0.out.trans hT1) hxb)
  have HR1 := Lib.hid ((HR0.out.touch hT1 (by omega)).ext hxb)
  have HA1 := Lib.hid (ht.ext hxb)
  have HS1 := Lib.hid (hs1.ext hxb)
  have HPP := Lib.hid hpp
  have hz1 := Nat.le_trans hT1.size hxb.size
  have hBz : w0.heap.size ≤ w1.heap.size := hT1.size
  clear ht hs1 hT1 hxb HT0 HR0 HS0 ht0 hd1 hpp
  go_wp2_with fail
  generalize (w1.alloc (.cells #[.slice (some ⟨d1, 0, none⟩) T.length d2] 71)) = w2 at *
  refine (l01Next_any S _ _ HS1.out).mono ?_
  rintro e w3 ⟨r, rfl, r1, r2, -, hs3, hT3⟩
  have HT3 := Lib.hid (HT1.out.trans hT3)
  have HR3 := Lib.hid (HR1.out.touch hT3 (by omega))
  have HB3 := Lib.hid (HB1.out.touch hT3 (by omega))
  have HA3 := Lib.hid (HA1.out.touch hT3 (by omega))
  have HS3 := Lib.hid hs3
  have hz3 := hT3.size
  clear hT3 hs3 HT1 HR1 HB1 HA1 HS1 r2
  obtain ⟨-, k0, -⟩ := HB3.out
  obtain ⟨-, q0, q1⟩ := HR3.out
  by_cases hr : 0 < r
  case neg =>
    go_wp2
    exact bodyPost_ret (v := .agg #[.slice (some ⟨d1, 0, none⟩) T.length d2]) (by simp [results, Tryz.results44, go_sem, q0]) rfl (drawC_end (lo := w0.heap.size) rfl hz0 HA3.out hq1 hq2 HPP.out HS3.out hlt HT3.out)
  case pos =>
    have HTL := Lib.hid (show (∀ i, i < T.length → (row T i).length = T.length) ∧ (∀ x, x < T.length → ∀ y, y < T.length → 0 ≤ ent T x y ∧ ent T x y < T.length) from ⟨fun i hi => (HPP.out i hi).1, fun x hx y hy => by have := (HPP.out x hx).bd hy; rw [ent_def] at this; omega⟩)
    go_wp2_with fail
    go_region_with (first
      | (go_at_call 81; refine (l01Draw_any S T.length _ (HS3.out.ext (by (repeat first | (with_reducible exact Ext.refl _) | (with_reducible assumption) | (with_reducible apply Ext.drew) | (with_reducible apply kx_drewN) | (with_reducible apply kx_alloc) | ((with_reducible refine kx_set ?_ ?_); (first | (simp only []; omega) | (simp; omega) | (focus (simp; done)))) ))) hq1 (by omega)).mono ?_; rintro e wA ⟨p, bp, cp, rfl, hpl, hp, hg, hsA, hTA⟩; have hTA := touch_pre (show Ext w3 _ by (repeat first | (with_reducible exact Ext.refl _) | (with_reducible assumption) | (with_reducible apply Ext.drew) | (with_reducible apply kx_drewN) | (with_reducible apply kx_alloc) | ((with_reducible refine kx_set ?_ ?_); (first | (simp only []; omega) | (simp; omega) | (focus (simp; done)))) )) hTA; have HRA := Lib.hid (HR3.out.touch hTA (by omega)); have hzA := hTA.size; have hBA := HB3.out.touch hTA (by omega); obtain ⟨-, k0, -⟩ := hBA)
      | (go_at_call 80; refine (l01Rename_any T.length T p _ _ _ ((HA3.out.touch hTA (by omega)).rows.ext (by (repeat first | (with_reducible exact Ext.refl _) | (with_reducible assumption) | (with_reducible apply Ext.drew) | (with_reducible apply kx_drewN) | (with_reducible apply kx_alloc) | ((with_reducible refine kx_set ?_ ?_); (first | (simp only []; omega) | (simp; omega) | (focus (simp; done)))) ))) ((hg.ints (by omega) (by simp)).ext (by (repeat first | (with_reducible exact Ext.refl _) | (with_reducible assumption) | (with_reducible apply Ext.drew) | (with_reducible apply kx_drewN) | (with_reducible apply kx_alloc) | ((with_reducible refine kx_set ?_ ?_); (first | (simp only []; omega) | (simp; omega) | (focus (simp; done)))) ))) hq1 (by omega) rfl HTL.out.1 HTL.out.2 hpl (isoOk_plain.2 ⟨hpl, hp⟩)).mono ?_; rintro e wB ⟨bB, cB, A, rfl, tA, lA, rA, nA, xB⟩; have HRB := Lib.hid (BoxOne.ext (W' := wB) HRA.out (by (repeat first | (with_reducible exact Ext.refl _) | (with_reducible assumption) | (with_reducible apply Ext.drew) | (with_reducible apply kx_drewN) | (with_reducible apply kx_alloc) | ((with_reducible refine kx_set ?_ ?_); (first | (simp only []; omega) | (simp; omega) | (focus (simp; done)))) | (with_reducible refine Ext.trans ?_ xB) ))); obtain ⟨-, q0, q1⟩ := HRB.out))
    all_goals
      have xB' := (show Ext wA wB by (repeat first | (with_reducible exact Ext.refl _) | (with_reducible assumption) | (with_reducible apply Ext.drew) | (with_reducible apply kx_drewN) | (with_reducible apply kx_alloc) | ((with_reducible refine kx_set ?_ ?_); (first | (simp only []; omega) | (simp; omega) | (focus (simp; done)))) | (with_reducible refine Ext.trans ?_ xB) ))
      have hsB := hsA.ext xB'
      have hTB := touch_ext (HT3.out.trans hTA) xB'
      have zd : wA.drew.heap.size = wA.heap.size := rfl
      have hPB := ren_rows nA (isoOk_plain.2 ⟨hpl, hp⟩) lA rA HPP.out
      rw [← lA] at hPB
      have HPB := Lib.hid hPB
      clear hPB
      have HLA := Lib.hid lA
      clear lA
      go_wp2
      exact bodyPost_ret (v := .agg #[.slice (some ⟨bB, 0, none⟩) T.length cB]) (by simp [results, Tryz.results44, go_sem, q0]) rfl (drawC_end (lo := wA.heap.size) rfl (show w.heap.size < wA.heap.size by omega) (tA.low (by omega)) (by rw [HLA.out]; exact hq1) (by rw [HLA.out]; exact hq2) HPB.out hsB hlt hTB)
end Go.Proofs.YtjfjpngajboidaaGreat


namespace Go.Proofs.YtjfjpngajboidaaGreat
set_option linter.unusedVariables false
set_option linter.unusedSimpArgs false
open Go.RowKit
attribute [local go_sem ↓] Go.wp_at_zero Go.wp_at_succ
open Go.Deep

set_option maxRecDepth 100000 in
set_option maxHeartbeats 8000000 in
theorem l05Solution_any (n : Nat) (C : List (List Int)) (v : Value) (w : World) (hv : Rows w v C) (h1n : 1 ≤ n) (h12 : n ≤ 12) (hl : C.length = n) (hp : ∀ x, x < n → IsoOk n [] [] (row C x)) :
    Calls Tryz.prog 43 #[.agg #[v]] w (NewS n (fun _ _ => True) w) := by
  obtain ⟨-, b, o, c, rfl, hvc⟩ := id hv
  rw [hl]
  have hx0 : Ext w ((w.alloc (.cells #[.slice (some ⟨b, o, none⟩) n c] 71)).alloc (.cells #[.slice none 0 0, .slice none 0 0] 26)) := ((Ext.refl _).alloc _).alloc _
  have HR := Lib.hid ((BoxOne.new w (.slice (some ⟨b, o, none⟩) n c) 71).ext ((Ext.refl _).alloc (.cells #[.slice none 0 0, .slice none 0 0] 26)))
  have HQ : BoxV (w.heap.size + 1) ((w.alloc (.cells #[.slice (some ⟨b, o, none⟩) n c] 71)).alloc (.cells #[.slice none 0 0, .slice none 0 0] 26)) (.slice none 0 0) (.slice none 0 0) := by
    have h := BoxV.new (w.alloc (.cells #[.slice (some ⟨b, o, none⟩) n c] 71)) (.slice none 0 0) (.slice none 0 0) 26
    simpa using h
  have HQ := Lib.hid HQ
  have HF := Lib.hid (show ∀ W, Ext ((w.alloc (.cells #[.slice (some ⟨b, o, none⟩) n c] 71)).alloc (.cells #[.slice none 0 0, .slice none 0 0] 26)) W → ∀ x, x < n → ∃ d1 s1 m1, W.cell? ⟨b, o + x, none⟩ = some (.slice (some ⟨d1, s1, none⟩) n m1) ∧ Ints W (.slice (some ⟨d1, s1, none⟩) n m1) (row C x) ∧ ∀ y, y < n → ∃ z : Nat, z < n ∧ W.cell? ⟨d1, s1 + y, none⟩ = some (.int .i64 z) from fun W hW x hx => by
    obtain ⟨d1, s1, m1, r1, i1, n1⟩ := (hvc.ext (hx0.trans hW)).get (i := x) (by rw [hl]; exact hx)
    have hrk := hp x hx
    rw [hrk.1] at r1
    refine ⟨d1, s1, m1, r1, by have := i1.ints n1 m1; rwa [hrk.1] at this, fun y hy => ?_⟩
    have hb := hrk.bd hy
    refine ⟨(ix (row C x) y).toNat, hb.2, ?_⟩
    rw [i1 y (by rw [hrk.1]; exact hy)]
    congr 2
    omega)
  have HIX := Lib.hid (show ∀ x, x < n → ∀ y, y < n → ∃ u : Nat, u < n ∧ indexOf (row C x) (y : Int) = (u : Int) from fun x hx y hy => by
    obtain ⟨u, hu, e⟩ := (hp x hx).surj hy
    refine ⟨u, hu, ?_⟩
    rw [← e]
    exact indexOf_at (hp x hx) hu)
  have hz0 : ((w.alloc (.cells #[.slice (some ⟨b, o, none⟩) n c] 71)).alloc (.cells #[.slice none 0 0, .slice none 0 0] 26)).heap.size = w.heap.size + 2 := by simp
  clear hv hvc hl hp
  have k0 := HR.out.2.1
  go_enter Tryz.func43, Tryz.ntmps43
  go_wp2_with fail
  generalize ((w.alloc (.cells #[.slice (some ⟨b, o, none⟩) n c] 71)).alloc (.cells #[.slice none 0 0, .slice none 0 0] 26)) = w0 at *
  refine (l02Empty_any n w0 h1n h12).mono ?_
  rintro e w1 ⟨bA, cA, bB, cB, B, D, rfl, hG, hx1⟩
  have hT0 := hG.two
  have HLT := Lib.hid (show ∀ i, i < n → B i < w1.heap.size ∧ D i < w1.heap.size from fun i hi => ⟨heap_lt (hG.r1 i hi).1, heap_lt (hG.r2 i hi).1⟩)
  have hbA := (hG.o1.lt bA rfl).1
  have hbB := (hG.o2.lt bB rfl).1
  have hT1 := hT0.ext ((Ext.refl w1).alloc (.cells #[.slice (some ⟨bA, 0, none⟩) n cA, .slice (some ⟨bB, 0, none⟩) n cB] 26)) HLT.out
  have hB1 := BoxV.new w1 (.slice (some ⟨bA, 0, none⟩) n cA) (.slice (some ⟨bB, 0, none⟩) n cB) 26
  have hX1 : Ext w0 (w1.alloc (.cells #[.slice (some ⟨bA, 0, none⟩) n cA, .slice (some ⟨bB, 0, none⟩) n cB] 26)) := hx1.alloc _
  have HT1 := Lib.hid hT1
  have HB1 := Lib.hid hB1
  have HX1 := Lib.hid hX1
  have HFZ1 := Lib.hid (show FreeAt (w1.alloc (.cells #[.slice (some ⟨bA, 0, none⟩) n cA, .slice (some ⟨bB, 0, none⟩) n cB] 26)) bA 0 n ∧ FreeAt (w1.alloc (.cells #[.slice (some ⟨bA, 0, none⟩) n cA, .slice (some ⟨bB, 0, none⟩) n cB] 26)) bB 0 n from ⟨(ownFree hG.o1).block (((Ext.refl w1).alloc _).block _ (hG.o1.lt bA rfl).2), (ownFree hG.o2).block (((Ext.refl w1).alloc _).block _ (hG.o2.lt bB rfl).2)⟩)
  have hx1s := hx1.size
  clear hT0 hG hx1 hT1 hB1 hX1 k0
  go_wp2_with fail
  generalize (w1.alloc (.cells #[.slice (some ⟨bA, 0, none⟩) n cA, .slice (some ⟨bB, 0, none⟩) n cB] 26)) = w2 at *
  go_loopw [5] (fun i wr => ∃ (x : Nat) (T U : List (List Int)), x ≤ n ∧ i = .int .i64 x ∧ InT n T U ∧ TwoM (w0.heap.size + 2) n wr bA bB B D T U ∧ BoxV w1.heap.size wr (.slice (some ⟨bA, 0, none⟩) n cA) (.slice (some ⟨bB, 0, none⟩) n cB) ∧ (FreeAt wr bA 0 n ∧ FreeAt wr bB 0 n) ∧ Ext w0 wr) (fun i _ => n - (intOf i).toNat)
  case atStart => exact ⟨0, _, _, Nat.zero_le _, rfl, InT.zero h1n, HT1.out, HB1.out, HFZ1.out, HX1.out⟩
  case round =>
    clear HT1 HB1 HX1 HFZ1
    obtain ⟨x, T, U, hx, rfl, hi, ht, hb, hfz, hX⟩ := hrel
    have HFZ := Lib.hid hfz
    have HI := Lib.hid hi
    have HT := Lib.hid ht
    have HB := Lib.hid hb
    have HX := Lib.hid hX
    clear hi ht hb hX hfz
    by_cases hxl : x < n
    case neg =>
      have hxx : x = n := by omega
      subst hxx
      have hxi : ¬ (x : Int) < (x : Int) := by omega
      obtain ⟨-, q0, q1, q2, q3⟩ := HQ.out.ext HX.out
      obtain ⟨-, p0, p1, p2, p3⟩ := HB.out
      go_wp2
      have hcA := World.block_lt_of_cell? _ _ (HT.out.a 0 (by omega))
      have hcB := World.block_lt_of_cell? _ _ (HT.out.b 0 (by omega))
      have hlt : ∀ i, i < x → B i < wr.heap.size ∧ D i < wr.heap.size := fun i hi => ⟨lt_of_block_cells ((HT.out.t i hi).2.1 0 (by omega)) ((HT.out.t i hi).1 0 (by rw [(HT.out.t i hi).2.2.1]; omega)), lt_of_block_cells ((HT.out.u i hi).2.1 0 (by omega)) ((HT.out.u i hi).1 0 (by rw [(HT.out.u i hi).2.2.1]; omega))⟩
      have t1 := HT.out.tab HFZ.out.1 (by omega) (by omega) hcA (fun i hi => (hlt i hi).1) cA
      have t2 := HT.out.swap.tab HFZ.out.2 (by omega) (by omega) hcB (fun i hi => (hlt i hi).2) cB
      refine bodyPost_ret (v := .agg #[.slice (some ⟨bA, 0, none⟩) x cA, .slice (some ⟨bB, 0, none⟩) x cB]) (by simp [results, Tryz.results43, go_sem, q0, q1]) rfl ⟨_, _, T, U, rfl, ((t1.setOut (p := ⟨w.heap.size + 1, 0, none⟩) (show w.heap.size + 1 < _ by omega) _).setOut (p := ⟨w.heap.size + 1, 1, none⟩) (show w.heap.size + 1 < _ by omega) _).low (by omega), ((t2.setOut (p := ⟨w.heap.size + 1, 0, none⟩) (show w.heap.size + 1 < _ by omega) _).setOut (p := ⟨w.heap.size + 1, 1, none⟩) (show w.heap.size + 1 < _ by omega) _).low (by omega), ?_, HT.out.lt, trivial, ((hx0.trans HX.out).setNew (by simp only []; omega) _).setNew (by simp only []; omega) _⟩
      exact ⟨tableOk_of h1n h12 HT.out.lt (fun i hi => (HT.out.t i hi).2.2.1) (fun i hi j hj => by rw [ent_def]; exact (HI.out i hi j hj).1), tableOk_of h1n h12 HT.out.lu (fun i hi => (HT.out.u i hi).2.2.1) (fun i hi j hj => by rw [ent_def]; exact (HI.out i hi j hj).2), by rw [HT.out.lt, HT.out.lu]⟩
    case pos =>
      have hxi : (x : Int) < (n : Int) := by omega
      obtain ⟨-, p0, p1, -, -⟩ := id HB.out
      have c0 := HT.out.a x hxl
      have c1 := HT.out.b x hxl
      go_wp2_with fail
      go_quiet (fail)
      have hq : Ext wr (wr.drewN nq) := (Ext.refl wr).drewN nq
      have hlt : ∀ i, i < n → B i < wr.heap.size ∧ D i < wr.heap.size := fun i hi => ⟨lt_of_block_cells ((HT.out.t i hi).2.1 0 (by omega)) ((HT.out.t i hi).1 0 (by rw [(HT.out.t i hi).2.2.1]; omega)), lt_of_block_cells ((HT.out.u i hi).2.1 0 (by omega)) ((HT.out.u i hi).1 0 (by rw [(HT.out.u i hi).2.2.1]; omega))⟩
      have HT3 := Lib.hid (HT.out.ext hq hlt)
      have HB3 := Lib.hid (HB.out.ext hq)
      have HX3 := Lib.hid (HX.out.trans hq)
      have HFZ3 := Lib.hid (show FreeAt (wr.drewN nq) bA 0 n ∧ FreeAt (wr.drewN nq) bB 0 n from ⟨HFZ.out.1.block (by simp), HFZ.out.2.block (by simp)⟩)
      clear hq hlt p0 p1 c0 c1
      generalize wr.drewN nq = wq at *
      go_wp2_with fail
      go_loopw [8] (fun i wr => ∃ (y : Nat) (T U : List (List Int)), y ≤ n ∧ i = .int .i64 y ∧ InT n T U ∧ TwoM (w0.heap.size + 2) n wr bA bB B D T U ∧ BoxV w1.heap.size wr (.slice (some ⟨bA, 0, none⟩) n cA) (.slice (some ⟨bB, 0, none⟩) n cB) ∧ (FreeAt wr bA 0 n ∧ FreeAt wr bB 0 n) ∧ Ext w0 wr) (fun i _ => n - (intOf i).toNat)
      case atStart => exact ⟨0, _, _, Nat.zero_le _, rfl, HI.out, HT3.out, HB3.out, HFZ3.out, HX3.out⟩
      case round =>
        clear HT HB HX HI HFZ HT3 HB3 HX3 HFZ3
        obtain ⟨y, T, U, hy, rfl, hi, ht, hb, hfz, hX⟩ := hrel
        have HFZ := Lib.hid hfz
        have HI := Lib.hid hi
        have HT := Lib.hid ht
        have HB := Lib.hid hb
        have HX := Lib.hid hX
        clear hi ht hb hX hfz
        by_cases hyl : y < n
        case neg =>
          have hyy : y = n := by omega
          subst hyy
          have hyi : ¬ (y : Int) < (y : Int) := by omega
          go_wp2
          go_roundw
          case rel => exact ⟨x + 1, T, U, by omega, by go_num, HI.out, HT.out, HB.out, HFZ.out, HX.out⟩
          case measure => simp [intOf]; omega
        case pos =>
          have hyi : (y : Int) < (n : Int) := by omega
          obtain ⟨u, hu, eu⟩ := HIX.out x hxl y hyl
          obtain ⟨d1, s1, m1, r1, i1, -⟩ := HF.out _ HX.out x hxl
          have HI1 := Lib.hid i1
          have k0 := HX.out.cell HR.out.2.1
          clear i1
          go_wp2_with fail
          refine (l01Index_any (row C x) _ _ _ HI1.out).mono ?_
          rintro e w3 ⟨rfl, rfl⟩
          rw [eu]
          clear eu
          have hrow := HT.out.t x hxl
          have q0 := hrow.1 y (by rw [hrow.2.2.1]; exact hyl)
          have q1 := hrow.2.1 y hyl
          have hbX := hrow.2.2.2.1
          have HTL := Lib.hid (HLT.out x hxl)
          rw [Nat.zero_add] at q0 q1
          clear hrow
          go_upto_region 12 with fail
          have HLL := Lib.hid (show T.length = n ∧ U.length = n ∧ (∀ i, i < n → (row T i).length = n) ∧ ∀ i, i < n → (row U i).length = n from ⟨HT.out.lt, HT.out.lu, fun i hi => (HT.out.t i hi).2.2.1, fun i hi => (HT.out.u i hi).2.2.1⟩)
          have HT4 := Lib.hid (HT.out.put hxl hyl (u : Int))
          have HB4 := Lib.hid (HB.out.setOther (a := ⟨B x, y, none⟩) (by have := HTL.out.1; simp only []; omega) (.int .i64 (u : Int)))
          have HX4 := Lib.hid (HX.out.setNew (p := ⟨B x, y, none⟩) (by simp only []; omega) (.int .i64 (u : Int)))
          have HFZ4 := Lib.hid (show FreeAt (wr.setCell ⟨B x, y, none⟩ (.int .i64 (u : Int))) bA 0 n ∧ FreeAt (wr.setCell ⟨B x, y, none⟩ (.int .i64 (u : Int))) bB 0 n from ⟨HFZ.out.1.set _ _, HFZ.out.2.set _ _⟩)
          clear r1 k0 q0 q1 hbX HT HB HX HFZ HI1
          generalize (wr.setCell ⟨B x, y, none⟩ (.int .i64 (u : Int))) = wp at *
          obtain ⟨d3, s3, m3, r3, -, f3⟩ := HF.out _ HX4.out u hu
          obtain ⟨z, hz, e3⟩ := f3 x hxl
          have HST := Lib.hid (HI.out.step (x := (u : Int)) (y := (z : Int)) HLL.out.1 HLL.out.2.1 HLL.out.2.2.1 HLL.out.2.2.2 hxl hyl (by omega) (by omega) (by omega) (by omega))
          have k0 := HX4.out.cell HR.out.2.1
          have hrow := HT4.out.u x hxl
          have q0 := hrow.1 y (by rw [hrow.2.2.1]; exact hyl)
          have q1 := hrow.2.1 y hyl
          have hbX := hrow.2.2.2.1
          rw [Nat.zero_add] at q0 q1
          clear hrow f3
          go_wp2_with fail
          go_roundw
          case rel => exact ⟨y + 1, _, _, by omega, by go_num, HST.out, (HT4.out.swap.put hxl hyl (z : Int)).swap, HB4.out.setOther (by have := HTL.out.2; simp only []; omega) _, ⟨HFZ4.out.1.set _ _, HFZ4.out.2.set _ _⟩, HX4.out.setNew (by simp only []; omega) _⟩
          case measure => simp [intOf]; omega

set_option maxRecDepth 100000 in
set_option maxHeartbeats 4000000 in
theorem l07Spoil_any (S most : Nat) (w : World) (hs : Src S w) (h1 : 1 ≤ most) (h12 : most ≤ 12) :
    Calls Tryz.prog 34 #[.pointer (some ⟨S, 0, none⟩), .int .i64 most] w (DrawQ S w) := by
  have hlt := hs.lt
  have hx0 : Ext w (w.alloc (.cells #[.slice none 0 0, .slice none 0 0] 26)) := (Ext.refl _).alloc _
  have HR0 := Lib.hid (BoxV.new w (.slice none 0 0) (.slice none 0 0) 26)
  have HS0 := Lib.hid (hs.ext hx0)
  have HT0 := Lib.hid (touch_ext (S := S) (Touch.of_ext (Ext.refl w)) hx0)
  have hz0 : w.heap.size < (w.alloc (.cells #[.slice none 0 0, .slice none 0 0] 26)).heap.size := by simp
  clear hs hx0
  go_enter Tryz.func34, Tryz.ntmps34
  go_wp2_with fail
  generalize (w.alloc (.cells #[.slice none 0 0, .slice none 0 0] 26)) = w0 at *
  refine (l01Next_any S _ w0 HS0.out).mono ?_
  rintro e w1 ⟨r, rfl, -, -, -, hs1, hT1⟩
  have HT1 := Lib.hid (HT0.out.trans hT1)
  have HR1 := Lib.hid (HR0.out.touchS hT1 (by omega))
  have HS1 := Lib.hid hs1
  have hz1 := hT1.size
  clear hT1 hs1 HT0 HR0 HS0
  by_cases hr : r = 0
  case pos =>
    subst hr
    go_wp2_with fail
    refine (l05Draw_any S most w1 HS1.out h1 h12).mono ?_
    rintro e w2 ⟨v2, T, rfl, ht, hq1, hq2, hpp, hs2, hT2⟩
    have HT2 := Lib.hid (HT1.out.trans hT2)
    have HR2 := Lib.hid (HR1.out.touchS hT2 (by omega))
    have hz2 := hT2.size
    go_wp2_with fail
    refine (l05Solution_any T.length T v2 w2 ht.rows hq1 (by omega) rfl hpp).mono ?_
    rintro e w3 ⟨v3, y3, L, U, rfl, ht3, hu3, -, hl3, -, hx3⟩
    obtain ⟨ht30, d1, d2, rfl, -⟩ := id ht3
    obtain ⟨hu30, d3, d4, rfl, -⟩ := id hu3
    have HT3 := Lib.hid (touch_ext HT2.out hx3)
    have HR3 := Lib.hid (HR2.out.ext hx3)
    have HS3 := Lib.hid (hs2.ext hx3)
    have HA3 := Lib.hid ht3.rowsP
    have HU3 := Lib.hid hu3.rowsP
    have hL13 : L.length ≤ 13 := by omega
    clear ht30 hu30 ht3 hu3 hl3 hx3 hs2 hT2 ht hpp HT2 HR2
    obtain ⟨-, q0, q1, q2, q3⟩ := HR3.out
    go_wp2
    exact bodyPost_ret (v := .agg #[.slice (some ⟨d1, 0, none⟩) L.length d2, .slice (some ⟨d3, 0, none⟩) U.length d4]) (by simp [results, Tryz.results34, go_sem, q0, q1]) rfl (drawQ_end (lo := w2.heap.size) rfl (by omega) HA3.out HU3.out hL13 HS3.out hlt HT3.out)
  case neg =>
    go_wp2_with fail
    refine (l02Spoil_any S most w1 HS1.out h1 h12).mono ?_
    rintro e w3 ⟨v3, y3, L, U, rfl, ht3, hu3, hl3, hs3, hT3⟩
    obtain ⟨d1, o1, c1, rfl⟩ := ht3.shape
    obtain ⟨d2, o2, c2, rfl⟩ := hu3.shape
    have HT3 := Lib.hid (HT1.out.trans hT3)
    have HR3 := Lib.hid (HR1.out.touchS hT3 (by omega))
    have HS3 := Lib.hid hs3
    have HA3 := Lib.hid ht3
    have HU3 := Lib.hid hu3
    clear ht3 hu3 hs3 hT3
    obtain ⟨-, q0, q1, q2, q3⟩ := HR3.out
    go_wp2
    exact bodyPost_ret (v := .agg #[.slice (some ⟨d1, o1, none⟩) L.length c1, .slice (some ⟨d2, o2, none⟩) U.length c2]) (by simp [results, Tryz.results34, go_sem, q0, q1]) rfl (drawQ_end (lo := w1.heap.size) rfl (by omega) HA3.out HU3.out hl3 HS3.out hlt HT3.out)
end Go.Proofs.YtjfjpngajboidaaGreat


namespace Go.Proofs.YtjfjpngajboidaaGreat
set_option linter.unusedVariables false
set_option linter.unusedSimpArgs false
open Go.RowKit
attribute [local go_sem ↓] Go.wp_at_zero Go.wp_at_succ
open Go.Deep

def size9 (L : List (List Int)) : Nat := if L.length = 0 then 1 else L.length
theorem size9_pos (L : List (List Int)) : 1 ≤ size9 L := by unfold size9; split <;> omega
theorem size9_le {L : List (List Int)} (h : L.length ≤ 13) : size9 L ≤ 13 := by unfold size9; split <;> omega

set_option maxRecDepth 100000 in
theorem l09Size_any (L S : List (List Int)) (v y : Value) (w : World) (hv : Rows w v L) (hy : Rows w y S) :
    Calls Tryz.prog 36 #[.agg #[v, y]] w fun e w' => e = .returned (.int .i64 (size9 L)) ∧ Ext w w' := by
  obtain ⟨-, b, o, c, rfl, -⟩ := id hv
  obtain ⟨-, b2, o2, c2, rfl, -⟩ := id hy
  have hx0 : Ext w (w.alloc (.cells #[.slice (some ⟨b, o, none⟩) L.length c, .slice (some ⟨b2, o2, none⟩) S.length c2] 26)) := (Ext.refl _).alloc _
  have k0 := cell_new2a w (.slice (some ⟨b, o, none⟩) L.length c) (.slice (some ⟨b2, o2, none⟩) S.length c2) 26
  have HSZ := Lib.hid (show (L.length = 0 → size9 L = 1) ∧ (L.length ≠ 0 → size9 L = L.length) from ⟨fun h => by unfold size9; rw [if_pos h], fun h => by unfold size9; rw [if_neg h]⟩)
  clear hv hy
  by_cases h : L.length = 0
  case pos =>
    rw [h] at hx0 k0 ⊢
    rw [HSZ.out.1 h]
    clear HSZ h
    go_enter Tryz.func36, Tryz.ntmps36
    go_wp2
    go_ret
    exact ⟨rfl, hx0⟩
  case neg =>
    rw [HSZ.out.2 h]
    have hb : ((L.length : Int) == 0) = false := beq_eq_false_iff_ne.2 (by omega)
    have hne : (L.length : Int) ≠ 0 := by omega
    go_enter Tryz.func36, Tryz.ntmps36
    go_wp2
    go_ret
    exact ⟨rfl, hx0⟩
end Go.Proofs.YtjfjpngajboidaaGreat


namespace Go.Proofs.YtjfjpngajboidaaGreat
set_option linter.unusedVariables false
set_option linter.unusedSimpArgs false

@[irreducible] noncomputable def wordB (n : Nat) (l : List Int) : Bool := by classical exact decide (WordOk n l ∧ l.length ≤ 8)
theorem wordB_iff {n : Nat} {l : List Int} : wordB n l = true ↔ WordOk n l ∧ l.length ≤ 8 := by unfold wordB; simp
theorem wordB_no {n : Nat} {l : List Int} : wordB n l = false ↔ ¬ (WordOk n l ∧ l.length ≤ 8) := by rw [← wordB_iff]; simp
@[irreducible] noncomputable def codeW (L S : List (List Int)) (u v : List Int) : Int := if solB L S then (if wordB L.length u && wordB L.length v then 0 else 2) else 1
theorem codeW_bad {L S : List (List Int)} {u v : List Int} (h : solB L S = false) : codeW L S u v = 1 := by unfold codeW; rw [h]; rfl
theorem codeW_out {L S : List (List Int)} {u v : List Int} (h : solB L S = true) (k : (wordB L.length u && wordB L.length v) = false) : codeW L S u v = 2 := by unfold codeW; rw [h, k]; rfl
theorem codeW_ok {L S : List (List Int)} {u v : List Int} (h : solB L S = true) (h1 : wordB L.length u = true) (h2 : wordB L.length v = true) : codeW L S u v = 0 := by unfold codeW; rw [h, h1, h2]; rfl
theorem codeW_zero {L S : List (List Int)} {u v : List Int} (h : codeW L S u v = 0) : SolOk L S ∧ (WordOk L.length u ∧ u.length ≤ 8) ∧ (WordOk L.length v ∧ v.length ≤ 8) := by
  cases h1 : solB L S with
  | false => rw [codeW_bad h1] at h; cases h
  | true =>
    cases h2 : (wordB L.length u && wordB L.length v) with
    | false => rw [codeW_out h1 h2] at h; cases h
    | true =>
      rw [Bool.and_eq_true, wordB_iff, wordB_iff] at h2
      exact ⟨solB_iff.1 h1, h2⟩
end Go.Proofs.YtjfjpngajboidaaGreat


namespace Go.Proofs.YtjfjpngajboidaaGreat
set_option linter.unusedVariables false
set_option linter.unusedSimpArgs false

theorem lex_less {l m : List Int} (h : l.length = m.length) : l < m ↔ LexLt l m := by
  induction l generalizing m with
  | nil =>
    cases m with
    | nil => exact ⟨fun k => absurd k (by simp), fun k => absurd k (LexLt.irrefl _)⟩
    | cons _ _ => simp at h
  | cons a r ih =>
    cases m with
    | nil => simp at h
    | cons b s =>
      have hl : r.length = s.length := by simpa using h
      rw [List.cons_lt_cons_iff, ih hl]
      have c0 : ∀ (x : Int) (q : List Int), ix (x :: q) 0 = x := fun x q => by rw [ix_eq]; rfl
      have cs : ∀ (x : Int) (q : List Int) (i : Nat), ix (x :: q) (i + 1) = ix q i := fun x q i => by rw [ix_eq, ix_eq]; simp [List.getD]
      constructor
      · rintro (k | ⟨rfl, d, k1, k2⟩)
        · exact ⟨0, fun i hi => by omega, by rw [c0, c0]; exact k⟩
        · refine ⟨d + 1, fun i hi => ?_, by rw [cs, cs]; exact k2⟩
          cases i with
          | zero => rw [c0, c0]
          | succ i => rw [cs, cs]; exact k1 i (by omega)
      · rintro ⟨d, k1, k2⟩
        cases d with
        | zero => rw [c0, c0] at k2; exact .inl k2
        | succ d =>
          have e := k1 0 (by omega)
          rw [c0, c0] at e
          refine .inr ⟨e, d, fun i hi => ?_, by rw [cs, cs] at k2; exact k2⟩
          have := k1 (i + 1) (by omega)
          rwa [cs, cs] at this
section
variable {n : Nat} {f g fi gi : Nat → Nat → Nat}
@[irreducible] noncomputable def nfL (n : Nat) (f g fi gi : Nat → Nat → Nat) (u : List Int) : List Int := (wclL n f g fi gi u).headD []
theorem nfL_mem (hm : Mv n f g fi gi) {u : List Int} (hu : WordOk n u) : nfL n f g fi gi u ∈ wclL n f g fi gi u := by
  have h := wclL_self hm hu
  unfold nfL
  cases e : wclL n f g fi gi u with
  | nil => rw [e] at h; cases h
  | cons a r => exact List.mem_cons_self
theorem nfL_head (hm : Mv n f g fi gi) {u : List Int} (hu : WordOk n u) : ∃ r, wclL n f g fi gi u = nfL n f g fi gi u :: r := by
  have h := wclL_self hm hu
  unfold nfL
  cases e : wclL n f g fi gi u with
  | nil => rw [e] at h; cases h
  | cons a r => exact ⟨r, rfl⟩
theorem nfL_le (hm : Mv n f g fi gi) {u v : List Int} (hu : WordOk n u) (hv : v ∈ wclL n f g fi gi u) : nfL n f g fi gi u = v ∨ LexLt (nfL n f g fi gi u) v := by
  obtain ⟨r, e⟩ := nfL_head hm hu
  have hs := sorted_wclL n f g fi gi u
  rw [e] at hv hs
  rcases List.mem_cons.1 hv with e2 | e2
  · exact .inl e2.symm
  · exact .inr ((List.pairwise_cons.1 hs).1 v e2)
theorem nfL_same (hm : Mv n f g fi gi) {u v : List Int} (hu : WordOk n u) (h : Eqv f g fi gi u v) : nfL n f g fi gi v = nfL n f g fi gi u := by
  unfold nfL; rw [wclL_same hm hu h]
theorem nfL_eqv (hm : Mv n f g fi gi) {u : List Int} (hu : WordOk n u) : Eqv f g fi gi u (nfL n f g fi gi u) := (mem_wclL hm hu).1 (nfL_mem hm hu)
theorem WordOk.left {p q : List Int} (h : WordOk n (p ++ q)) : WordOk n p := fun i hi => by
  have := h i (by simp; omega)
  rwa [ix_app hi] at this
theorem WordOk.right {p q : List Int} (h : WordOk n (p ++ q)) : WordOk n q := fun i hi => by
  have := h (p.length + i) (by simp; omega)
  rwa [ix_app_right] at this
theorem WordOk.app {p q : List Int} (h : WordOk n p) (k : WordOk n q) : WordOk n (p ++ q) := fun i hi => by
  by_cases hp : i < p.length
  · rw [ix_app hp]; exact h i hp
  · have e : i = p.length + (i - p.length) := by omega
    rw [e, ix_app_right]
    exact k _ (by simp at hi; omega)

@[irreducible] noncomputable def restL (n : Nat) (f g fi gi : Nat → Nat → Nat) (u w : List Int) : List (List Int) := ((wclL n f g fi gi w).filter fun x => decide (x.take u.length = u)).map (·.drop u.length)
theorem mem_restL (hm : Mv n f g fi gi) {u v w : List Int} (hw : WordOk n w) : v ∈ restL n f g fi gi u w ↔ Eqv f g fi gi w (u ++ v) := by
  unfold restL
  rw [List.mem_map]
  constructor
  · rintro ⟨x, hx, rfl⟩
    obtain ⟨h1, h2⟩ := List.mem_filter.1 hx
    have h2 : x.take u.length = u := by simpa using h2
    have e : u ++ x.drop u.length = x := by
      conv => lhs; rw [← h2]
      rw [show (x.take u.length).length = u.length by rw [h2]] 
      exact List.take_append_drop _ _
    rw [e]; exact (mem_wclL hm hw).1 h1
  · intro h
    refine ⟨u ++ v, List.mem_filter.2 ⟨(mem_wclL hm hw).2 h, by simp⟩, by simp⟩
/-! ### divisors -/
@[irreducible] noncomputable def divK (n : Nat) (f g fi gi : Nat → Nat → Nat) (w : List Int) (k : Nat) : List (List Int) := by
  classical exact (allL n k).filter fun v => decide (∃ x, x ∈ wclL n f g fi gi w ∧ nfL n f g fi gi (x.take k) = v)
theorem sorted_divK (n : Nat) (f g fi gi : Nat → Nat → Nat) (w : List Int) (k : Nat) : (divK n f g fi gi w k).Pairwise LexLt := by
  unfold divK
  exact (sorted_allL n _).filter _
theorem begin_ok (hm : Mv n f g fi gi) {w x : List Int} (hw : WordOk n w) (hx : x ∈ wclL n f g fi gi w) (k : Nat) : WordOk n (x.take k) := by
  have h := ((mem_wclL hm hw).1 hx).ok hm hw
  have e := List.take_append_drop k x
  rw [← e] at h
  exact h.left
theorem mem_divK (hm : Mv n f g fi gi) {w v : List Int} (hw : WordOk n w) {k : Nat} (hk : k ≤ w.length) : v ∈ divK n f g fi gi w k ↔ ∃ x, x ∈ wclL n f g fi gi w ∧ nfL n f g fi gi (x.take k) = v := by
  unfold divK
  rw [List.mem_filter, mem_allL]
  constructor
  · intro h; simpa using h.2
  · intro h
    refine ⟨?_, by simpa using h⟩
    obtain ⟨x, hx, rfl⟩ := h
    have hb := begin_ok hm hw hx k
    have h1 := nfL_eqv hm hb
    have h2 := h1.len
    have h3 := ((mem_wclL hm hw).1 hx).len
    rw [List.length_take, h3] at h2
    have h4 : (nfL n f g fi gi (x.take k)).length = k := by omega
    exact ⟨h4, fun i hi => h1.ok hm hb i (by omega)⟩
theorem begin_few (hm : Mv n f g fi gi) {w x : List Int} (hw : WordOk n w) (hx : x ∈ wclL n f g fi gi w) (k : Nat) : (wclL n f g fi gi (x.take k)).length ≤ (wclL n f g fi gi w).length := by
  have h := (mem_wclL hm hw).1 hx
  have hok := h.ok hm hw
  have e := List.take_append_drop k x
  have := wclL_begin hm (p := x.take k) (q := x.drop k) (by rw [e]; exact hok)
  rw [e, wclL_same hm hw h] at this
  exact this
theorem div_divides (hm : Mv n f g fi gi) {w v : List Int} (hw : WordOk n w) {k : Nat} (hk : k ≤ w.length) (h : v ∈ divK n f g fi gi w k) : restL n f g fi gi v w ≠ [] ∧ WordOk n v ∧ v.length = k ∧ (wclL n f g fi gi v).length ≤ (wclL n f g fi gi w).length := by
  obtain ⟨x, hx, rfl⟩ := (mem_divK hm hw hk).1 h
  have hb := begin_ok hm hw hx k
  have h1 := nfL_eqv hm hb
  have h0 := (mem_wclL hm hw).1 hx
  have h2 := (h1.behind (x.drop k))
  rw [List.take_append_drop] at h2
  refine ⟨fun e => ?_, h1.ok hm hb, ?_, ?_⟩
  · have := (mem_restL hm hw).2 (h0.trans h2)
    rw [e] at this
    cases this
  · have := h1.len
    rw [List.length_take, h0.len] at this
    omega
  · rw [wclL_same hm hb h1]; exact begin_few hm hw hx k
@[irreducible] noncomputable def divTo (n : Nat) (f g fi gi : Nat → Nat → Nat) (w : List Int) (k : Nat) : List (List Int) := (List.range k).flatMap (divK n f g fi gi w)
theorem divTo_zero (n : Nat) (f g fi gi : Nat → Nat → Nat) (w : List Int) : divTo n f g fi gi w 0 = [] := by unfold divTo; rfl
theorem divTo_succ (n : Nat) (f g fi gi : Nat → Nat → Nat) (w : List Int) (k : Nat) : divTo n f g fi gi w (k + 1) = divTo n f g fi gi w k ++ divK n f g fi gi w k := by unfold divTo; rw [List.range_succ, List.flatMap_append]; simp
theorem mem_divTo {w v : List Int} {m : Nat} : v ∈ divTo n f g fi gi w m ↔ ∃ k, k < m ∧ v ∈ divK n f g fi gi w k := by
  unfold divTo; rw [List.mem_flatMap]; simp
end
end Go.Proofs.YtjfjpngajboidaaGreat


namespace Go.Proofs.YtjfjpngajboidaaGreat
set_option linter.unusedVariables false
set_option linter.unusedSimpArgs false

theorem inv_ex {L S : List (List Int)} (h : SolOk L S) : ∃ T U, InvTo L S L.length 0 T U := by
  have hy : ∀ x, x < L.length → (∃ T U, InvTo L S x 0 T U) → ∀ y, y ≤ L.length → ∃ T U, InvTo L S x y T U := by
    intro x hx h0 y
    induction y with
    | zero => exact fun _ => h0
    | succ y ih =>
      intro hy
      obtain ⟨T, U, hI⟩ := ih (by omega)
      exact ⟨_, _, hI.step h hx (by omega)⟩
  have hx : ∀ x, x ≤ L.length → ∃ T U, InvTo L S x 0 T U := by
    intro x
    induction x with
    | zero => exact fun _ => ⟨_, _, InvTo.start h⟩
    | succ x ih =>
      intro hx
      obtain ⟨T, U, hI⟩ := hy x (by omega) (ih (by omega)) L.length (Nat.le_refl _)
      exact ⟨_, _, hI.next⟩
  exact hx L.length (Nat.le_refl _)
@[irreducible] noncomputable def invP (L S : List (List Int)) : List (List Int) × List (List Int) := by
  classical exact if h : ∃ q : List (List Int) × List (List Int), InvTo L S L.length 0 q.1 q.2 then Classical.choose h else ([], [])
theorem invP_ok {L S : List (List Int)} (h : SolOk L S) : InvTo L S L.length 0 (invP L S).1 (invP L S).2 := by
  obtain ⟨T, U, hI⟩ := inv_ex h
  have hq : ∃ q : List (List Int) × List (List Int), InvTo L S L.length 0 q.1 q.2 := ⟨(T, U), hI⟩
  unfold invP
  rw [dif_pos hq]
  exact Classical.choose_spec hq
theorem invP_eq {L S T U : List (List Int)} (h : SolOk L S) (hI : InvTo L S L.length 0 T U) : (invP L S).1 = T ∧ (invP L S).2 = U := inv_eq h (invP_ok h) hI
theorem mvP {L S : List (List Int)} (h : SolOk L S) : Mv L.length (mulN L) (mulN S) (mulN (invP L S).1) (mulN (invP L S).2) := mv_of h (invP_ok h)
def EqS (L S : List (List Int)) (u v : List Int) : Prop := Eqv (mulN L) (mulN S) (mulN (invP L S).1) (mulN (invP L S).2) u v
@[irreducible] noncomputable def clS (L S : List (List Int)) (u : List Int) : List (List Int) := wclL L.length (mulN L) (mulN S) (mulN (invP L S).1) (mulN (invP L S).2) u
@[irreducible] noncomputable def nfS (L S : List (List Int)) (u : List Int) : List Int := nfL L.length (mulN L) (mulN S) (mulN (invP L S).1) (mulN (invP L S).2) u
@[irreducible] noncomputable def rsS (L S : List (List Int)) (u w : List Int) : List (List Int) := restL L.length (mulN L) (mulN S) (mulN (invP L S).1) (mulN (invP L S).2) u w
theorem clS_def (L S : List (List Int)) (u : List Int) : clS L S u = wclL L.length (mulN L) (mulN S) (mulN (invP L S).1) (mulN (invP L S).2) u := by unfold clS; rfl
theorem nfS_def (L S : List (List Int)) (u : List Int) : nfS L S u = nfL L.length (mulN L) (mulN S) (mulN (invP L S).1) (mulN (invP L S).2) u := by unfold nfS; rfl
theorem rsS_def (L S : List (List Int)) (u w : List Int) : rsS L S u w = restL L.length (mulN L) (mulN S) (mulN (invP L S).1) (mulN (invP L S).2) u w := by unfold rsS; rfl
theorem clS_eq {L S T U : List (List Int)} (h : SolOk L S) (hI : InvTo L S L.length 0 T U) (u : List Int) : wclL L.length (mulN L) (mulN S) (mulN T) (mulN U) u = clS L S u := by
  obtain ⟨e1, e2⟩ := invP_eq h hI
  rw [clS_def, e1, e2]
section
variable {L S : List (List Int)}
theorem mem_clS (h : SolOk L S) {u v : List Int} (hu : WordOk L.length u) : v ∈ clS L S u ↔ EqS L S u v := by rw [clS_def]; exact mem_wclL (mvP h) hu
theorem EqS.len {u v : List Int} (h : EqS L S u v) : v.length = u.length := Eqv.len h
theorem EqS.ok {u v : List Int} (h : EqS L S u v) (hs : SolOk L S) (hu : WordOk L.length u) : WordOk L.length v := Eqv.ok (mvP hs) h hu
theorem EqS.refl (u : List Int) : EqS L S u u := Eqv.refl
theorem EqS.trans {u v w : List Int} (h : EqS L S u v) (k : EqS L S v w) : EqS L S u w := Eqv.trans h k
theorem EqS.symm {u v : List Int} (h : EqS L S u v) (hs : SolOk L S) (hu : WordOk L.length u) : EqS L S v u := Eqv.symm (mvP hs) h hu
theorem clS_self (h : SolOk L S) {u : List Int} (hu : WordOk L.length u) : u ∈ clS L S u := (mem_clS h hu).2 (EqS.refl u)
theorem clS_same (h : SolOk L S) {u v : List Int} (hu : WordOk L.length u) (e : EqS L S u v) : clS L S v = clS L S u := by rw [clS_def, clS_def]; exact wclL_same (mvP h) hu e
theorem clS_begin (h : SolOk L S) {p q : List Int} (hu : WordOk L.length (p ++ q)) : (clS L S p).length ≤ (clS L S (p ++ q)).length := by rw [clS_def, clS_def]; exact wclL_begin (mvP h) hu
theorem clS_end (h : SolOk L S) {p q : List Int} (hu : WordOk L.length (p ++ q)) : (clS L S q).length ≤ (clS L S (p ++ q)).length := by rw [clS_def, clS_def]; exact wclL_end (mvP h) hu
theorem clS_word (h : SolOk L S) {u v : List Int} (hu : WordOk L.length u) (hv : v ∈ clS L S u) : WordOk L.length v ∧ v.length = u.length := ⟨((mem_clS h hu).1 hv).ok h hu, ((mem_clS h hu).1 hv).len⟩
theorem clS_row (h : SolOk L S) {u : List Int} (hu : WordOk L.length u) {i : Nat} (hi : i < (clS L S u).length) : row (clS L S u) i ∈ clS L S u := by
  rw [row_eq, List.getD_eq_getElem?_getD, List.getElem?_eq_getElem hi]; exact List.getElem_mem hi
theorem clS_pos (h : SolOk L S) {u : List Int} (hu : WordOk L.length u) : 0 < (clS L S u).length := List.length_pos_of_mem (clS_self h hu)
theorem nfS_row (h : SolOk L S) {u : List Int} (hu : WordOk L.length u) : nfS L S u = row (clS L S u) 0 := by
  obtain ⟨r, e⟩ := nfL_head (mvP h) hu
  rw [nfS_def, clS_def, e, row_eq]
  rfl
theorem nfS_eqv (h : SolOk L S) {u : List Int} (hu : WordOk L.length u) : EqS L S u (nfS L S u) := by rw [nfS_def]; exact nfL_eqv (mvP h) hu
theorem nfS_word (h : SolOk L S) {u : List Int} (hu : WordOk L.length u) : WordOk L.length (nfS L S u) ∧ (nfS L S u).length = u.length := ⟨(nfS_eqv h hu).ok h hu, (nfS_eqv h hu).len⟩
theorem mem_rsS (h : SolOk L S) {u v w : List Int} (hw : WordOk L.length w) : v ∈ rsS L S u w ↔ EqS L S w (u ++ v) := by rw [rsS_def]; exact mem_restL (mvP h) hw
end
/-! ### codes -/
@[irreducible] noncomputable def clsC (L S : List (List Int)) (w : List Int) : Int := if codeW L S w w = 0 then (if (clS L S w).length ≤ 1000 then 0 else 3) else codeW L S w w
theorem clsC_bad {L S : List (List Int)} {w : List Int} (h : codeW L S w w ≠ 0) : clsC L S w = codeW L S w w := by unfold clsC; rw [if_neg h]
theorem clsC_many {L S : List (List Int)} {w : List Int} (h : codeW L S w w = 0) (k : 1000 < (clS L S w).length) : clsC L S w = 3 := by unfold clsC; rw [if_pos h, if_neg (by omega)]
theorem clsC_ok {L S : List (List Int)} {w : List Int} (h : codeW L S w w = 0) (k : (clS L S w).length ≤ 1000) : clsC L S w = 0 := by unfold clsC; rw [if_pos h, if_pos k]
theorem clsC_zero {L S : List (List Int)} {w : List Int} (h : clsC L S w = 0) : codeW L S w w = 0 ∧ (clS L S w).length ≤ 1000 := by
  by_cases h1 : codeW L S w w = 0
  · refine ⟨h1, ?_⟩
    by_cases h2 : (clS L S w).length ≤ 1000
    · exact h2
    · rw [clsC_many h1 (by omega)] at h; cases h
  · rw [clsC_bad h1] at h; exact absurd h h1
@[irreducible] noncomputable def dvC (L S : List (List Int)) (u w : List Int) : Int := if codeW L S u w = 0 then (if (clS L S u).length ≤ 1000 ∧ (clS L S w).length ≤ 1000 then 0 else 3) else codeW L S u w
theorem dvC_bad {L S : List (List Int)} {u w : List Int} (h : codeW L S u w ≠ 0) : dvC L S u w = codeW L S u w := by unfold dvC; rw [if_neg h]
theorem dvC_many {L S : List (List Int)} {u w : List Int} (h : codeW L S u w = 0) (k : ¬ ((clS L S u).length ≤ 1000 ∧ (clS L S w).length ≤ 1000)) : dvC L S u w = 3 := by unfold dvC; rw [if_pos h, if_neg k]
theorem dvC_ok {L S : List (List Int)} {u w : List Int} (h : codeW L S u w = 0) (k : (clS L S u).length ≤ 1000) (k2 : (clS L S w).length ≤ 1000) : dvC L S u w = 0 := by unfold dvC; rw [if_pos h, if_pos ⟨k, k2⟩]
@[irreducible] noncomputable def dvB (L S : List (List Int)) (u w : List Int) : Bool := decide (dvC L S u w = 0) && !(rsS L S u w).isEmpty
theorem dvB_no {L S : List (List Int)} {u w : List Int} (h : dvC L S u w ≠ 0) : dvB L S u w = false := by unfold dvB; rw [decide_eq_false h]; rfl
theorem dvB_ok {L S : List (List Int)} {u w : List Int} (h : dvC L S u w = 0) : dvB L S u w = !(rsS L S u w).isEmpty := by unfold dvB; rw [decide_eq_true h]; rfl
end Go.Proofs.YtjfjpngajboidaaGreat


namespace Go.Proofs.YtjfjpngajboidaaGreat
set_option linter.unusedVariables false
set_option linter.unusedSimpArgs false

section
variable {L S : List (List Int)}
end
theorem clsC_part {L S : List (List Int)} (h : SolOk L S) {p q w : List Int} (hw : WordOk L.length w) (h8 : w.length ≤ 8) (he : EqS L S w (p ++ q)) (hl : (clS L S w).length ≤ 1000) : clsC L S p = 0 ∧ clsC L S q = 0 := by
  have hpq := he.ok h hw
  have hlen := he.len
  simp at hlen
  have hs := clS_same h hw he
  have h1 := clS_begin h hpq
  have h2 := clS_end h hpq
  rw [hs] at h1 h2
  have hsb := solB_iff.2 h
  have w1 : wordB L.length p = true := wordB_iff.2 ⟨hpq.left, by omega⟩
  have w2 : wordB L.length q = true := wordB_iff.2 ⟨hpq.right, by omega⟩
  exact ⟨clsC_ok (codeW_ok hsb w1 w1) (by omega), clsC_ok (codeW_ok hsb w2 w2) (by omega)⟩
theorem intsW_take {w : World} {b o c k : Nat} {l : List Int} (h : IntsAt w b o l) (hl : l.length ≤ 1048576) (hk : k ≤ l.length) : Ints w (.slice (some ⟨b, o, none⟩) k c) (l.take k) := by
  have hlk : (l.take k).length = k := by rw [List.length_take]; omega
  refine ⟨by omega, b, o, c, by rw [hlk], fun i hi => ?_⟩
  rw [hlk] at hi
  have e := h i (by omega)
  rw [e]
  congr 2
  rw [ix_eq, ix_eq, List.getD_eq_getElem?_getD, List.getD_eq_getElem?_getD, List.getElem?_take, if_pos hi]
theorem intsW_drop {w : World} {b o c k : Nat} {l : List Int} (h : IntsAt w b o l) (hl : l.length ≤ 1048576) (hk : k ≤ l.length) : Ints w (.slice (some ⟨b, o + k, none⟩) (l.length - k) c) (l.drop k) := by
  have hlk : (l.drop k).length = l.length - k := by rw [List.length_drop]
  refine ⟨by omega, b, o + k, c, by rw [hlk], fun i hi => ?_⟩
  rw [hlk] at hi
  have e := h (k + i) (by omega)
  rw [Nat.add_assoc, e]
  congr 2
  rw [ix_eq, ix_eq, List.getD_eq_getElem?_getD, List.getD_eq_getElem?_getD, List.getElem?_drop]
end Go.Proofs.YtjfjpngajboidaaGreat


namespace Go.Proofs.YtjfjpngajboidaaGreat
set_option linter.unusedVariables false
set_option linter.unusedSimpArgs false
open Go.RowKit
attribute [local go_sem ↓] Go.wp_at_zero Go.wp_at_succ
open Go.Deep

structure TwoB (S R C lo : Nat) (w0 w : World) (v y : Value) (L U : List (List Int)) : Prop where
  bc : BoxV C w v y
  bb : BoxV R w (.slice none 0 0) (.slice none 0 0)
  a : RowsP (fun k => lo ≤ k) w v L
  u : RowsP (fun k => lo ≤ k) w y U
  l : L.length ≤ 13
  src : Src S w
  x : Ext w0 w
  rs : R < S
  sl : S < lo
  nc : C ≠ S
  nr : C ≠ R
  r0 : w0.heap.size ≤ R
theorem TwoB.touch {S R C lo : Nat} {w0 w w' : World} {v y : Value} {L U : List (List Int)} (h : TwoB S R C lo w0 w v y L U) (hs : Src S w') (m : Touch S (S + 1) w w') : TwoB S R C lo w0 w' v y L U :=
  ⟨h.bc.touchS m h.nc, h.bb.touchS m (by have := h.rs; omega), h.a.touch m (fun k hk => by have := h.sl; omega), h.u.touch m (fun k hk => by have := h.sl; omega), h.l, hs, h.x.touch m (by have := h.rs; have := h.r0; omega), h.rs, h.sl, h.nc, h.nr, h.r0⟩
theorem TwoB.ext {S R C lo : Nat} {w0 w w' : World} {v y : Value} {L U : List (List Int)} (h : TwoB S R C lo w0 w v y L U) (hx : Ext w w') : TwoB S R C lo w0 w' v y L U :=
  ⟨h.bc.ext hx, h.bb.ext hx, h.a.ext hx, h.u.ext hx, h.l, h.src.ext hx, h.x.trans hx, h.rs, h.sl, h.nc, h.nr, h.r0⟩
theorem TwoB.fin {S R C lo : Nat} {w0 w : World} {v y : Value} {L U : List (List Int)} (h : TwoB S R C lo w0 w v y L U) (v0 y0 : Value) : Rows ((w.setCell ⟨R, 0, none⟩ v0).setCell ⟨R, 1, none⟩ y0) v L ∧ Rows ((w.setCell ⟨R, 0, none⟩ v0).setCell ⟨R, 1, none⟩ y0) y U ∧ Ext w0 ((w.setCell ⟨R, 0, none⟩ v0).setCell ⟨R, 1, none⟩ y0) := by
  have k1 : ∀ k, lo ≤ k → k ≠ R := fun k hk => by have := h.rs; have := h.sl; omega
  exact ⟨((h.a.setO (a := ⟨R, 0, none⟩) k1 v0 (fun k h => h)).setO (a := ⟨R, 1, none⟩) k1 y0 (fun k h => h)).rows, ((h.u.setO (a := ⟨R, 0, none⟩) k1 v0 (fun k h => h)).setO (a := ⟨R, 1, none⟩) k1 y0 (fun k h => h)).rows, (h.x.setNew (p := ⟨R, 0, none⟩) h.r0 v0).setNew (p := ⟨R, 1, none⟩) h.r0 y0⟩
theorem RF.touchS {S lo : Nat} {D : Nat → Prop} {w w' : World} {x : Value} {l : List Int} (h : RF lo D w x l) (m : Touch S (S + 1) w w') (hS : S < lo) : RF lo D w' x l := h.keep m.size fun k h1 hk _ => m.block k hk (by omega)
theorem TwoB.make {S R : Nat} {w0 w1 w2 : World} {a1 a2 : Option Addr} {n1 c1 n2 c2 e : Nat} {L U : List (List Int)} (hb : BoxV R w2 (.slice none 0 0) (.slice none 0 0)) (h1 : RowsP (fun k => w1.heap.size ≤ k) w2 (.slice a1 n1 c1) L) (h2 : RowsP (fun k => w1.heap.size ≤ k) w2 (.slice a2 n2 c2) U) (hl : L.length ≤ 13) (hs : Src S w2) (hx : Ext w0 w2) (hrs : R < S) (hsl : S < w1.heap.size) (hr0 : w0.heap.size ≤ R) (hz : w1.heap.size ≤ w2.heap.size) : TwoB S R w2.heap.size w1.heap.size w0 (w2.alloc (.cells #[.slice a1 n1 c1, .slice a2 n2 c2] e)) (.slice a1 n1 c1) (.slice a2 n2 c2) L U := by
  have hxb : Ext w2 (w2.alloc (.cells #[.slice a1 n1 c1, .slice a2 n2 c2] e)) := (Ext.refl _).alloc _
  exact ⟨BoxV.new w2 _ _ e, hb.ext hxb, h1.ext hxb, h2.ext hxb, hl, hs.ext hxb, hx.trans hxb, hrs, hsl, by omega, by omega, hr0⟩
end Go.Proofs.YtjfjpngajboidaaGreat


namespace Go.Proofs.YtjfjpngajboidaaGreat
set_option linter.unusedVariables false
set_option linter.unusedSimpArgs false
open Go.RowKit
attribute [local go_sem ↓] Go.wp_at_zero Go.wp_at_succ
open Go.Deep

set_option maxRecDepth 100000 in
set_option maxHeartbeats 1000000 in
theorem l01Count_any (S n : Nat) (m : Int) (w : World) (hs : Src S w) (hm : m + 1 = (n : Int)) (h1 : 1 ≤ n) (hn : n ≤ 1000) :
    Calls Tryz.prog 58 #[.pointer (some ⟨S, 0, none⟩), .int .i64 m] w fun e w' => ∃ r : Int, e = .returned (.int .i64 r) ∧ Src S w' ∧ Touch S (S + 1) w w' := by
  have hlt := hs.lt
  have hw1 : IntKind.i64.wrap (m + 1) = m + 1 := IntWalk.i64_in _ (by omega)
  have hml : 0 ≤ m ∧ m ≤ 1000 := by omega
  go_enter Tryz.func58, Tryz.ntmps58
  go_wp2_with fail
  refine (l01Next_any S _ _ hs).mono ?_
  rintro e w1 ⟨r, rfl, -, -, -, hs1, hT1⟩
  have HS := Lib.hid hs1
  have HT := Lib.hid hT1
  have hz1 := hT1.size
  clear hs1 hT1 hs
  by_cases hr0 : r = 0
  case pos =>
    subst hr0
    have hxb : Ext w1 (w1.alloc (.cells #[.int .i64 (-1), .int .i64 (n : Int), .int .i64 1099511627776, .int .i64 (-4611686018427387904)] 2)) := (Ext.refl _).alloc _
    have HP := Lib.hid (row_litE (w := w1) rfl [-1, (n : Int), 1099511627776, -4611686018427387904] 2)
    have HS2 := Lib.hid (HS.out.ext hxb)
    have HT2 := Lib.hid (touch_ext HT.out hxb)
    go_wp2_with fail
    refine (l01Pick_lit S [-1, (n : Int), 1099511627776, -4611686018427387904] _ _ _ _ HP.out (by simp) (by simp) (by omega) HS2.out (by simp)).mono ?_
    rintro e w4 ⟨i, hi, rfl, hs4, hT4⟩
    have HS4 := Lib.hid hs4
    have HT4 := Lib.hid (HT2.out.trans hT4)
    clear hs4 hT4
    go_wp2
    go_ret
    exact ⟨_, rfl, HS4.out, HT4.out⟩
  case neg =>
    go_wp2_with fail
    refine (l01Next_nat S n _ HS.out h1).mono ?_
    rintro e w4 ⟨j, hj, rfl, hs4, hT4⟩
    have HS4 := Lib.hid hs4
    have HT4 := Lib.hid (HT.out.trans hT4)
    clear hs4 hT4
    go_wp2
    go_ret
    exact ⟨_, rfl, HS4.out, HT4.out⟩

def DrawT0 (w : World) (e : Ending) (w' : World) : Prop := ∃ v y L U, e = .returned (.agg #[v, y]) ∧ Rows w' v L ∧ Rows w' y U ∧ Ext w w'
def DrawT3 (w : World) (e : Ending) (w' : World) : Prop := ∃ v y L U p q, e = .returned (.tuple #[.agg #[v, y], .int .i64 p, .int .i64 q]) ∧ Rows w' v L ∧ Rows w' y U ∧ Ext w w'
theorem drawT0_end {B lo : Nat} {w w2 : World} {v y v0 y0 : Value} {T U : List (List Int)} (hB : w.heap.size = B) (hlo : B < lo) (hT : RowsP (fun k => lo ≤ k) w2 v T) (hU : RowsP (fun k => lo ≤ k) w2 y U) (hx : Ext w w2) :
    DrawT0 w (.returned (.agg #[v, y])) ((w2.setCell ⟨B, 0, none⟩ v0).setCell ⟨B, 1, none⟩ y0) := by
  subst hB
  have k1 : ∀ k, lo ≤ k → k ≠ w.heap.size := fun k hk => by omega
  exact ⟨v, y, T, U, rfl, ((hT.setO (a := ⟨w.heap.size, 0, none⟩) k1 v0 (fun k h => h)).setO (a := ⟨w.heap.size, 1, none⟩) k1 y0 (fun k h => h)).rows, ((hU.setO (a := ⟨w.heap.size, 0, none⟩) k1 v0 (fun k h => h)).setO (a := ⟨w.heap.size, 1, none⟩) k1 y0 (fun k h => h)).rows, (hx.setNew (p := ⟨w.heap.size, 0, none⟩) (Nat.le_refl _) v0).setNew (p := ⟨w.heap.size, 1, none⟩) (Nat.le_refl _) y0⟩
theorem pick6 {j : Nat} (hj : j < ([2, 3, 4, 4, 5, 6] : List Int).length) : ∃ m : Nat, ix [2, 3, 4, 4, 5, 6] j = (m : Int) ∧ 1 ≤ m ∧ m ≤ 6 := by
  match j, hj with
  | 0, _ => exact ⟨2, by simp [ix_eq], by omega, by omega⟩
  | 1, _ => exact ⟨3, by simp [ix_eq], by omega, by omega⟩
  | 2, _ => exact ⟨4, by simp [ix_eq], by omega, by omega⟩
  | 3, _ => exact ⟨4, by simp [ix_eq], by omega, by omega⟩
  | 4, _ => exact ⟨5, by simp [ix_eq], by omega, by omega⟩
  | 5, _ => exact ⟨6, by simp [ix_eq], by omega, by omega⟩

set_option maxRecDepth 100000 in
set_option maxHeartbeats 4000000 in
theorem DrawGarsideWord_any (bs : List Int) (v : Value) (w : World) (hv : BytesR w v bs) (hl : bs.length ≤ 4096) :
    Calls Tryz.prog 19 #[v] w (DrawT0 w) := by
  have hx0 : Ext w (w.alloc (.cells #[.slice none 0 0, .slice none 0 0] 26)) := (Ext.refl _).alloc _
  have HR0 := Lib.hid (BoxV.new w (.slice none 0 0) (.slice none 0 0) 26)
  have HV := Lib.hid (hv.ext hx0)
  have hz0 : w.heap.size < (w.alloc (.cells #[.slice none 0 0, .slice none 0 0] 26)).heap.size := by simp
  clear hv
  go_enter Tryz.func19, Tryz.ntmps19
  go_wp2_with fail
  generalize (w.alloc (.cells #[.slice none 0 0, .slice none 0 0] 26)) = w0 at *
  refine (l01From_any bs v w0 HV.out hl).mono ?_
  rintro e w1 ⟨S, rfl, hS, hs1, hx1⟩
  have hS1 := hs1.lt
  have HX1 := Lib.hid (hx0.trans hx1)
  have HR1 := Lib.hid (HR0.out.ext hx1)
  clear hx0 hx1 HR0 HV
  go_wp2_with fail
  refine (l01Next_any S _ _ hs1).mono ?_
  rintro e w2 ⟨r, rfl, -, -, -, hs2, hT2⟩
  have HX2 := Lib.hid (HX1.out.touch hT2 (by omega))
  have HR2 := Lib.hid (HR1.out.touchS hT2 (by omega))
  have HS2 := Lib.hid hs2
  have hz2 := hT2.size
  clear hs2 hT2 HX1 HR1 hs1
  by_cases hr0 : r = 0
  case pos =>
    subst hr0
    go_wp2_with fail
    refine (l07Spoil_any S 6 _ HS2.out (by omega) (by omega)).mono ?_
    rintro e w3 ⟨v3, y3, L, U, rfl, ht3, hu3, hl3, hs3, hT3⟩
    obtain ⟨d1, o1, c1, rfl⟩ := ht3.shape
    obtain ⟨d2, o2, c2, rfl⟩ := hu3.shape
    have HX3 := Lib.hid (HX2.out.touch hT3 (by omega))
    have HR3 := Lib.hid (HR2.out.touchS hT3 (by omega))
    have HA3 := Lib.hid ht3
    have HU3 := Lib.hid hu3
    clear ht3 hu3 hs3 hT3
    obtain ⟨-, q0, q1, q2, q3⟩ := HR3.out
    go_wp2
    exact bodyPost_ret (v := .agg #[.slice (some ⟨d1, o1, none⟩) L.length c1, .slice (some ⟨d2, o2, none⟩) U.length c2]) (by simp [results, Tryz.results19, go_sem, q0, q1]) rfl (drawT0_end (lo := w2.heap.size) rfl (by omega) HA3.out HU3.out HX3.out)
  case neg =>
    have hxb : Ext w2 (w2.alloc (.cells #[.int .i64 2, .int .i64 3, .int .i64 4, .int .i64 4, .int .i64 5, .int .i64 6] 2)) := (Ext.refl _).alloc _
    have HP := Lib.hid (row_litE (w := w2) rfl [2, 3, 4, 4, 5, 6] 2)
    have HS3 := Lib.hid (HS2.out.ext hxb)
    have HX3 := Lib.hid (HX2.out.trans hxb)
    have HR3 := Lib.hid (HR2.out.ext hxb)
    have HXB := Lib.hid hxb
    clear hxb
    go_wp2_with fail
    refine (l01Pick_lit S [2, 3, 4, 4, 5, 6] _ _ _ _ HP.out (by simp) (by simp) (by omega) HS3.out (by simp)).mono ?_
    rintro e w4 ⟨j, hj, rfl, hs4, hT4⟩
    obtain ⟨m, hme, hm1, hm6⟩ := pick6 hj
    rw [hme]
    have HX4 := Lib.hid (HX3.out.touch hT4 (by omega))
    have HR4 := Lib.hid (HR3.out.touchS hT4 (by omega))
    have HS4 := Lib.hid hs4
    have hz4 := Nat.le_trans HXB.out.size hT4.size
    clear hs4 hT4 hme hj HP HXB
    go_wp2_with fail
    refine (l05Draw_any S m _ HS4.out hm1 (by omega)).mono ?_
    rintro e w5 ⟨v5, T, rfl, ht, hq1, hq2, hpp, hs5, hT5⟩
    have HX5 := Lib.hid (HX4.out.touch hT5 (by omega))
    have HR5 := Lib.hid (HR4.out.touchS hT5 (by omega))
    have hz5 := hT5.size
    go_wp2_with fail
    refine (l05Solution_any T.length T v5 w5 ht.rows hq1 (by omega) rfl hpp).mono ?_
    rintro e w6 ⟨v6, y6, L, U, rfl, ht6, hu6, -, hl6, -, hx6⟩
    obtain ⟨ht60, d1, d2, rfl, -⟩ := id ht6
    obtain ⟨hu60, d3, d4, rfl, -⟩ := id hu6
    have HX6 := Lib.hid (HX5.out.trans hx6)
    have HR6 := Lib.hid (HR5.out.ext hx6)
    have HA6 := Lib.hid ht6.rowsP
    have HU6 := Lib.hid hu6.rowsP
    clear ht60 hu60 ht6 hu6 hl6 hx6 hs5 hT5 ht hpp
    obtain ⟨-, q0, q1, q2, q3⟩ := HR6.out
    go_wp2
    exact bodyPost_ret (v := .agg #[.slice (some ⟨d1, 0, none⟩) L.length d2, .slice (some ⟨d3, 0, none⟩) U.length d4]) (by simp [results, Tryz.results19, go_sem, q0, q1]) rfl (drawT0_end (lo := w5.heap.size) rfl (by omega) HA6.out HU6.out HX6.out)

theorem TwoB.put {S R C lo : Nat} {w0 w w' : World} {v y v' y' : Value} {L U L' U' : List (List Int)} (h : TwoB S R C lo w0 w v y L U) (hs : Src S w') (m : Touch S (S + 1) w w') (h1 : RowsP (fun k => w.heap.size ≤ k) w' v' L') (h2 : RowsP (fun k => w.heap.size ≤ k) w' y' U') (hl : L'.length ≤ 13) (hCS : S < C) (hlo : lo ≤ w.heap.size) (hCw : w0.heap.size ≤ C) :
    TwoB S R C lo w0 ((w'.setCell ⟨C, 0, none⟩ v').setCell ⟨C, 1, none⟩ y') v' y' L' U' := by
  have ht := h.touch hs m
  have hc := h.bc.1
  have k1 : ∀ k, w.heap.size ≤ k → k ≠ C := fun k hk => by omega
  refine ⟨(ht.bc.set0 v').set1 y', (ht.bb.setOther (a := ⟨C, 0, none⟩) h.nr v').setOther (a := ⟨C, 1, none⟩) h.nr y', (h1.setO (a := ⟨C, 0, none⟩) k1 v' (fun k q => q)).setO (a := ⟨C, 1, none⟩) k1 y' (fun k q => by omega), (h2.setO (a := ⟨C, 0, none⟩) k1 v' (fun k q => q)).setO (a := ⟨C, 1, none⟩) k1 y' (fun k q => by omega), hl, src_setCell (src_setCell hs (p := ⟨C, 0, none⟩) hCS v') (p := ⟨C, 1, none⟩) hCS y', (ht.x.setNew (p := ⟨C, 0, none⟩) hCw v').setNew (p := ⟨C, 1, none⟩) hCw y', h.rs, h.sl, h.nc, h.nr, h.r0⟩

set_option maxRecDepth 100000 in
set_option maxHeartbeats 8000000 in
theorem DrawCommonMultiple_any (bs : List Int) (v : Value) (w : World) (hv : BytesR w v bs) (hl : bs.length ≤ 4096) :
    Calls Tryz.prog 22 #[v] w (DrawT3 w) := by
  have hx0 : Ext w (w.alloc (.cells #[.slice none 0 0, .slice none 0 0] 26)) := (Ext.refl _).alloc _
  have HR0 := Lib.hid (BoxV.new w (.slice none 0 0) (.slice none 0 0) 26)
  have HV := Lib.hid (hv.ext hx0)
  have hz0 : w.heap.size < (w.alloc (.cells #[.slice none 0 0, .slice none 0 0] 26)).heap.size := by simp
  clear hv
  go_enter Tryz.func22, Tryz.ntmps22
  go_wp2_with fail
  generalize (w.alloc (.cells #[.slice none 0 0, .slice none 0 0] 26)) = w0 at *
  refine (l01From_any bs v w0 HV.out hl).mono ?_
  rintro e w1 ⟨S, rfl, hS, hs1, hx1⟩
  have hS1 := hs1.lt
  go_wp2_with fail
  refine (l05Draw_any S 8 w1 hs1 (by omega) (by omega)).mono ?_
  rintro e w2 ⟨v2, T, rfl, ht, hq1, hq2, hpp, hs2, hT2⟩
  go_wp2_with fail
  refine (l05Solution_any T.length T v2 w2 ht.rows hq1 (by omega) rfl hpp).mono ?_
  rintro e w3 ⟨v3, y3, L, U, rfl, ht3, hu3, -, hl3, -, hx3⟩
  have hA := ht3.rowsP.weaken (O' := fun k => w1.heap.size ≤ k) (fun k h => Nat.le_trans hT2.size h)
  have hU := hu3.rowsP.weaken (O' := fun k => w1.heap.size ≤ k) (fun k h => Nat.le_trans hT2.size h)
  obtain ⟨ht30, d1, d2, rfl, -⟩ := id ht3
  obtain ⟨hu30, d3, d4, rfl, -⟩ := id hu3
  have hz13 : w1.heap.size ≤ w3.heap.size := Nat.le_trans hT2.size hx3.size
  have HB := Lib.hid (TwoB.make (e := 26) (((HR0.out.ext hx1).touchS hT2 (by omega)).ext hx3) hA hU (by omega) (hs2.ext hx3) (((hx0.trans hx1).touch hT2 (by omega)).trans hx3) (by omega) hS1 (Nat.le_refl _) hz13)
  have hCw : w.heap.size ≤ w3.heap.size := by have := hx1.size; omega
  clear hA hU hs2 hT2 hx0 hx1 HR0 HV hs1 ht30 hu30 ht3 hu3 hx3 hl3 hpp ht
  go_wp2_with fail
  have hz34 : w3.heap.size ≤ (w3.alloc (.cells #[.slice (some ⟨d1, 0, none⟩) L.length d2, .slice (some ⟨d3, 0, none⟩) U.length d4] 26)).heap.size := by simp
  generalize (w3.alloc (.cells #[.slice (some ⟨d1, 0, none⟩) L.length d2, .slice (some ⟨d3, 0, none⟩) U.length d4] 26)) = w4 at *
  refine (l01Next_any S _ _ HB.out.src).mono ?_
  rintro e w5 ⟨r, rfl, -, -, -, hs5, hT5⟩
  have HB5 := Lib.hid (HB.out.touch hs5 hT5)
  have hz5 := hT5.size
  clear hs5 hT5 HB
  go_upto_if 14 with fail
  go_cut [] (fun wx => ∃ (a1 a2 n1 n2 c1 c2 : Nat) (o1 o2 : Nat) (L U : List (List Int)), TwoB S w.heap.size w3.heap.size w1.heap.size w wx (.slice (some ⟨a1, o1, none⟩) n1 c1) (.slice (some ⟨a2, o2, none⟩) n2 c2) L U)
  case first =>
    by_cases hr0 : r = 0
    case neg =>
      go_wp2
      go_meet
      case rel => exact ⟨_, _, _, _, _, _, _, _, _, _, HB5.out⟩
    case pos =>
      subst hr0
      go_wp2_with fail
      refine (l07Spoil_any S 6 _ HB5.out.src (by omega) (by omega)).mono ?_
      rintro e w6 ⟨v6, y6, L6, U6, rfl, ht6, hu6, hl6, hs6, hT6⟩
      obtain ⟨e1, f1, g1, rfl⟩ := ht6.shape
      obtain ⟨e2, f2, g2, rfl⟩ := hu6.shape
      have hB6 := HB5.out.touch hs6 hT6
      obtain ⟨-, k0, k1, k2, k3⟩ := hB6.bc
      have HB7 := Lib.hid (HB5.out.put hs6 hT6 ht6 hu6 hl6 (by omega) (by omega) hCw)
      clear ht6 hu6 hs6 hT6 hB6
      go_wp2
      go_meet
      case rel => exact ⟨_, _, _, _, _, _, _, _, _, _, HB7.out⟩
  case rest =>
    obtain ⟨a1, a2, n1, n2, c1, c2, o1, o2, L, U, hb⟩ := hcut
    have HB6 := Lib.hid hb
    clear hb HB5
    have HSZ := Lib.hid (size9_le HB6.out.l)
    have hsp := size9_pos L
    obtain ⟨m, hm⟩ : ∃ m, m = size9 L := ⟨_, rfl⟩
    have HM := Lib.hid hm
    rw [← hm] at hsp HSZ
    have hm13 := HSZ.out
    clear hm
    obtain ⟨-, k0, k1, -, -⟩ := HB6.out.bc
    obtain ⟨-, q0, q1, q2, q3⟩ := HB6.out.bb
    have SZ : ∀ W, TwoB S w.heap.size w3.heap.size w1.heap.size w W (.slice (some ⟨a1, o1, none⟩) n1 c1) (.slice (some ⟨a2, o2, none⟩) n2 c2) L U → Calls Tryz.prog 36 #[.agg #[.slice (some ⟨a1, o1, none⟩) n1 c1, .slice (some ⟨a2, o2, none⟩) n2 c2]] W fun e W' => e = .returned (.int .i64 (m : Int)) ∧ Ext W W' := fun W hW => (l09Size_any L U _ _ _ hW.a.rows hW.u.rows).mono (by
      rintro e W' ⟨rfl, hx⟩
      exact ⟨by rw [HM.out], hx⟩)
    have SZH := Lib.hid SZ
    clear SZ
    have hneC := HB6.out.nr
    have hmi : (m : Int) - 1 + 1 = (m : Int) := by omega
    have hwr : IntKind.i64.wrap ((m : Int) - 1) = (m : Int) - 1 := IntWalk.i64_in _ (by omega)
    go_wp2_with fail
    go_region_held3 (fun w' => w'.cell? ⟨w3.heap.size, 0, none⟩ = some (.slice (some ⟨a1, o1, none⟩) n1 c1) ∧ w'.cell? ⟨w3.heap.size, 1, none⟩ = some (.slice (some ⟨a2, o2, none⟩) n2 c2))
      ((refine ⟨?_, ?_⟩ <;> (repeat first | (with_reducible assumption) |  (with_reducible exact kc_new) | ((with_reducible refine kc_newE ?_); (simp; done)) | ((with_reducible refine kc_newEa ?_); (simp; done)) | ((with_reducible refine kc_newEb ?_); (simp; done)) | (with_reducible apply kc_alloc) | (with_reducible apply kc_drewN) | (with_reducible apply kc_drew) | ((with_reducible refine kc_set ?_ ?_); (first | (simp only []; omega) | (simp; omega) | (focus (simp; done)))) | ((with_reducible refine kc_set2 ?_ ?_); (focus (simp; done))) | (with_reducible refine kc_same (v := .slice none 0 0) ?_))))
      (first
        | (go_at_call 58; refine (l01Count_any S m _ _ (HBC.out.src.ext (by (repeat first | (with_reducible exact Ext.refl _) | (with_reducible assumption) | (with_reducible apply Ext.drew) | (with_reducible apply kx_drewN) | (with_reducible apply kx_alloc) | ((with_reducible refine kx_set ?_ ?_); (first | (simp only []; omega) | (simp; omega) | (focus (simp; done)))) ))) hmi hsp (by omega)).mono ?_; rintro e wD ⟨rD, rfl, hsD, hTD⟩; have HBD := Lib.hid (HBC.out.touch hsD (touch_pre (show Ext wC _ by (repeat first | (with_reducible exact Ext.refl _) | (with_reducible assumption) | (with_reducible apply Ext.drew) | (with_reducible apply kx_drewN) | (with_reducible apply kx_alloc) | ((with_reducible refine kx_set ?_ ?_); (first | (simp only []; omega) | (simp; omega) | (focus (simp; done)))) )) hTD)); obtain ⟨-, k0, k1, -, -⟩ := HBD.out.bc; obtain ⟨-, q0, q1, q2, q3⟩ := HBD.out.bb)
        | (go_at_call 36; refine (SZH.out _ (HBB.out.ext (by (repeat first | (with_reducible exact Ext.refl _) | (with_reducible assumption) | (with_reducible apply Ext.drew) | (with_reducible apply kx_drewN) | (with_reducible apply kx_alloc) | ((with_reducible refine kx_set ?_ ?_); (first | (simp only []; omega) | (simp; omega) | (focus (simp; done)))) )))).mono ?_; rintro e wC ⟨rfl, hxC⟩; have HBC := Lib.hid ((HBB.out.ext (show Ext wB _ by (repeat first | (with_reducible exact Ext.refl _) | (with_reducible assumption) | (with_reducible apply Ext.drew) | (with_reducible apply kx_drewN) | (with_reducible apply kx_alloc) | ((with_reducible refine kx_set ?_ ?_); (first | (simp only []; omega) | (simp; omega) | (focus (simp; done)))) ))).ext hxC); obtain ⟨-, k0, k1, -, -⟩ := HBC.out.bc; obtain ⟨-, q0, q1, q2, q3⟩ := HBC.out.bb)
        | (go_at_call 58; refine (l01Count_any S m _ _ (HBA.out.src.ext (by (repeat first | (with_reducible exact Ext.refl _) | (with_reducible assumption) | (with_reducible apply Ext.drew) | (with_reducible apply kx_drewN) | (with_reducible apply kx_alloc) | ((with_reducible refine kx_set ?_ ?_); (first | (simp only []; omega) | (simp; omega) | (focus (simp; done)))) ))) hmi hsp (by omega)).mono ?_; rintro e wB ⟨rB, rfl, hsB, hTB⟩; have HBB := Lib.hid (HBA.out.touch hsB (touch_pre (show Ext wA _ by (repeat first | (with_reducible exact Ext.refl _) | (with_reducible assumption) | (with_reducible apply Ext.drew) | (with_reducible apply kx_drewN) | (with_reducible apply kx_alloc) | ((with_reducible refine kx_set ?_ ?_); (first | (simp only []; omega) | (simp; omega) | (focus (simp; done)))) )) hTB)); obtain ⟨-, k0, k1, -, -⟩ := HBB.out.bc; obtain ⟨-, q0, q1, q2, q3⟩ := HBB.out.bb)
        | (go_at_call 36; refine (SZH.out _ (HB6.out.ext (by (repeat first | (with_reducible exact Ext.refl _) | (with_reducible assumption) | (with_reducible apply Ext.drew) | (with_reducible apply kx_drewN) | (with_reducible apply kx_alloc) | ((with_reducible refine kx_set ?_ ?_); (first | (simp only []; omega) | (simp; omega) | (focus (simp; done)))) )))).mono ?_; rintro e wA ⟨rfl, hxA⟩; have HBA := Lib.hid ((HB6.out.ext (show Ext wc _ by (repeat first | (with_reducible exact Ext.refl _) | (with_reducible assumption) | (with_reducible apply Ext.drew) | (with_reducible apply kx_drewN) | (with_reducible apply kx_alloc) | ((with_reducible refine kx_set ?_ ?_); (first | (simp only []; omega) | (simp; omega) | (focus (simp; done)))) ))).ext hxA); obtain ⟨-, k0, k1, -, -⟩ := HBA.out.bc; obtain ⟨-, q0, q1, q2, q3⟩ := HBA.out.bb))
    all_goals
      go_wp2
      have hf := HBD.out.fin (.slice (some ⟨a1, o1, none⟩) n1 c1) (.slice (some ⟨a2, o2, none⟩) n2 c2)
      exact bodyPost_ret (v := .tuple #[.agg #[.slice (some ⟨a1, o1, none⟩) n1 c1, .slice (some ⟨a2, o2, none⟩) n2 c2], .int .i64 rB, .int .i64 rD]) (by simp [results, Tryz.results22, go_sem, q0, q1]) rfl ⟨_, _, L, U, rB, rD, rfl, hf.1, hf.2.1, hf.2.2⟩
end Go.Proofs.YtjfjpngajboidaaGreat


namespace Go.Proofs.YtjfjpngajboidaaGreat
set_option linter.unusedVariables false
set_option linter.unusedSimpArgs false

def toN (l : List Int) : List Nat := l.map Int.toNat
def ofN (w : List Nat) : List Int := w.map fun (x : Nat) => (x : Int)
theorem length_toN (l : List Int) : (toN l).length = l.length := by unfold toN; simp
theorem toN_ofN (w : List Nat) : toN (ofN w) = w := by
  unfold toN ofN; rw [List.map_map]; conv => rhs; rw [← List.map_id w]
  exact List.map_congr_left fun x _ => by simp
theorem wordOk_mem {n : Nat} {l : List Int} : WordOk n l ↔ ∀ x, x ∈ l → 0 ≤ x ∧ x < n := by
  constructor
  · intro h x hx
    obtain ⟨i, hi, rfl⟩ := List.getElem_of_mem hx
    have := h i hi
    rw [ix_eq] at this
    simpa [List.getD, hi] using this
  · intro h i hi
    exact h _ (ix_mem l i hi)
theorem toN_lt {n : Nat} {l : List Int} (h : WordOk n l) : LtN n (toN l) := fun x hx => by
  obtain ⟨y, hy, rfl⟩ := List.mem_map.1 hx
  have := wordOk_mem.1 h y hy
  omega
theorem ofN_ok {n : Nat} {w : List Nat} (h : LtN n w) : WordOk n (ofN w) := wordOk_mem.2 fun x hx => by
  obtain ⟨y, hy, rfl⟩ := List.mem_map.1 hx
  have := h y hy
  omega
theorem ofN_toN {n : Nat} {l : List Int} (h : WordOk n l) : ofN (toN l) = l := by
  unfold toN ofN; rw [List.map_map]; conv => rhs; rw [← List.map_id l]
  exact List.map_congr_left fun x hx => by
    have := wordOk_mem.1 h x hx
    simp; omega
theorem toN_inj {n : Nat} {l m : List Int} (h : WordOk n l) (k : WordOk n m) (e : toN l = toN m) : l = m := by rw [← ofN_toN h, ← ofN_toN k, e]

section
variable {n : Nat} {f g fi gi : Nat → Nat → Nat}
theorem move_cons (a : Int) (s : List Int) (k : Nat) : moveL f g (a :: s) (k + 1) = a :: moveL f g s k := by
  have cs : ∀ (i : Nat), ix (a :: s) (i + 1) = ix s i := fun i => by rw [ix_eq, ix_eq]; simp [List.getD]
  unfold moveL
  rw [cs, cs]; rfl
theorem stN_move : ∀ {k : Nat} {l : List Int}, k + 1 < l.length → StN f g (toN l) (toN (moveL f g l k)) := by
  intro k
  induction k with
  | zero =>
    intro l hl
    match l, hl with
    | a :: b :: q, _ =>
      have e : moveL f g (a :: b :: q) 0 = ((f a.toNat b.toNat : Nat) : Int) :: ((g a.toNat b.toNat : Nat) : Int) :: q := by
        unfold moveL
        have e0 : ix (a :: b :: q) 0 = a := by rw [ix_eq]; rfl
        have e1 : ix (a :: b :: q) (0 + 1) = b := by rw [ix_eq]; rfl
        rw [e0, e1]; rfl
      rw [e]
      exact .here a.toNat b.toNat (toN q)
  | succ k ih =>
    intro l hl
    cases l with
    | nil => simp at hl
    | cons a s =>
      rw [move_cons]
      exact .later a.toNat (ih (by simp at hl; omega))
theorem stN_back {a b : List Nat} (h : StN f g a b) : ∃ k, k + 1 < a.length ∧ ofN b = moveL f g (ofN a) k := by
  induction h with
  | here x y q =>
    refine ⟨0, by simp, ?_⟩
    unfold moveL
    have e0 : ix (ofN (x :: y :: q)) 0 = (x : Int) := by rw [ix_eq]; simp [ofN]
    have e1 : ix (ofN (x :: y :: q)) (0 + 1) = (y : Int) := by rw [ix_eq]; simp [ofN]
    rw [e0, e1]; rfl
  | later x _ ih =>
    obtain ⟨k, hk, e⟩ := ih
    refine ⟨k + 1, by simp; omega, ?_⟩
    show (x : Int) :: ofN _ = moveL f g ((x : Int) :: ofN _) (k + 1)
    rw [move_cons, e]
theorem eqv_to (hm : Mv n f g fi gi) {u v : List Int} (hu : WordOk n u) (h : Eqv f g fi gi u v) : EqN f g n (toN u) (toN v) := by
  induction h with
  | refl => exact .refl
  | step a b h1 h2 ih =>
    have ha := h1.ok hm hu
    have hb := h2.ok hm ha
    obtain ⟨k, hk, rfl | rfl⟩ := h2
    · exact .on _ _ ih (toN_lt ha) (toN_lt hb) (stN_move hk)
    · refine .back _ _ ih (toN_lt ha) (toN_lt hb) ?_
      have := stN_move (f := f) (g := g) (k := k) (l := moveL fi gi a k) (by rw [length_moveL]; exact hk)
      rwa [move_back hm.inv ha hk] at this
theorem eqv_from (hm : Mv n f g fi gi) {a b : List Nat} (h : EqN f g n a b) (ha : LtN n a) : Eqv f g fi gi (ofN a) (ofN b) := by
  induction h with
  | refl => exact .refl
  | on c d _ _ _ h3 ih =>
    obtain ⟨k, hk, e⟩ := stN_back h3
    exact .step _ _ ih ⟨k, by unfold ofN; simpa using hk, .inl e⟩
  | back c d _ h1 h2 h3 ih =>
    obtain ⟨k, hk, e⟩ := stN_back h3
    have hk2 : k + 1 < (ofN d).length := by unfold ofN; simpa using hk
    refine .step _ _ ih ⟨k, by rw [e, length_moveL]; exact hk2, .inr ?_⟩
    rw [e, move_back hm (ofN_ok h2) hk2]
theorem eqv_iff (hm : Mv n f g fi gi) (hs : InvS n f g) {u v : List Int} (hu : WordOk n u) (hv : WordOk n v) : Eqv f g fi gi u v ↔ (cum f (toN u)).Perm (cum f (toN v)) := by
  constructor
  · intro h; exact (eqv_to hm hu h).perm hs
  · intro h
    have := eqv_from hm (eqN_of_perm hs rfl (toN_lt hu) (toN_lt hv) h) (toN_lt hu)
    rwa [ofN_toN hu, ofN_toN hv] at this
theorem cum_take (w : List Nat) : ∀ k, cum f (w.take k) = (cum f w).take k := by
  induction w with
  | nil => intro k; simp [cum]
  | cons x w ih =>
    intro k
    cases k with
    | zero => simp [cum]
    | succ k => simp [cum, ih, List.map_take]
theorem toN_take (l : List Int) (k : Nat) : toN (l.take k) = (toN l).take k := by unfold toN; rw [List.map_take]

def ndL (n : Nat) : Nat → List (List Nat)
  | 0 => [[]]
  | k + 1 => (ndL n k).flatMap fun l => ((List.range n).filter fun x => !l.contains x).map (· :: l)
theorem mem_ndL : ∀ {k : Nat} {c : List Nat}, c.length = k → c.Nodup → LtN n c → c ∈ ndL n k := by
  intro k
  induction k with
  | zero => intro c hc _ _; rw [List.length_eq_zero_iff.1 hc]; exact List.mem_cons_self
  | succ k ih =>
    intro c hc hn hl
    cases c with
    | nil => simp at hc
    | cons x c =>
      obtain ⟨h1, h2⟩ := List.nodup_cons.1 hn
      unfold ndL
      rw [List.mem_flatMap]
      refine ⟨c, ih (by simpa using hc) h2 hl.tail, List.mem_map.2 ⟨x, List.mem_filter.2 ⟨List.mem_range.2 hl.head, ?_⟩, rfl⟩⟩
      simpa using h1
theorem ndL_few : ∀ n : Fin 6, (ndL n n).length ≤ 120 := by decide +kernel

theorem garside_perm (hm : Mv n f g fi gi) (hs : InvS n f g) {w : List Int} (hw : WordOk n w) (hl : w.length = n) (ha : ∀ x, x < n → ∃ v, v ∈ wclL n f g fi gi w ∧ ix v 0 = (x : Int)) : (cum f (toN w)).Perm (List.range n) := by
  have hsub : ∀ x, x ∈ List.range n → x ∈ cum f (toN w) := by
    intro x hx
    have hx := List.mem_range.1 hx
    obtain ⟨v, hv, e⟩ := ha x hx
    have h1 := (mem_wclL hm hw).1 hv
    have hvo := h1.ok hm hw
    have h2 := (eqv_iff hm hs hw hvo).1 h1
    refine h2.symm.subset ?_
    have hvl := h1.len
    cases v with
    | nil => simp at hvl; omega
    | cons a s =>
      have : a = (x : Int) := by rw [ix_eq] at e; exact e
      subst this
      show x ∈ cum f ((x : Int).toNat :: toN s)
      rw [Int.toNat_natCast]
      exact List.mem_cons_self
  have hlen : (cum f (toN w)).length = n := by rw [length_cum, length_toN, hl]
  obtain ⟨h1, h2⟩ := pigeon (List.range n) (cum f (toN w)) List.nodup_range hsub (by rw [hlen, List.length_range]; exact Nat.le_refl _)
  refine (List.perm_ext_iff_of_nodup h2 List.nodup_range).2 fun x => ⟨h1 x, hsub x⟩
theorem garside_few (hm : Mv n f g fi gi) (hs : InvS n f g) (h5 : n ≤ 5) {w : List Int} (hw : WordOk n w) (hp : (cum f (toN w)).Perm (List.range n)) : (wclL n f g fi gi w).length ≤ 120 := by
  have h1 : ((wclL n f g fi gi w).map fun v => cum f (toN v)).Nodup := by
    refine nodup_map_on (nodup_wclL _ _ _ _ _ _) fun a ha b hb e => ?_
    have hao := ((mem_wclL hm hw).1 ha).ok hm hw
    have hbo := ((mem_wclL hm hw).1 hb).ok hm hw
    exact toN_inj hao hbo (cum_inj hs (toN_lt hao) (toN_lt hbo) e)
  have h2 := nodup_le _ (ndL n n) h1 fun c hc => by
    obtain ⟨v, hv, rfl⟩ := List.mem_map.1 hc
    have hv1 := (mem_wclL hm hw).1 hv
    have hvo := hv1.ok hm hw
    have hq := ((eqv_iff hm hs hw hvo).1 hv1).symm.trans hp
    refine mem_ndL (by rw [hq.length_eq, List.length_range]) (hq.symm.nodup List.nodup_range) (cum_lt hs (toN_lt hvo))
  rw [List.length_map] at h2
  exact Nat.le_trans h2 (ndL_few ⟨n, by omega⟩)

def boolL : Nat → List (List Bool)
  | 0 => [[]]
  | k + 1 => (boolL k).map (false :: ·) ++ (boolL k).map (true :: ·)
theorem length_boolL (k : Nat) : (boolL k).length = 2 ^ k := by
  induction k with
  | zero => rfl
  | succ k ih => unfold boolL; rw [List.length_append, List.length_map, List.length_map, ih, Nat.pow_succ]; omega
theorem mem_boolL : ∀ {k : Nat} {b : List Bool}, b ∈ boolL k ↔ b.length = k := by
  intro k
  induction k with
  | zero => intro b; unfold boolL; rw [List.mem_singleton, List.length_eq_zero_iff]
  | succ k ih =>
    intro b
    unfold boolL
    rw [List.mem_append, List.mem_map, List.mem_map]
    cases b with
    | nil => simp
    | cons x b =>
      have := ih (b := b)
      cases x <;> simp [this]
theorem nodup_boolL (k : Nat) : (boolL k).Nodup := by
  induction k with
  | zero => simp [boolL]
  | succ k ih =>
    unfold boolL
    rw [List.nodup_append]
    refine ⟨nodup_map_on ih fun a _ b _ e => by simpa using e, nodup_map_on ih fun a _ b _ e => by simpa using e, fun a ha b hb e => ?_⟩
    obtain ⟨x, _, rfl⟩ := List.mem_map.1 ha
    obtain ⟨y, _, rfl⟩ := List.mem_map.1 hb
    simp at e
def vecL (n : Nat) (c : List Nat) : List Bool := (List.range n).map fun x => decide (x ∈ c)
theorem vecL_eq {c d : List Nat} (hc : LtN n c) (hd : LtN n d) (e : vecL n c = vecL n d) : ∀ x, x ∈ c ↔ x ∈ d := by
  intro x
  have key : ∀ y, y < n → (decide (y ∈ c) = decide (y ∈ d)) := fun y hy => by
    have := congrArg (fun l => l[y]?) e
    unfold vecL at this
    simpa [hy] using this
  constructor
  · intro hx
    have := key x (hc x hx)
    simpa [hx] using this
  · intro hx
    have := key x (hd x hx)
    simpa [hx] using this

theorem garside_divs (hm : Mv n f g fi gi) (hs : InvS n f g) {w : List Int} (hw : WordOk n w) (hl : w.length = n) (hp : (cum f (toN w)).Perm (List.range n)) : (divTo n f g fi gi w (n + 1)).length = 2 ^ n := by
  -- what a divisor is
  have hdv : ∀ v, v ∈ divTo n f g fi gi w (n + 1) → ∃ k x, k ≤ n ∧ x ∈ wclL n f g fi gi w ∧ nfL n f g fi gi (x.take k) = v ∧ v.length = k ∧ WordOk n v ∧ (cum f (toN v)).Perm ((cum f (toN x)).take k) ∧ nfL n f g fi gi v = v := by
    intro v hv
    obtain ⟨k, hk, h1⟩ := mem_divTo.1 hv
    obtain ⟨x, hx, e⟩ := (mem_divK hm hw (by omega)).1 h1
    obtain ⟨-, hvo, hvl, -⟩ := div_divides hm hw (by omega) h1
    have hb := begin_ok hm hw hx k
    have he := nfL_eqv hm hb
    rw [e] at he
    have h2 := (eqv_iff hm hs hb hvo).1 he
    rw [toN_take, cum_take] at h2
    have h3 := nfL_same hm hb he
    rw [e] at h3
    exact ⟨k, x, by omega, hx, e, hvl, hvo, h2.symm, h3⟩
  have hnd : ∀ v, v ∈ divTo n f g fi gi w (n + 1) → (cum f (toN v)).Nodup := by
    intro v hv
    obtain ⟨k, x, -, hx, -, -, -, h2, -⟩ := hdv v hv
    have hx1 := (mem_wclL hm hw).1 hx
    have hq := ((eqv_iff hm hs hw (hx1.ok hm hw)).1 hx1).symm.trans hp
    exact h2.symm.nodup ((hq.symm.nodup List.nodup_range).sublist (List.take_sublist _ _))
  have hdn : (divTo n f g fi gi w (n + 1)).Nodup := by
    have : ∀ m, m ≤ n + 1 → (divTo n f g fi gi w m).Nodup := by
      intro m
      induction m with
      | zero => intro _; rw [divTo_zero]; simp
      | succ m ih =>
        intro hmn
        rw [divTo_succ, List.nodup_append]
        refine ⟨ih (by omega), nodup_of_lex (sorted_divK _ _ _ _ _ _ _), fun a ha b hb e => ?_⟩
        subst e
        obtain ⟨k, hk, h1⟩ := mem_divTo.1 ha
        have e1 := (div_divides hm hw (by omega) h1).2.2.1
        have e2 := (div_divides hm hw (by omega) hb).2.2.1
        omega
    exact this _ (Nat.le_refl _)
  have hinj : ((divTo n f g fi gi w (n + 1)).map fun v => vecL n (cum f (toN v))).Nodup := by
    refine nodup_map_on hdn fun a ha b hb e => ?_
    obtain ⟨_, _, _, _, _, _, hao, _, hna⟩ := hdv a ha
    obtain ⟨_, _, _, _, _, _, hbo, _, hnb⟩ := hdv b hb
    have h1 := vecL_eq (cum_lt hs (toN_lt hao)) (cum_lt hs (toN_lt hbo)) e
    have h2 := (List.perm_ext_iff_of_nodup (hnd a ha) (hnd b hb)).2 h1
    have h3 := nfL_same hm hao ((eqv_iff hm hs hao hbo).2 h2)
    rw [hna, hnb] at h3
    exact h3.symm
  refine Nat.le_antisymm ?_ ?_
  · have := nodup_le _ (boolL n) hinj fun b hb => by
      obtain ⟨v, _, rfl⟩ := List.mem_map.1 hb
      exact mem_boolL.2 (by unfold vecL; simp)
    rwa [List.length_map, length_boolL] at this
  · have := nodup_le (boolL n) ((divTo n f g fi gi w (n + 1)).map fun v => vecL n (cum f (toN v))) (nodup_boolL n) fun b hb => by
      have hbl := mem_boolL.1 hb
      -- the numbers of b, then the others
      have hperm : (((List.range n).filter fun x => b.getD x false) ++ ((List.range n).filter fun x => !b.getD x false)).Perm (List.range n) := List.filter_append_perm _ _
      have hclt : LtN n (((List.range n).filter fun x => b.getD x false) ++ ((List.range n).filter fun x => !b.getD x false)) := fun x hx => List.mem_range.1 (hperm.subset hx)
      obtain ⟨z, hz1, hz2⟩ := cum_onto hs rfl hclt
      have hzo := ofN_ok hz1
      have hzc : ofN z ∈ wclL n f g fi gi w := (mem_wclL hm hw).2 ((eqv_iff hm hs hw hzo).2 (by rw [toN_ofN, hz2]; exact hp.trans hperm.symm))
      have hkn : ((List.range n).filter fun x => b.getD x false).length ≤ n := by
        have := List.length_filter_le (fun x => b.getD x false) (List.range n)
        rwa [List.length_range] at this
      have hvk : nfL n f g fi gi ((ofN z).take ((List.range n).filter fun x => b.getD x false).length) ∈ divTo n f g fi gi w (n + 1) :=
        mem_divTo.2 ⟨_, by omega, (mem_divK hm hw (by omega)).2 ⟨_, hzc, rfl⟩⟩
      refine List.mem_map.2 ⟨_, hvk, ?_⟩
      have hbo := begin_ok hm hw hzc ((List.range n).filter fun x => b.getD x false).length
      have he := nfL_eqv hm hbo
      have h2 := (eqv_iff hm hs hbo (he.ok hm hbo)).1 he
      rw [toN_take, cum_take, toN_ofN, hz2, List.take_left'] at h2
      · apply List.ext_getElem?
        intro i
        unfold vecL
        by_cases hi : i < n
        · rw [List.getElem?_map, List.getElem?_range hi, Option.map_some, List.getElem?_eq_getElem (by omega)]
          congr 1
          have h3 : i ∈ cum f (toN (nfL n f g fi gi ((ofN z).take ((List.range n).filter fun x => b.getD x false).length))) ↔ i ∈ (List.range n).filter fun x => b.getD x false := ⟨fun k => h2.symm.subset k, fun k => h2.subset k⟩
          rw [Bool.eq_iff_iff, decide_eq_true_iff, h3]
          simp [hi, List.getD, List.getElem?_eq_getElem (show i < b.length by omega)]
        · rw [List.getElem?_eq_none (by simp; omega), List.getElem?_eq_none (by omega)]
      · rfl
    rwa [List.length_map, length_boolL] at this
end
end Go.Proofs.YtjfjpngajboidaaGreat


namespace Go.Proofs.YtjfjpngajboidaaGreat
set_option linter.unusedVariables false
set_option linter.unusedSimpArgs false

@[irreducible] noncomputable def dvK (L S : List (List Int)) (w : List Int) (k : Nat) : List (List Int) := divK L.length (mulN L) (mulN S) (mulN (invP L S).1) (mulN (invP L S).2) w k
@[irreducible] noncomputable def dvT (L S : List (List Int)) (w : List Int) (m : Nat) : List (List Int) := divTo L.length (mulN L) (mulN S) (mulN (invP L S).1) (mulN (invP L S).2) w m
section
variable {L S : List (List Int)}
theorem dvT_zero (w : List Int) : dvT L S w 0 = [] := by unfold dvT; exact divTo_zero _ _ _ _ _ _
theorem dvT_succ (w : List Int) (k : Nat) : dvT L S w (k + 1) = dvT L S w k ++ dvK L S w k := by unfold dvT dvK; exact divTo_succ _ _ _ _ _ _ _
theorem mem_dvK (h : SolOk L S) {w v : List Int} (hw : WordOk L.length w) {k : Nat} (hk : k ≤ w.length) : v ∈ dvK L S w k ↔ ∃ x, x ∈ clS L S w ∧ nfS L S (x.take k) = v := by
  unfold dvK
  rw [mem_divK (mvP h) hw hk, clS_def]
  constructor
  · rintro ⟨x, h1, h2⟩; exact ⟨x, h1, by rw [nfS_def]; exact h2⟩
  · rintro ⟨x, h1, h2⟩; exact ⟨x, h1, by rw [← nfS_def]; exact h2⟩
theorem sorted_dvK (w : List Int) (k : Nat) : (dvK L S w k).Pairwise LexLt := by unfold dvK; exact sorted_divK _ _ _ _ _ _ _
theorem begin_S (h : SolOk L S) {w x : List Int} (hw : WordOk L.length w) (hx : x ∈ clS L S w) (k : Nat) : WordOk L.length (x.take k) := by
  rw [clS_def] at hx
  exact begin_ok (mvP h) hw hx k
theorem dvK_eq (h : SolOk L S) {w : List Int} (hw : WordOk L.length w) {k : Nat} (hk : k ≤ w.length) {G : List (List Int)} (hs : G.Pairwise (· < ·)) (hG : ∀ x, x ∈ G ↔ ∃ j, j < (clS L S w).length ∧ nfS L S ((row (clS L S w) j).take k) = x) : G = dvK L S w k := by
  have hlen : ∀ x, x ∈ G → x.length = k := fun x hx => by
    obtain ⟨j, hj, rfl⟩ := (hG x).1 hx
    have hm := clS_row h hw hj
    have h1 := (nfS_word h (begin_S h hw hm k)).2
    have h2 := (clS_word h hw hm).2
    rw [h1, List.length_take]
    omega
  refine lex_same (hs.imp_of_mem fun {a b} ha hb hlt => (lex_less (by rw [hlen a ha, hlen b hb])).1 hlt) (sorted_dvK _ _) fun x => ?_
  rw [hG x, mem_dvK h hw hk]
  constructor
  · rintro ⟨j, hj, e⟩; exact ⟨_, clS_row h hw hj, e⟩
  · rintro ⟨y, hy, e⟩
    obtain ⟨j, hj, rfl⟩ := List.mem_iff_getElem.1 hy
    exact ⟨j, hj, by rw [row_eq, List.getD_eq_getElem?_getD, List.getElem?_eq_getElem hj]; exact e⟩
end
def rstS (p : List Int) (l : List (List Int)) : List (List Int) := (l.filter fun x => decide (x.take p.length = p)).map (·.drop p.length)
theorem rstS_all (L S : List (List Int)) (p q : List Int) : rstS p (clS L S q) = rsS L S p q := by rw [rsS_def, clS_def]; unfold rstS restL; rfl
theorem rstS_nil (p : List Int) : rstS p [] = [] := rfl
theorem rstS_yes {p x : List Int} {l : List (List Int)} (h : x.take p.length = p) : rstS p (l ++ [x]) = rstS p l ++ [x.drop p.length] := by unfold rstS; simp [List.filter_append, h]
theorem rstS_no {p x : List Int} {l : List (List Int)} (h : x.take p.length ≠ p) : rstS p (l ++ [x]) = rstS p l := by unfold rstS; simp [List.filter_append, h]
theorem rstS_len (p : List Int) (l : List (List Int)) : (rstS p l).length ≤ l.length := by unfold rstS; rw [List.length_map]; exact List.length_filter_le _ _
@[irreducible] noncomputable def rsV (L S : List (List Int)) (p q : List Int) : List (List Int) := if dvC L S p q = 0 then rsS L S p q else []
theorem rsV_ok {L S : List (List Int)} {p q : List Int} (h : dvC L S p q = 0) : rsV L S p q = rsS L S p q := by unfold rsV; rw [if_pos h]
theorem rsV_no {L S : List (List Int)} {p q : List Int} (h : dvC L S p q ≠ 0) : rsV L S p q = [] := by unfold rsV; rw [if_neg h]
theorem dvB_rs (L S : List (List Int)) (p q : List Int) : dvB L S p q = decide (0 < (rsV L S p q).length) := by
  by_cases h : dvC L S p q = 0
  · rw [dvB_ok h, rsV_ok h]
    cases rsS L S p q with
    | nil => rfl
    | cons a r => simp
  · rw [dvB_no h, rsV_no h]; rfl
end Go.Proofs.YtjfjpngajboidaaGreat


namespace Go.Proofs.YtjfjpngajboidaaGreat
set_option linter.unusedVariables false
set_option linter.unusedSimpArgs false

def wnF (n : Nat) : Nat → List Int → Nat
  | a, [] => a
  | a, x :: l => wnF n (a * n + x.toNat) l
def wnL (n : Nat) (l : List Int) : Nat := wnF n 0 l
def tupL (n : Nat) : Nat → Nat → List Int
  | 0, _ => []
  | k + 1, j => tupL n k (j / n) ++ [((j % n : Nat) : Int)]
section
variable {n : Nat}
theorem wnF_app (a : Nat) (l : List Int) (x : Int) : wnF n a (l ++ [x]) = wnF n a l * n + x.toNat := by
  induction l generalizing a with
  | nil => rfl
  | cons y l ih => simp only [List.cons_append, wnF]; exact ih _
theorem wnL_app (l : List Int) (x : Int) : wnL n (l ++ [x]) = wnL n l * n + x.toNat := wnF_app 0 l x
theorem length_tupL (k j : Nat) : (tupL n k j).length = k := by
  induction k generalizing j with
  | zero => rfl
  | succ k ih => simp [tupL, ih]
theorem tupL_ok (h1 : 1 ≤ n) (k j : Nat) : WordOk n (tupL n k j) := by
  induction k generalizing j with
  | zero => intro i hi; simp [tupL] at hi
  | succ k ih =>
    refine wordOk_mem.2 fun x hx => ?_
    rcases List.mem_append.1 hx with h | h
    · exact wordOk_mem.1 (ih (j / n)) x h
    · rw [List.mem_singleton.1 h]
      have := Nat.mod_lt j (show n > 0 by omega)
      omega
theorem num_tup (h1 : 1 ≤ n) {k j : Nat} (hj : j < n ^ k) : wnL n (tupL n k j) = j := by
  induction k generalizing j with
  | zero => have : j = 0 := by simpa using hj
            subst this; rfl
  | succ k ih =>
    have hd : j / n < n ^ k := by rw [Nat.pow_succ] at hj; exact Nat.div_lt_of_lt_mul (by rw [Nat.mul_comm]; exact hj)
    simp only [tupL]
    rw [wnL_app, ih hd, Int.toNat_natCast]
    have := Nat.div_add_mod j n
    rw [Nat.mul_comm] at this
    exact this
theorem list_last {k : Nat} {l : List Int} (h : l.length = k + 1) : ∃ m x, l = m ++ [x] ∧ m.length = k := by
  refine ⟨l.dropLast, l.getLast (by intro e; rw [e] at h; simp at h), (List.dropLast_concat_getLast _).symm, by simp [h]⟩
theorem tup_num {k : Nat} {l : List Int} (h : WordOk n l) (hl : l.length = k) : tupL n k (wnL n l) = l := by
  induction k generalizing l with
  | zero => rw [List.length_eq_zero_iff.1 hl]; rfl
  | succ k ih =>
    obtain ⟨m, x, rfl, hm⟩ := list_last hl
    have hx := wordOk_mem.1 h x (by simp)
    have hn : x.toNat < n := by omega
    rw [wnL_app]
    simp only [tupL]
    have e1 : (wnL n m * n + x.toNat) / n = wnL n m := by
      rw [Nat.mul_comm, Nat.mul_add_div (by omega), Nat.div_eq_of_lt hn]; rfl
    have e2 : (wnL n m * n + x.toNat) % n = x.toNat := by
      rw [Nat.mul_comm, Nat.mul_add_mod, Nat.mod_eq_of_lt hn]
    rw [e1, e2, ih h.left hm]
    congr 2
    omega
theorem num_lt {k : Nat} {l : List Int} (h : WordOk n l) (hl : l.length = k) : wnL n l < n ^ k := by
  induction k generalizing l with
  | zero => rw [List.length_eq_zero_iff.1 hl]; simp [wnL, wnF]
  | succ k ih =>
    obtain ⟨m, x, rfl, hm⟩ := list_last hl
    have hx := wordOk_mem.1 h x (by simp)
    have := ih h.left hm
    rw [wnL_app, Nat.pow_succ]
    have h2 : (wnL n m + 1) * n ≤ n ^ k * n := Nat.mul_le_mul_right _ this
    rw [Nat.add_mul] at h2
    omega
theorem wnF_lt : ∀ {l m : List Int} {a b : Nat}, l.length = m.length → (∀ x, x ∈ l → 0 ≤ x ∧ x < n) → (∀ x, x ∈ m → 0 ≤ x ∧ x < n) → (a < b ∨ a = b ∧ l < m) → wnF n a l < wnF n b m := by
  intro l
  induction l with
  | nil =>
    intro m a b hl _ _ h
    cases m with
    | nil =>
      rcases h with h | ⟨_, h⟩
      · exact h
      · exact absurd h (by simp)
    | cons _ _ => simp at hl
  | cons x l ih =>
    intro m a b hl hx hy h
    cases m with
    | nil => simp at hl
    | cons y m =>
      simp only [wnF]
      have h1 := hx x List.mem_cons_self
      have h2 := hy y List.mem_cons_self
      refine ih (by simpa using hl) (fun z hz => hx z (List.mem_cons_of_mem _ hz)) (fun z hz => hy z (List.mem_cons_of_mem _ hz)) ?_
      rcases h with h | ⟨rfl, h⟩
      · left
        have h3 : (a + 1) * n ≤ b * n := Nat.mul_le_mul_right _ h
        rw [Nat.add_mul] at h3
        omega
      · rw [List.cons_lt_cons_iff] at h
        rcases h with h | ⟨rfl, h⟩
        · left; omega
        · right; exact ⟨rfl, h⟩
theorem lex_num {p q : List Int} (hl : p.length = q.length) (hp : WordOk n p) (hq : WordOk n q) (h : LexLt p q) : wnL n p < wnL n q :=
  wnF_lt hl (wordOk_mem.1 hp) (wordOk_mem.1 hq) (.inr ⟨rfl, (lex_less hl).2 h⟩)
end
section
variable {L S : List (List Int)}
theorem clS_few (h : SolOk L S) {u : List Int} (hu : WordOk L.length u) : (clS L S u).length ≤ L.length ^ u.length := by
  have h1 : ((clS L S u).map (wnL L.length)).Nodup := by
    refine nodup_map_on (by rw [clS_def]; exact nodup_wclL _ _ _ _ _ _) fun a ha b hb e => ?_
    obtain ⟨h2, h3⟩ := clS_word h hu ha
    obtain ⟨h4, h5⟩ := clS_word h hu hb
    rw [← tup_num h2 h3, ← tup_num h4 h5, e]
  have h2 := nodup_le _ (List.range (L.length ^ u.length)) h1 fun x hx => by
    obtain ⟨v, hv, rfl⟩ := List.mem_map.1 hx
    obtain ⟨h3, h4⟩ := clS_word h hu hv
    exact List.mem_range.2 (num_lt h3 h4)
  rwa [List.length_map, List.length_range] at h2
def SeenTo (L S : List (List Int)) (k m i : Nat) : Prop := ∃ j, j < m ∧ tupL L.length k i ∈ clS L S (tupL L.length k j)
@[irreducible] noncomputable def nmT (L S : List (List Int)) (k m : Nat) : List (List Int) := ((List.range m).filter fun j => decide (nfS L S (tupL L.length k j) = tupL L.length k j)).map (tupL L.length k)
theorem nmT_zero (k : Nat) : nmT L S k 0 = [] := by unfold nmT; rfl
theorem nmT_in {k m : Nat} (h : nfS L S (tupL L.length k m) = tupL L.length k m) : nmT L S k (m + 1) = nmT L S k m ++ [tupL L.length k m] := by
  unfold nmT; rw [List.range_succ, List.filter_append, List.map_append]; simp [h]
theorem nmT_out {k m : Nat} (h : nfS L S (tupL L.length k m) ≠ tupL L.length k m) : nmT L S k (m + 1) = nmT L S k m := by
  unfold nmT; rw [List.range_succ, List.filter_append, List.map_append]; simp [h]
theorem nmT_few (k m : Nat) : (nmT L S k m).length ≤ m := by
  unfold nmT
  rw [List.length_map]
  have := List.length_filter_le (fun j => decide (nfS L S (tupL L.length k j) = tupL L.length k j)) (List.range m)
  rwa [List.length_range] at this
theorem mem_nmT {k m : Nat} {v : List Int} (h : v ∈ nmT L S k m) : ∃ j, j < m ∧ v = tupL L.length k j ∧ nfS L S v = v := by
  unfold nmT at h
  obtain ⟨j, hj, rfl⟩ := List.mem_map.1 h
  obtain ⟨h1, h2⟩ := List.mem_filter.1 hj
  exact ⟨j, List.mem_range.1 h1, rfl, by simpa using h2⟩
theorem nmT_word (h1 : 1 ≤ L.length) {k m : Nat} {v : List Int} (h : v ∈ nmT L S k m) : WordOk L.length v ∧ v.length = k := by
  obtain ⟨j, -, rfl, -⟩ := mem_nmT h
  exact ⟨tupL_ok h1 _ _, length_tupL _ _⟩
theorem seen_zero (k i : Nat) : ¬ SeenTo L S k 0 i := fun ⟨j, hj, _⟩ => by omega
theorem seen_succ (k m i : Nat) : SeenTo L S k (m + 1) i ↔ SeenTo L S k m i ∨ tupL L.length k i ∈ clS L S (tupL L.length k m) := by
  constructor
  · rintro ⟨j, hj, h⟩
    rcases Nat.lt_succ_iff_lt_or_eq.1 hj with k | rfl
    · exact .inl ⟨j, k, h⟩
    · exact .inr h
  · rintro (⟨j, hj, h⟩ | h)
    · exact ⟨j, by omega, h⟩
    · exact ⟨m, by omega, h⟩
theorem seen_skip (hS : SolOk L S) {k m i : Nat} (h : SeenTo L S k m m) : SeenTo L S k (m + 1) i ↔ SeenTo L S k m i := by
  rw [seen_succ]
  refine ⟨fun q => ?_, .inl⟩
  rcases q with q | q
  · exact q
  · obtain ⟨j, hj, e⟩ := h
    have ok := tupL_ok (n := L.length) hS.l.1 k j
    exact ⟨j, hj, by rw [← clS_same hS ok ((mem_clS hS ok).1 e)]; exact q⟩
theorem seen_iff (hS : SolOk L S) {k m : Nat} (hm : m < L.length ^ k) : SeenTo L S k m m ↔ nfS L S (tupL L.length k m) ≠ tupL L.length k m := by
  have h1 := hS.l.1
  have ok := tupL_ok (n := L.length) h1 k m
  constructor
  · rintro ⟨j, hj, e⟩ hn
    have okj := tupL_ok (n := L.length) h1 k j
    have hE := (mem_clS hS okj).1 e
    have hs := clS_same hS okj hE
    have e2 : nfS L S (tupL L.length k j) = tupL L.length k m := by rw [nfS_row hS okj, ← hs, ← nfS_row hS ok]; exact hn
    have h3 := nfL_le (mvP hS) okj (wclL_self (mvP hS) okj)
    rw [← nfS_def, e2] at h3
    rcases h3 with h3 | h3
    · have := congrArg (wnL L.length) h3
      rw [num_tup h1 hm, num_tup h1 (by omega)] at this
      omega
    · have := lex_num (by rw [length_tupL, length_tupL]) ok okj h3
      rw [num_tup h1 hm, num_tup h1 (by omega)] at this
      omega
  · intro hn
    have h3 := nfL_le (mvP hS) ok (wclL_self (mvP hS) ok)
    rw [← nfS_def] at h3
    rcases h3 with h3 | h3
    · exact absurd h3 hn
    · obtain ⟨w1, w2⟩ := nfS_word hS ok
      rw [length_tupL] at w2
      have h4 := lex_num (by rw [w2, length_tupL]) w1 ok h3
      rw [num_tup h1 hm] at h4
      refine ⟨_, h4, ?_⟩
      rw [tup_num w1 w2, clS_same hS ok (nfS_eqv hS ok)]
      exact clS_self hS ok
end
end Go.Proofs.YtjfjpngajboidaaGreat


namespace Go.Proofs.YtjfjpngajboidaaGreat
set_option linter.unusedVariables false
set_option linter.unusedSimpArgs false
open Go.RowKit
open Go.Deep
attribute [local go_sem ↓] Go.wp_at_zero Go.wp_at_succ

theorem newK_of {base : Nat} {e : TypeId} {w w3 : World} {b3 c3 : Nat} {l : List Int} (hb : base = w.heap.size) (hi : GrowI e base w3 (.slice (some ⟨b3, 0, none⟩) l.length c3) l) (hl : l.length ≤ 1048576) (ho : OwnI base w3.heap.size w3 b3 0 l) (hx : Ext w w3) : NewK l w (.returned (.slice (some ⟨b3, 0, none⟩) l.length c3)) w3 := by
  subst hb
  exact ⟨_, rfl, ⟨hl, b3, c3, rfl, hi.room, ho.1, ho.2.1, fun h => h, ho.2.2.1⟩, hx⟩

set_option maxRecDepth 100000 in
theorem l01Own_k (l : List Int) (v : Value) (w : World) (hv : Ints w v l) :
    Calls Tryz.prog 65 #[v] w (NewK l w) := by
  obtain ⟨hlen, b, o, c, rfl, hc⟩ := hv
  have hx0 : Ext w (w.alloc (.cells #[] 2)) := (Ext.refl _).alloc _
  have hi0 := GrowI.lit (e := 2) (base := w.heap.size) (w := w) (Nat.le_refl _)
  go_enter Tryz.func65, Tryz.ntmps65
  go_wp2_with (at_builtin; refine wpList_append_ints rfl _ _ 27 2 rfl Tryz.underlying27 infoInt w.heap.size _ _ rfl hi0 b o c l rfl (hc.ext hx0) (by simp) hlen (by simp) ?_)
  intro v' w3 hi3 hgr hv3
  have hx3 : Ext w w3 := hx0.grown hgr hi0 (Nat.le_refl _)
  have HI3 := Lib.hid hi3
  obtain ⟨b3, c3, rfl, ho⟩ := hi3.own (fun h => by first | exact hv3 h | simpa using (hv3.1 h).1)
  go_wp2
  go_ret
  exact newK_of rfl HI3.out hlen ho hx3

set_option maxRecDepth 100000 in
theorem slicesClone_k (l : List Int) (v : Value) (w : World) (hv : Ints w v l) :
    Calls Tryz.prog 68 #[v] w (NewK l w) := by
  obtain ⟨hlen, b, o, c, rfl, hc⟩ := hv
  have hx0 : Ext w (w.alloc (.cells #[] 2)) := (Ext.refl _).alloc _
  have hi0 := GrowI.lit (e := 2) (base := w.heap.size) (w := w) (Nat.le_refl _)
  have he : ∀ w : World, (binOp .eql 27 (.slice (some ⟨b, o, none⟩) l.length c) (.slice none 0 0)).run Tryz.prog w = .ok (.bool false) w := fun _ => rfl
  go_enter Tryz.func68, Tryz.ntmps68
  go_wp2_with (at_builtin; refine wpList_append_ints rfl _ _ 27 2 rfl Tryz.underlying27 infoInt w.heap.size _ _ rfl hi0 b o c l rfl (hc.ext hx0) (by simp) hlen (by simp) ?_)
  intro v' w3 hi3 hgr hv3
  have hx3 : Ext w w3 := hx0.grown hgr hi0 (Nat.le_refl _)
  have HI3 := Lib.hid hi3
  obtain ⟨b3, c3, rfl, ho⟩ := hi3.own (fun h => by first | exact hv3 h | simpa using (hv3.1 h).1)
  go_wp2
  go_ret
  exact newK_of rfl HI3.out hlen ho hx3

set_option maxRecDepth 100000 in
set_option maxHeartbeats 1000000 in
theorem l01Own2_k (t : List (List Int)) (v : Value) (w : World) (hv : Rows w v t) :
    Calls Tryz.prog 99 #[v] w fun e w' => ∃ v, e = .returned v ∧ RowsK w.heap.size w' v t ∧ Ext w w' := by
  obtain ⟨hlen, b, o, c, rfl, hc⟩ := id hv
  go_enter Tryz.func99, Tryz.ntmps99
  go_wp2
  have hx0 : Ext w (w.alloc (.cells #[] 27)) := (Ext.refl _).alloc _
  have hg0 := MineK.lit (e := 27) (lo := w.heap.size) (w := w) (fun _ => False) (Nat.le_refl _)
  go_loopw [3, 4] (fun v x wr => ∃ (k g c : Nat) (xs : List Value), k ≤ t.length ∧ x = .int .i64 k ∧ v = .slice (some ⟨g, 0, none⟩) (t.take k).length c ∧ MineK 27 w.heap.size (fun _ => False) wr g c xs (t.take k) ∧ Ext w wr) (fun _ x _ => t.length - (intOf x).toNat)
  case atStart => exact ⟨0, _, _, _, Nat.zero_le _, rfl, rfl, hg0, hx0⟩
  case round =>
    clear hx0 hg0
    obtain ⟨k, g, cg, xs, hk, rfl, rfl, hg, hx⟩ := hrel
    by_cases hkl : k < t.length
    case neg =>
      have : t.take k = t := List.take_of_length_le (by omega)
      rw [this] at hg
      rw [this]
      have HR := Lib.hid (hg.toRows hlen)
      clear hg this
      go_wp2
      go_ret
      exact ⟨_, by first | rfl | trivial, HR.out, hx⟩
    case pos =>
      obtain ⟨b4, o4, c4, r4, i4, m4⟩ := (hc.ext hx).get hkl
      have e4 := i4.ints m4 c4
      have HTK := Lib.hid (show (t.take k).length ≤ 1048576 by rw [List.length_take]; omega)
      have HT1 := Lib.hid (show t.take (k + 1) = t.take k ++ [row t k] from take_row t k hkl)
      have HG := Lib.hid hg
      have HX := Lib.hid hx
      have zg := hg.at_g
      clear hg hx i4
      go_wp2_with fail
      refine (l01Own_k (row t k) _ _ e4).mono ?_
      rintro e w3 ⟨x3, rfl, hr3, hx3⟩
      have HR3 := Lib.hid ((hr3.mono (lo' := w.heap.size) (D' := fun b => b = g ∨ False) (Below.size HX.out) (fun b h1 h2 q => q.elim (fun e => absurd e (by omega)) id)).ext (ext_box w3 x3 27))
      have hxb := hx3.trans (ext_box w3 x3 27)
      have HG3 := Lib.hid (HG.out.ext hxb)
      have HXB := Lib.hid (HX.out.trans hxb)
      have zb := HXB.out.size
      have hone := hr3.cell
      obtain ⟨-, b3, c3, rfl, -⟩ := id hr3
      have hlk : (t.take k).length = k := by rw [List.length_take]; omega
      have HOWN := Lib.hid (show (w3.alloc (.cells #[.slice (some ⟨b3, 0, none⟩) (row t k).length c3] 27)).ownsRow w.heap.size 27 1 (.slice (some ⟨g, 0, none⟩) k cg) k xs by have := HG3.out.own; rwa [hlk] at this)
      have HLK := Lib.hid hlk
      clear hr3 hx3 hxb HG e4 hlk
      go_wp2_with (at_builtin; refine wpList_append_one rfl _ _ 24 27 rfl Tryz.underlying24 infoSl w.heap.size _ _ xs rfl HOWN.out _ _ hone rfl (cell_new _ _ _) (by omega) zb ?_)
      intro v' w8 hown8 hgr8 hv8 hbl8
      obtain ⟨g', c', rfl, hm8, -⟩ := HG3.out.app HR3.out (by rw [HLK.out]; exact hown8) hgr8 hv8 (by
        rcases hbl8 with e | e
        · exact .inl e
        · exact .inr (by rw [show (w3.alloc (.cells #[.slice (some ⟨b3, 0, none⟩) (row t k).length c3] 27)).heap.size = w3.heap.size + 1 by simp]; exact e))
      have hX8 : Ext w w8 := Ext.grown HXB.out hgr8 HOWN.out (Nat.le_refl _)
      rw [← HT1.out] at hm8 ⊢
      clear hown8 hgr8 hv8 hbl8
      go_wp2
      go_roundw
      case rel => exact ⟨k + 1, _, _, _, by omega, by go_num, rfl, hm8, hX8⟩
      case measure => simp [intOf]; omega
end Go.Proofs.YtjfjpngajboidaaGreat
