/-
  Draws of the reference: l02Twisted.
-/
import Derived.Test.YtjfjpngajboidaaGreatKx20
namespace Go.Proofs.YtjfjpngajboidaaGreat
set_option linter.unusedVariables false
set_option linter.unusedSimpArgs false
open Go.RowKit
open Go.Deep

def DrawS (S : Nat) (Q : Nat → Prop) (w : World) (e : Ending) (w' : World) : Prop := ∃ v y T U, e = .returned (.agg #[v, y]) ∧ TabF w.heap.size w' v T ∧ TabF w.heap.size w' y U ∧ PairOk T U ∧ Q T.length ∧ Src S w' ∧ Touch S (S + 1) w w'
theorem iso_range {n : Nat} {p : List Int} (h : IsoOk n [] [] p) : ∀ x, x < n → 0 ≤ ix p x ∧ ix p x < n := fun x hx => by have := h.bd hx; omega
theorem BoxV.touchS {B S : Nat} {W W' : World} {v y : Value} (h : BoxV B W v y) (m : Touch S (S + 1) W W') (hne : B ≠ S) : BoxV B W' v y := h.keep m.size (m.block _ h.1 (by omega))
theorem Ints.touchS {S lo : Nat} {w w' : World} {b n c : Nat} {l : List Int} (h : Ints w (.slice (some ⟨b, 0, none⟩) n c) l) (m : Touch S (S + 1) w w') (hb : S < lo) (hl : lo ≤ b) : Ints w' (.slice (some ⟨b, 0, none⟩) n c) l := by
  obtain ⟨h0, b', o', c', e, hi⟩ := h
  simp only [Value.slice.injEq, Option.some.injEq, Addr.mk.injEq, and_true] at e
  obtain ⟨⟨rfl, rfl⟩, rfl, rfl⟩ := e
  exact ⟨h0, b, 0, c, rfl, fun i hi2 => m.cell (hi i hi2) (.inr (by simp only []; omega))⟩
theorem touch_ext {S : Nat} {a w w' : World} (h : Touch S (S + 1) a w) (hx : Ext w w') : Touch S (S + 1) a w' := h.trans (Touch.of_ext hx)
theorem drawS_end {S B : Nat} {Q : Nat → Prop} {w w1 w2 : World} {n : Nat} {v y v0 y0 : Value} {T U : List (List Int)} (hB : w.heap.size = B) (hlo : B < w1.heap.size) (hT : TabF w1.heap.size w2 v T) (hU : TabF w1.heap.size w2 y U) (hok : PairOk T U) (hl : T.length = n) (hq : Q n) (hs : Src S w2) (hS : S < B) (ht : Touch S (S + 1) w w2) :
    DrawS S Q w (.returned (.agg #[v, y])) ((w2.setCell ⟨B, 0, none⟩ v0).setCell ⟨B, 1, none⟩ y0) := by
  subst hB
  refine ⟨v, y, T, U, rfl, ((hT.setOut (p := ⟨w.heap.size, 0, none⟩) hlo _).setOut (p := ⟨w.heap.size, 1, none⟩) hlo _).low (by omega), ((hU.setOut (p := ⟨w.heap.size, 0, none⟩) hlo _).setOut (p := ⟨w.heap.size, 1, none⟩) hlo _).low (by omega), hok, by rw [hl]; exact hq, src_setCell (src_setCell hs (p := ⟨w.heap.size, 0, none⟩) hS _) (p := ⟨w.heap.size, 1, none⟩) hS _, touch_setIn (touch_setIn ht (p := ⟨w.heap.size, 0, none⟩) (Nat.le_refl _) _) (p := ⟨w.heap.size, 1, none⟩) (Nat.le_refl _) _⟩

set_option maxRecDepth 100000 in
set_option maxHeartbeats 2000000 in
theorem l02Twisted_any (S n : Nat) (w : World) (hs : Src S w) (h1 : 1 ≤ n) (h12 : n ≤ 12) :
    Calls Tryz.prog 144 #[.pointer (some ⟨S, 0, none⟩), .int .i64 n] w (DrawS S (fun m => m = n) w) := by
  have hlt := hs.lt
  have hx0 : Ext w (w.alloc (.cells #[.slice none 0 0, .slice none 0 0] 26)) := (Ext.refl _).alloc _
  have HR := Lib.hid (BoxV.new w (.slice none 0 0) (.slice none 0 0) 26)
  have HS0 := Lib.hid (hs.ext hx0)
  have HT0 := Lib.hid (touch_ext (S := S) (Touch.of_ext (Ext.refl w)) hx0)
  have hz0 : (w.alloc (.cells #[.slice none 0 0, .slice none 0 0] 26)).heap.size = w.heap.size + 1 := by simp
  clear hs hx0
  go_enter Tryz.func144, Tryz.ntmps144
  go_wp2_with fail
  generalize (w.alloc (.cells #[.slice none 0 0, .slice none 0 0] 26)) = w0 at *
  refine (l01Draw_any S n w0 HS0.out h1 (by omega)).mono ?_
  rintro e w1 ⟨p, b, c, rfl, hpl, hp, hg, hs1, hT1⟩
  have HPI := Lib.hid (isoOk_plain.2 ⟨hpl, hp⟩ : IsoOk n [] [] p)
  have HPL := Lib.hid hpl
  have hpi := hg.ints (by omega) (by simp)
  have hbz := hg.lt (k := b) rfl
  have HT1 := Lib.hid (HT0.out.trans hT1)
  have HR1 := Lib.hid (HR.out.touchS hT1 (by omega))
  have hz1 := hT1.size
  clear hg hp hpl hT1 HT0 HS0 HR
  go_wp2_with fail
  refine (l01Unit_any n w1 (by omega)).mono ?_
  rintro e w2 ⟨b2, c2, rfl, hg2, hx2⟩
  rw [length_idL] at hg2 ⊢
  have hqi := hg2.ints (by rw [length_idL]; omega) (by simp)
  have hbz2 := hg2.lt (k := b2) rfl
  have HT2 := Lib.hid (touch_ext HT1.out hx2)
  have HR2 := Lib.hid (HR1.out.ext hx2)
  have hz2 := hx2.size
  replace hpi := hpi.ext hx2
  replace hs1 := hs1.ext hx2
  clear hg2 HT1 HR1 hx2
  go_wp2_with fail
  refine (l01Next_any S _ _ hs1).mono ?_
  rintro e w3 ⟨r, rfl, r1, r2, -, hs3, hT3⟩
  obtain ⟨m, rfl⟩ := Int.eq_ofNat_of_zero_le r1
  have hm : m < 4 := by have := r2 (by omega); omega
  have HPN := Lib.hid (hpi.touchS hT3 (lo := w.heap.size + 1) (by omega) (by omega))
  have HQN := Lib.hid (hqi.touchS hT3 (lo := w.heap.size + 1) (by omega) (by omega))
  have HT3 := Lib.hid (HT2.out.trans hT3)
  have HR3 := Lib.hid (HR2.out.touchS hT3 (by omega))
  have hz3 := hT3.size
  have HS3 := Lib.hid hs3
  clear hT3 HT2 HR2 hs1 hpi hqi r1 r2 hs3
  go_wp2_with fail
  go_loopw [6, 7] (fun vq vk wr => ∃ (k b2 c2 : Nat) (q : List Int), vk = .int .i64 k ∧ k ≤ 3 ∧ vq = .slice (some ⟨b2, 0, none⟩) n c2 ∧ w.heap.size + 1 ≤ b2 ∧ Ints wr vq q ∧ IsoOk n [] [] q ∧ Ints wr (.slice (some ⟨b, 0, none⟩) n c) p ∧ Src S wr ∧ BoxV w.heap.size wr (.slice none 0 0) (.slice none 0 0) ∧ Touch S (S + 1) w wr ∧ w.heap.size + 1 ≤ wr.heap.size) (fun _ vk _ => (intOf vk).toNat)
  case atStart => exact ⟨m, b2, c2, idL n, rfl, by omega, rfl, by omega, HQN.out, idL_perm n, HPN.out, HS3.out, HR3.out, HT3.out, by omega⟩
  case round =>
    clear HPN HS3 HR3 HT3 hz1 hz2 hz3 HQN hbz2
    obtain ⟨k, b2, c2, q, rfl, hk3, rfl, hb2, hq, hqi, hp, hs, hr, hT, hz⟩ := hrel
    have HQ := Lib.hid hq
    have HQI := Lib.hid hqi
    have HP := Lib.hid hp
    have HS := Lib.hid hs
    have HR := Lib.hid hr
    have HT := Lib.hid hT
    clear hq hqi hp hs hr hT
    by_cases hk0 : 0 < k
    case pos =>
      have hki : (0 : Int) < (k : Int) := by omega
      have hk1 : IntKind.i64.wrap ((k : Int) - 1) = ((k - 1 : Nat) : Int) := by rw [IntWalk.i64_in _ (by omega)]; omega
      go_wp2_with fail
      refine (l01Then_any n q p _ _ _ HQ.out HP.out HQI.out HPL.out h12).mono ?_
      rintro e w5 ⟨b5, c5, rfl, ho5, hx5⟩
      have hql := HQI.out.1
      have HQ5 := Lib.hid (show Ints w5 (.slice (some ⟨b5, 0, none⟩) n c5) (thenL q p) from ⟨by rw [length_thenL]; omega, b5, 0, c5, by rw [length_thenL, hql], ho5.2.2.1⟩)
      have hb5 : wr.heap.size ≤ b5 := ho5.1
      have HX5 := Lib.hid hx5
      have hz5 := hx5.size
      rw [length_thenL, hql]
      clear ho5 hx5 hql
      go_wp2
      go_roundw
      case rel => exact ⟨k - 1, b5, c5, thenL q p, by go_num, by omega, rfl, by omega, HQ5.out, thenL_perm HQI.out HPI.out, HP.out.ext HX5.out, HS.out.ext HX5.out, HR.out.ext HX5.out, touch_ext HT.out HX5.out, by omega⟩
      case measure => simp [intOf]; omega
    case neg =>
      have hki : ¬ (0 : Int) < (k : Int) := by omega
      go_wp2_with fail
      refine (l01Next_any S _ _ HS.out).mono ?_
      rintro e w5 ⟨r, rfl, r1, r2, -, hs5, hT5⟩
      have HP5 := Lib.hid (HP.out.touchS hT5 (lo := w.heap.size + 1) (by omega) (by omega))
      have HQ5 := Lib.hid (HQ.out.touchS hT5 (lo := w.heap.size + 1) (by omega) (by omega))
      have HT5 := Lib.hid (HT.out.trans hT5)
      have HR5 := Lib.hid (HR.out.touchS hT5 (by omega))
      have hz5 := hT5.size
      have HS5 := Lib.hid hs5
      have hql := HQI.out.1
      clear hT5 HP HQ HT HR HS hs5
      by_cases hr0 : r = 0
      case pos =>
        subst hr0
        go_wp2_with fail
        refine (l02Twist_any n p q _ _ _ HP5.out HQ5.out h1 h12 HPL.out hql (iso_range HPI.out) (iso_range HQI.out)).mono ?_
        rintro e w6 ⟨v6, y6, T, U, rfl, ht, hu, hok, hl, -, hx6⟩
        obtain ⟨-, q0, q1, q2, q3⟩ := HR5.out.ext hx6
        obtain ⟨-, d1, d2, rfl, -⟩ := id ht
        obtain ⟨-, d3, d4, rfl, -⟩ := id hu
        have HEND := Lib.hid (drawS_end (S := S) (Q := fun m => m = n) (v0 := .slice (some ⟨d1, 0, none⟩) T.length d2) (y0 := .slice (some ⟨d3, 0, none⟩) U.length d4) rfl HR5.out.1 ht hu hok hl rfl (HS5.out.ext hx6) hlt (touch_ext HT5.out hx6))
        clear ht hu hok hl hx6
        go_wp2
        exact bodyPost_ret (v := .agg #[.slice (some ⟨d1, 0, none⟩) T.length d2, .slice (some ⟨d3, 0, none⟩) U.length d4]) (by simp [results, Tryz.results144, go_sem, q0, q1]) rfl HEND.out
      case neg =>
        have hrf : (r == 0) = false := by simpa using hr0
        go_wp2_with fail
        refine (l02Twist_any n q p _ _ _ HQ5.out HP5.out h1 h12 hql HPL.out (iso_range HQI.out) (iso_range HPI.out)).mono ?_
        rintro e w6 ⟨v6, y6, T, U, rfl, ht, hu, hok, hl, -, hx6⟩
        obtain ⟨-, q0, q1, q2, q3⟩ := HR5.out.ext hx6
        obtain ⟨-, d1, d2, rfl, -⟩ := id ht
        obtain ⟨-, d3, d4, rfl, -⟩ := id hu
        have HEND := Lib.hid (drawS_end (S := S) (Q := fun m => m = n) (v0 := .slice (some ⟨d1, 0, none⟩) T.length d2) (y0 := .slice (some ⟨d3, 0, none⟩) U.length d4) rfl HR5.out.1 ht hu hok hl rfl (HS5.out.ext hx6) hlt (touch_ext HT5.out hx6))
        clear ht hu hok hl hx6
        go_wp2
        exact bodyPost_ret (v := .agg #[.slice (some ⟨d1, 0, none⟩) T.length d2, .slice (some ⟨d3, 0, none⟩) U.length d4]) (by simp [results, Tryz.results144, go_sem, q0, q1]) rfl HEND.out
end Go.Proofs.YtjfjpngajboidaaGreat
