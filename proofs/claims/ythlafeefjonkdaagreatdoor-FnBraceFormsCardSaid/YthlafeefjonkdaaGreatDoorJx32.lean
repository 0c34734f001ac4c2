/-
  DrawParseBrace of the reference.
-/
import Derived.Test.YthlafeefjonkdaaGreatDoorJx31
import Derived.Test.YthlafeefjonkdaaGreatDoorJx34
namespace Go.Proofs.YthlafeefjonkdaaGreatDoor
set_option linter.unusedVariables false
set_option linter.unusedSimpArgs false
open Go.RowKit
attribute [local go_sem ↓] Go.wp_at_zero Go.wp_at_succ
open Go.Deep

abbrev signsV : Array Value := #[.string ⟨#[48]⟩, .string ⟨#[49]⟩, .string ⟨#[50]⟩, .string ⟨#[53]⟩, .string ⟨#[57]⟩, .string ⟨#[97]⟩, .string ⟨#[98]⟩, .string ⟨#[99]⟩, .string ⟨#[47]⟩, .string ⟨#[124]⟩, .string ⟨#[32]⟩, .string ⟨#[44]⟩, .string ⟨#[45]⟩, .string ⟨#[58]⟩, .string ⟨#[120]⟩, .string ⟨#[121]⟩, .string ⟨#[115]⟩, .string ⟨#[10]⟩]
theorem signs_at {i : Nat} (h : i < 18) : ∃ c : ByteArray, signsV[i]? = some (.string c) ∧ c.size = 1 := by
  rcases (show i = 0 ∨ i = 1 ∨ i = 2 ∨ i = 3 ∨ i = 4 ∨ i = 5 ∨ i = 6 ∨ i = 7 ∨ i = 8 ∨ i = 9 ∨ i = 10 ∨ i = 11 ∨ i = 12 ∨ i = 13 ∨ i = 14 ∨ i = 15 ∨ i = 16 ∨ i = 17 by omega) with rfl | rfl | rfl | rfl | rfl | rfl | rfl | rfl | rfl | rfl | rfl | rfl | rfl | rfl | rfl | rfl | rfl | rfl <;> exact ⟨_, rfl, rfl⟩
def DamP (S n : Nat) (w : World) (e : Ending) (w' : World) : Prop := ∃ s : ByteArray, e = .returned (.string s) ∧ s.size ≤ n ∧ Src S w' ∧ Touch S (S + 1) w w'

set_option maxRecDepth 100000 in
set_option maxHeartbeats 4000000 in
theorem l01Damage_any (S : Nat) (t : ByteArray) (w : World) (hs : Src S w) (ht : t.size ≤ 100000) :
    Calls Tryz.prog 35 #[.pointer (some ⟨S, 0, none⟩), .string t] w (DamP S (t.size + 1) w) := by
  have hlt := hs.lt
  have hx0 : Ext w (w.alloc (.cells signsV 9)) := (Ext.refl _).alloc _
  have HC0 := Lib.hid (fun (i : Nat) (c : ByteArray) (h : signsV[i]? = some (.string c)) => (by rw [World.cell?_alloc_mark]; exact h : (w.alloc (.cells signsV 9)).cell? ⟨w.heap.size, i, none⟩ = some (.string c)))
  have z0 : w.heap.size + 1 ≤ (w.alloc (.cells signsV 9)).heap.size := by simp
  have HS := Lib.hid hs
  clear hs
  go_enter Tryz.func35, Tryz.ntmps35
  go_wp2_with fail
  generalize (w.alloc (.cells signsV 9)) = w0 at *
  refine (l01Next_any S _ _ (HS.out.ext hx0)).mono ?_
  rintro e w1 ⟨r, rfl, r1, r2, -, hs1, hT1⟩
  obtain ⟨i, rfl⟩ := Int.eq_ofNat_of_zero_le r1
  have hi : i < 18 := by have := r2 (by omega); omega
  obtain ⟨c, hc, hcs⟩ := signs_at hi
  have e1 := hT1.cell (HC0.out i c hc) (by simp only []; omega)
  have z1 := hT1.size
  have HT := Lib.hid ((Touch.of_ext (lo := S) (hi := S + 1) hx0).trans hT1)
  have HS := Lib.hid hs1
  clear hc HC0 hs1 hT1 r1 r2 hx0
  by_cases ht0 : t.size = 0
  case pos =>
    go_wp2
    go_ret
    exact ⟨c, rfl, by omega, HS.out, HT.out⟩
  case neg =>
    go_wp2_with fail
    refine (l01Next_any S _ _ HS.out).mono ?_
    rintro e w2 ⟨r, rfl, r1, r2, -, hs2, hT2⟩
    obtain ⟨k, rfl⟩ := Int.eq_ofNat_of_zero_le r1
    have hk : k < t.size := by have := r2 (by omega); omega
    have HT := Lib.hid (HT.out.trans hT2)
    have HS := Lib.hid hs2
    clear hs2 hT2 r1 r2 e1
    go_wp2_with fail
    refine (l01Next_any S _ _ HS.out).mono ?_
    rintro e w3 ⟨q, rfl, q1, q2, -, hs3, hT3⟩
    have HT := Lib.hid (HT.out.trans hT3)
    have HS := Lib.hid hs3
    clear hs3 hT3
    have sz1 : (t.extract 0 k).size = k := by rw [ByteArray.size_extract]; omega
    have sz2 : (t.extract (k + 1) t.size).size = t.size - (k + 1) := by rw [ByteArray.size_extract]; omega
    have sz3 : (t.extract k t.size).size = t.size - k := by rw [ByteArray.size_extract]; omega
    by_cases hq0 : q = 0
    · subst hq0
      go_wp2
      go_quiet (fail)
      go_wp2
      go_ret
      exact ⟨_, rfl, by simp only [ByteArray.size_append]; omega, HS.out.ext ((Ext.refl _).drewN _), HT.out.trans (Touch.of_ext ((Ext.refl _).drewN _))⟩
    · by_cases hq1 : q = 1
      · subst hq1
        go_wp2
        go_quiet (fail)
        go_wp2
        go_ret
        exact ⟨_, rfl, by simp only [ByteArray.size_append]; omega, HS.out.ext ((Ext.refl _).drewN _), HT.out.trans (Touch.of_ext ((Ext.refl _).drewN _))⟩
      · go_wp2
        go_quiet (fail)
        go_wp2
        go_ret
        exact ⟨_, rfl, by simp only [ByteArray.size_append]; omega, HS.out.ext ((Ext.refl _).drewN _), HT.out.trans (Touch.of_ext ((Ext.refl _).drewN _))⟩

def DrawnS (w : World) (e : Ending) (w' : World) : Prop := ∃ s : ByteArray, e = .returned (.string s) ∧ s.size ≤ 1048576 ∧ Ext w w'

set_option maxRecDepth 100000 in
set_option maxHeartbeats 2000000 in
theorem DrawParseBrace_any (bs : List Int) (v : Value) (w : World) (hv : BytesR w v bs) (hl : bs.length ≤ 4096) :
    Calls Tryz.prog 15 #[v] w (DrawnS w) := by
  go_enter Tryz.func15, Tryz.ntmps15
  go_wp2_with fail
  refine (l01From_any bs _ _ hv hl).mono ?_
  rintro e w1 ⟨S, rfl, hS, hs, hx1⟩
  have z1 := hx1.size
  have hSl := hs.lt
  go_wp2_with fail
  refine (l11Draw_any S 6 _ hs (by omega) (by omega)).mono ?_
  rintro e w2 ⟨T, U, b, c, y, lo, hi, rfl, ⟨ho, -, -, hu, hT, hU, -⟩, -, hs2, hT2⟩
  have HX := Lib.hid (hx1.touch hT2 hS)
  have HS := Lib.hid hs2
  have hr := ho.rowsV hT c
  have hu := hu.rows
  have ht1 := text_le' hT
  have ht2 := text_le' hU
  obtain ⟨-, bb, oo, cc, rfl, -⟩ := id hu
  clear hs hx1 hs2 hT2 ho
  go_wp2_with fail
  refine (l11Text_any T U _ _ _ hr hu hT hU).mono ?_
  rintro e w3 ⟨rfl, hx3⟩
  have hsz : (strB (twoL (textL T) (textL U))).size ≤ 400 := by
    unfold strB
    rw [bytes_size, length_twoL]
    omega
  have HX := Lib.hid (HX.out.trans hx3)
  have HS := Lib.hid (HS.out.ext hx3)
  generalize strB (twoL (textL T) (textL U)) = t at hsz
  clear hr hu ht1 ht2 hx3
  go_wp2_with fail
  refine (l01Next_any S _ _ HS.out).mono ?_
  rintro e w4 ⟨r, rfl, r1, r2, -, hs4, hT4⟩
  have HX := Lib.hid (HX.out.touch hT4 hS)
  have HS := Lib.hid hs4
  clear hs4 hT4
  by_cases hr0 : r = 0
  · subst hr0
    go_wp2_with fail
    refine (l01Damage_any S t _ HS.out (by omega)).mono ?_
    rintro e w5 ⟨s, rfl, hs1, -, hT5⟩
    have HX := Lib.hid (HX.out.touch hT5 hS)
    clear hT5
    go_wp2
    go_ret
    exact ⟨s, rfl, by omega, HX.out⟩
  · go_wp2
    go_ret
    exact ⟨t, rfl, by omega, HX.out⟩
end Go.Proofs.YthlafeefjonkdaaGreatDoor


namespace Go.Proofs.YthlafeefjonkdaaGreatDoor
set_option linter.unusedVariables false
set_option linter.unusedSimpArgs false
open Go.RowKit
open Go.Deep

set_option maxRecDepth 100000 in
set_option maxHeartbeats 2000000 in
theorem brace9_same (T U : List (List Int)) (v y v2 y2 : Value) (w : World) (h1 : RowsR w v T) (h2 : RowsR w y U) (h3 : RowsR w v2 T) (h4 : RowsR w y2 U) (hs : Small T) (hs2 : Small U) :
    Calls Tryz.prog 14 #[.agg #[v, y], .agg #[v2, y2]] w fun e w' => e = .returned (.bool true) ∧ Ext w w' := by
  obtain ⟨a1, c1, rfl, -⟩ := id h1
  obtain ⟨a2, c2, rfl, -⟩ := id h2
  obtain ⟨a3, c3, rfl, -⟩ := id h3
  obtain ⟨a4, c4, rfl, -⟩ := id h4
  have hX : Ext w ((w.alloc (.cells #[.slice a1 T.length c1, .slice a2 U.length c2] 26)).alloc (.cells #[.slice a3 T.length c3, .slice a4 U.length c4] 26)) := ((Ext.refl _).alloc _).alloc _
  have k0 : ((w.alloc (.cells #[.slice a1 T.length c1, .slice a2 U.length c2] 26)).alloc (.cells #[.slice a3 T.length c3, .slice a4 U.length c4] 26)).cell? ⟨w.heap.size, 0, none⟩ = some (.slice a1 T.length c1) := by simp [go_sem]
  have k1 : ((w.alloc (.cells #[.slice a1 T.length c1, .slice a2 U.length c2] 26)).alloc (.cells #[.slice a3 T.length c3, .slice a4 U.length c4] 26)).cell? ⟨w.heap.size, 1, none⟩ = some (.slice a2 U.length c2) := by simp [go_sem]
  have d0 : ((w.alloc (.cells #[.slice a1 T.length c1, .slice a2 U.length c2] 26)).alloc (.cells #[.slice a3 T.length c3, .slice a4 U.length c4] 26)).cell? ⟨w.heap.size + 1, 0, none⟩ = some (.slice a3 T.length c3) := by simp [go_sem]
  have d1 : ((w.alloc (.cells #[.slice a1 T.length c1, .slice a2 U.length c2] 26)).alloc (.cells #[.slice a3 T.length c3, .slice a4 U.length c4] 26)).cell? ⟨w.heap.size + 1, 1, none⟩ = some (.slice a4 U.length c4) := by simp [go_sem]
  have E1 := Lib.hid (show eqTB T T = true from eqTB_yes rfl)
  have E2 := Lib.hid (show eqTB U U = true from eqTB_yes rfl)
  have H1 := Lib.hid (h1.ext hX)
  have H2 := Lib.hid (h2.ext hX)
  have H3 := Lib.hid (h3.ext hX)
  have H4 := Lib.hid (h4.ext hX)
  clear h1 h2 h3 h4
  go_enter Tryz.func14, Tryz.ntmps14
  go_wp2_with fail
  generalize ((w.alloc (.cells #[.slice a1 T.length c1, .slice a2 U.length c2] 26)).alloc (.cells #[.slice a3 T.length c3, .slice a4 U.length c4] 26)) = A at *
  refine (same9_any T T _ _ _ H1.out H3.out hs).mono ?_
  rintro e wA ⟨rfl, hdA⟩
  rw [E1.out]
  replace k0 := hdA.ext.cell k0
  replace k1 := hdA.ext.cell k1
  replace d0 := hdA.ext.cell d0
  replace d1 := hdA.ext.cell d1
  go_wp2_with (go_at_call 9; refine (same9_any U U _ _ _ (H2.out.ext hdA.ext) (H4.out.ext hdA.ext) hs2).mono ?_; rintro e wB ⟨rfl, hdB⟩; rw [E2.out])
  go_ret
  exact ⟨rfl, hX.trans (hdA.ext.trans hdB.ext)⟩
end Go.Proofs.YthlafeefjonkdaaGreatDoor


namespace Go.Proofs.YthlafeefjonkdaaGreatDoor
set_option linter.unusedVariables false
set_option linter.unusedSimpArgs false
open Go.RowKit
open Go.Deep

set_option maxRecDepth 100000 in
set_option maxHeartbeats 2000000 in
theorem brace9_any (T U A D : List (List Int)) (v y v2 y2 : Value) (w : World) (h1 : RowsR w v T) (h2 : RowsR w y U) (h3 : RowsR w v2 A) (h4 : RowsR w y2 D) (hs : Small T) (hs2 : Small U) :
    Calls Tryz.prog 14 #[.agg #[v, y], .agg #[v2, y2]] w fun e w' => e = .returned (.bool (eqTB T A && eqTB U D)) ∧ Ext w w' := by
  obtain ⟨a1, c1, rfl, -⟩ := id h1
  obtain ⟨a2, c2, rfl, -⟩ := id h2
  obtain ⟨a3, c3, rfl, -⟩ := id h3
  obtain ⟨a4, c4, rfl, -⟩ := id h4
  have hX : Ext w ((w.alloc (.cells #[.slice a1 T.length c1, .slice a2 U.length c2] 26)).alloc (.cells #[.slice a3 A.length c3, .slice a4 D.length c4] 26)) := ((Ext.refl _).alloc _).alloc _
  have k0 : ((w.alloc (.cells #[.slice a1 T.length c1, .slice a2 U.length c2] 26)).alloc (.cells #[.slice a3 A.length c3, .slice a4 D.length c4] 26)).cell? ⟨w.heap.size, 0, none⟩ = some (.slice a1 T.length c1) := by simp [go_sem]
  have k1 : ((w.alloc (.cells #[.slice a1 T.length c1, .slice a2 U.length c2] 26)).alloc (.cells #[.slice a3 A.length c3, .slice a4 D.length c4] 26)).cell? ⟨w.heap.size, 1, none⟩ = some (.slice a2 U.length c2) := by simp [go_sem]
  have d0 : ((w.alloc (.cells #[.slice a1 T.length c1, .slice a2 U.length c2] 26)).alloc (.cells #[.slice a3 A.length c3, .slice a4 D.length c4] 26)).cell? ⟨w.heap.size + 1, 0, none⟩ = some (.slice a3 A.length c3) := by simp [go_sem]
  have d1 : ((w.alloc (.cells #[.slice a1 T.length c1, .slice a2 U.length c2] 26)).alloc (.cells #[.slice a3 A.length c3, .slice a4 D.length c4] 26)).cell? ⟨w.heap.size + 1, 1, none⟩ = some (.slice a4 D.length c4) := by simp [go_sem]
  have H1 := Lib.hid (h1.ext hX)
  have H2 := Lib.hid (h2.ext hX)
  have H3 := Lib.hid (h3.ext hX)
  have H4 := Lib.hid (h4.ext hX)
  clear h1 h2 h3 h4
  go_enter Tryz.func14, Tryz.ntmps14
  go_wp2_with fail
  generalize ((w.alloc (.cells #[.slice a1 T.length c1, .slice a2 U.length c2] 26)).alloc (.cells #[.slice a3 A.length c3, .slice a4 D.length c4] 26)) = AW at *
  refine (same9_any T A _ _ _ H1.out H3.out hs).mono ?_
  rintro e wA ⟨rfl, hdA⟩
  replace k0 := hdA.ext.cell k0
  replace k1 := hdA.ext.cell k1
  replace d0 := hdA.ext.cell d0
  replace d1 := hdA.ext.cell d1
  cases he : eqTB T A with
  | false =>
    go_wp2
    go_ret
    exact ⟨ret_bool (by rw [he]; rfl), hX.trans hdA.ext⟩
  | true =>
    go_wp2_with (go_at_call 9; refine (same9_any U D _ _ _ (H2.out.ext hdA.ext) (H4.out.ext hdA.ext) hs2).mono ?_; rintro e wB ⟨rfl, hdB⟩)
    go_ret
    exact ⟨ret_bool (by rw [he]; rfl), hX.trans (hdA.ext.trans hdB.ext)⟩
end Go.Proofs.YthlafeefjonkdaaGreatDoor
