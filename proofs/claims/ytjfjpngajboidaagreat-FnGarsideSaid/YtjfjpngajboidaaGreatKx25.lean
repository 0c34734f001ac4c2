/-
  Draws of the reference: l02Spoil.
-/
import Derived.Test.YtjfjpngajboidaaGreatKx24
namespace Go.Proofs.YtjfjpngajboidaaGreat
set_option linter.unusedVariables false
set_option linter.unusedSimpArgs false
open Go.RowKit
open Go.Deep

def DrawQ (S : Nat) (w : World) (e : Ending) (w' : World) : Prop := ∃ v y T U, e = .returned (.agg #[v, y]) ∧ RowsP (fun k => w.heap.size ≤ k) w' v T ∧ RowsP (fun k => w.heap.size ≤ k) w' y U ∧ T.length ≤ 13 ∧ Src S w' ∧ Touch S (S + 1) w w'
theorem RowsP.setO {O O' : Nat → Prop} {w : World} {v : Value} {t : List (List Int)} (h : RowsP O w v t) {a : Addr} (ha : ∀ k, O k → k ≠ a.block) (u : Value) (ho : ∀ k, O k → O' k) : RowsP O' (w.setCell a u) v t :=
  (h.keep0 (w' := w.setCell a u) fun k hk _ => Below.heap_setCell _ _ _ _ (fun e => ha k hk e)).weaken ho
theorem TabF.rowsPB {base : Nat} {w : World} {v : Value} {t : List (List Int)} (h : TabF base w v t) : RowsP (fun b => base ≤ b ∧ b < w.heap.size) w v t := by
  obtain ⟨h0, b, c, rfl, hb, hl, hr⟩ := h
  refine ⟨h0, b, 0, c, rfl, ⟨hb, hl⟩, fun i hi => ?_⟩
  obtain ⟨h1, x, h2, h3, b1, c1, rfl, h4, h5, h6, h7, h8⟩ := hr i hi
  exact ⟨b1, 0, c1, by rw [Nat.zero_add]; exact h2, ⟨h4, h5⟩, h3, h7⟩
theorem drawQ_end {S B lo : Nat} {w w2 : World} {v y v0 y0 : Value} {T U : List (List Int)} (hB : w.heap.size = B) (hlo : B < lo) (hT : RowsP (fun k => lo ≤ k) w2 v T) (hU : RowsP (fun k => lo ≤ k) w2 y U) (hl : T.length ≤ 13) (hs : Src S w2) (hS : S < B) (ht : Touch S (S + 1) w w2) :
    DrawQ S w (.returned (.agg #[v, y])) ((w2.setCell ⟨B, 0, none⟩ v0).setCell ⟨B, 1, none⟩ y0) := by
  subst hB
  have k1 : ∀ k, lo ≤ k → k ≠ w.heap.size := fun k hk => by omega
  exact ⟨v, y, T, U, rfl, (hT.setO (a := ⟨w.heap.size, 0, none⟩) k1 v0 (fun k h => h)).setO (a := ⟨w.heap.size, 1, none⟩) k1 y0 (fun k h => by omega), (hU.setO (a := ⟨w.heap.size, 0, none⟩) k1 v0 (fun k h => h)).setO (a := ⟨w.heap.size, 1, none⟩) k1 y0 (fun k h => by omega), hl,
    src_setCell (src_setCell hs (p := ⟨w.heap.size, 0, none⟩) hS v0) (p := ⟨w.heap.size, 1, none⟩) hS y0, touch_setIn (touch_setIn ht (p := ⟨w.heap.size, 0, none⟩) (Nat.le_refl _) v0) (p := ⟨w.heap.size, 1, none⟩) (Nat.le_refl _) y0⟩

theorem l01Next_nat (S n : Nat) (w : World) (hs : Src S w) (hn : 1 ≤ n) :
    Calls Tryz.prog 42 #[.pointer (some ⟨S, 0, none⟩), .int .i64 n] w fun e w' => ∃ j : Nat, j < n ∧ e = .returned (.int .i64 j) ∧ Src S w' ∧ Touch S (S + 1) w w' := by
  refine (l01Next_any S _ _ hs).mono ?_
  rintro e w4 ⟨rj, rfl, rj1, rj2, -, hs4, hT4⟩
  have hrj := rj2 (by omega)
  obtain ⟨j, rfl⟩ := Int.eq_ofNat_of_zero_le rj1
  exact ⟨j, by omega, rfl, hs4, hT4⟩

theorem l01Draw_at (S n : Nat) (w : World) (hs : Src S w) (h1 : 1 ≤ n) (hn : n ≤ 1000) :
    Calls Tryz.prog 81 #[.pointer (some ⟨S, 0, none⟩), .int .i64 n] w fun e w' => ∃ (p : List Int) (b c : Nat), e = .returned (.slice (some ⟨b, 0, none⟩) n c) ∧ p.length = n ∧ w.heap.size ≤ b ∧ IntsAt w' b 0 p ∧ Src S w' ∧ Touch S (S + 1) w w' := by
  refine (l01Draw_any S n w hs h1 hn).mono ?_
  rintro e w' ⟨p, b, c, rfl, hpl, -, hg, hs', hT⟩
  obtain ⟨b', c', he, ho⟩ := hg.own (by simp)
  simp only [Value.slice.injEq, Option.some.injEq, Addr.mk.injEq, and_true] at he
  obtain ⟨rfl, -, rfl⟩ := he
  exact ⟨p, b, c, rfl, hpl, ho.1, ho.2.2.1, hs', hT⟩
theorem touch_pre {S : Nat} {a w w' : World} (hx : Ext a w) (h : Touch S (S + 1) w w') : Touch S (S + 1) a w' := (Touch.of_ext (lo := S) (hi := S + 1) hx).trans h
theorem RowsP.setRowN {O : Nat → Prop} {w : World} {v : Value} {t : List (List Int)} (h : RowsP O w v t) {a : Addr} {s0 : Option Addr} {n0 c0 n : Nat} (ha : w.cell? a = some (.slice s0 n0 c0)) {p : List Int} {bp op cp : Nat} (hO : O bp) (hn : p.length = n) (hl : n ≤ 1048576) (hp : IntsAt w bp op p) : ∃ t', RowsP O (w.setCell a (.slice (some ⟨bp, op, none⟩) n cp)) v t' ∧ t'.length = t.length := by
  subst hn
  exact h.setRow ha hO hl hp

set_option maxRecDepth 100000 in
set_option maxHeartbeats 8000000 in
theorem l02Spoil_any (S most : Nat) (w : World) (hs : Src S w) (h1 : 1 ≤ most) (h12 : most ≤ 12) :
    Calls Tryz.prog 73 #[.pointer (some ⟨S, 0, none⟩), .int .i64 most] w (DrawQ S w) := by
  have hlt := hs.lt
  have hx0 : Ext w (w.alloc (.cells #[.slice none 0 0, .slice none 0 0] 26)) := (Ext.refl _).alloc _
  have HR0 := Lib.hid (BoxV.new w (.slice none 0 0) (.slice none 0 0) 26)
  have HS0 := Lib.hid (hs.ext hx0)
  have HT0 := Lib.hid (touch_ext (S := S) (Touch.of_ext (Ext.refl w)) hx0)
  have hz0 : w.heap.size < (w.alloc (.cells #[.slice none 0 0, .slice none 0 0] 26)).heap.size := by simp
  clear hs hx0
  go_enter Tryz.func73, Tryz.ntmps73
  go_wp2_with fail
  generalize (w.alloc (.cells #[.slice none 0 0, .slice none 0 0] 26)) = w0 at *
  refine (l02Draw_any S most w0 HS0.out h1 h12).mono ?_
  rintro e w1 ⟨v1, y1, T, U, rfl, ht, hu, hok, hq, hs1, hT1⟩
  have hul : U.length = T.length := hok.len
  obtain ⟨ht0, d1, d2, rfl, hd1, hd1', hrt⟩ := id ht
  obtain ⟨hu0, d3, d4, rfl, hd3, hd3', hru⟩ := id hu
  rw [hul] at hu ⊢
  clear hul
  have hxb : Ext w1 (w1.alloc (.cells #[.slice (some ⟨d1, 0, none⟩) T.length d2, .slice (some ⟨d3, 0, none⟩) T.length d4] 26)) := (Ext.refl _).alloc _
  have HB1 := Lib.hid (BoxV.new w1 (.slice (some ⟨d1, 0, none⟩) T.length d2) (.slice (some ⟨d3, 0, none⟩) T.length d4) 26)
  have HT1 := Lib.hid (touch_ext (HT0.out.trans hT1) hxb)
  have HR1 := Lib.hid ((HR0.out.touchS hT1 (by omega)).ext hxb)
  have HA1 := Lib.hid (ht.rowsPB.ext hxb)
  have HU1 := Lib.hid (hu.rowsPB.ext hxb)
  have HS1 := Lib.hid (hs1.ext hxb)
  have hz1 := hT1.size
  have hzb : w1.heap.size < (w1.alloc (.cells #[.slice (some ⟨d1, 0, none⟩) T.length d2, .slice (some ⟨d3, 0, none⟩) T.length d4] 26)).heap.size := by simp
  have HOK := Lib.hid hok
  have HRU := Lib.hid (show ∀ i, i < T.length → ∃ b c, w1.cell? ⟨d3, i, none⟩ = some (.slice (some ⟨b, 0, none⟩) T.length c) ∧ w0.heap.size ≤ b ∧ b < w1.heap.size ∧ IntsAt w1 b 0 (row U i) ∧ FreeAt w1 b 0 T.length from fun i hi => by
    obtain ⟨-, x, g1, -, b, c, rfl, g2, g3, -, g4, g5⟩ := hru i (by have := hok.len; omega)
    rw [hok.rowS hi] at g1 g5
    exact ⟨b, c, g1, g2, g3, g4, g5⟩)
  have HRT := Lib.hid (show ∀ i, i < T.length → w1.frozen? ⟨d1, i, none⟩ = false ∧ ∃ b c, w1.cell? ⟨d1, i, none⟩ = some (.slice (some ⟨b, 0, none⟩) T.length c) from fun i hi => by
    obtain ⟨g0, x, g1, -, b, c, rfl, -⟩ := hrt i (by omega)
    rw [hok.rowL hi] at g1
    exact ⟨g0, b, c, g1⟩)
  have HULR := Lib.hid (fun i hi => hok.rowS (x := i) hi)
  have ht12 : T.length ≤ 12 := by omega
  have ht1 : 1 ≤ T.length := hq.1
  clear ht hu hok hs1 hT1 hxb HT0 HR0 HS0 ht0 hu0 hrt hru hq
  go_wp2_with fail
  have hx2 : Ext w1 (w1.alloc (.cells #[.slice (some ⟨d1, 0, none⟩) T.length d2, .slice (some ⟨d3, 0, none⟩) T.length d4] 26)) := (Ext.refl _).alloc _
  generalize (w1.alloc (.cells #[.slice (some ⟨d1, 0, none⟩) T.length d2, .slice (some ⟨d3, 0, none⟩) T.length d4] 26)) = w2 at *
  refine (l01Next_any S _ _ HS1.out).mono ?_
  rintro e w3 ⟨r, rfl, r1, r2, -, hs3, hT3⟩
  have HT3 := Lib.hid (HT1.out.trans hT3)
  have HR3 := Lib.hid (HR1.out.touchS hT3 (by omega))
  have HB3 := Lib.hid (HB1.out.touchS hT3 (by omega))
  have HA3 := Lib.hid (HA1.out.touch hT3 (fun k hk => by omega))
  have HU3 := Lib.hid (HU1.out.touch hT3 (fun k hk => by omega))
  have HS3 := Lib.hid hs3
  have hz3 := hT3.size
  have hS1 : S < w1.heap.size := by omega
  have kT : ∀ i, i < T.length → ∃ b c, (∀ W, Touch S (S + 1) w3 W → W.cell? ⟨d1, i, none⟩ = some (.slice (some ⟨b, 0, none⟩) T.length c)) ∧ ∀ W, Touch S (S + 1) w3 W → W.frozen? ⟨d1, i, none⟩ = false := fun i hi => by
    obtain ⟨g0, b, c, g1⟩ := HRT.out i hi
    have g2 := hT3.cell (hx2.cell g1) (by simp only []; omega)
    refine ⟨b, c, fun W hW => hW.cell g2 (by simp only []; omega), fun W hW => ?_⟩
    rw [World.frozen?_of_block (w := w1) (a := ⟨d1, i, none⟩) ((hW.block d1 (World.block_lt_of_cell? _ _ g2) (by omega)).trans ((hT3.block d1 (World.block_lt_of_cell? _ _ (hx2.cell g1)) (by omega)).trans (hx2.block d1 hd1')))]
    exact g0
  have kU : ∀ i, i < T.length → ∃ b c, w0.heap.size ≤ b ∧ b < w1.heap.size ∧ (∀ W, Touch S (S + 1) w3 W → W.cell? ⟨d3, i, none⟩ = some (.slice (some ⟨b, 0, none⟩) T.length c)) ∧ ∀ W, Touch S (S + 1) w3 W → ∀ j, j < T.length → W.cell? ⟨b, j, none⟩ = some (.int .i64 (ix (row U i) j)) ∧ W.frozen? ⟨b, j, none⟩ = false := fun i hi => by
    obtain ⟨b, c, g1, g2, g3, g4, g5⟩ := HRU.out i hi
    have g6 := hT3.cell (hx2.cell g1) (by simp only []; omega)
    refine ⟨b, c, g2, g3, fun W hW => hW.cell g6 (by simp only []; omega), fun W hW j hj => ?_⟩
    have g7 := hT3.cell (hx2.cell (g4 j (by rw [HULR.out i hi]; exact hj))) (by simp only []; omega)
    rw [Nat.zero_add] at g7
    refine ⟨hW.cell g7 (by simp only []; omega), ?_⟩
    rw [World.frozen?_of_block (w := w1) (a := ⟨b, j, none⟩) ((hW.block b (World.block_lt_of_cell? _ _ g7) (by omega)).trans ((hT3.block b (by have := hx2.size; omega) (by omega)).trans (hx2.block b g3)))]
    have := g5 j hj
    rwa [Nat.zero_add] at this
  have KT := Lib.hid kT
  have KU := Lib.hid kU
  have hzz : w1.heap.size < w3.heap.size := by omega
  clear hT3 hs3 HT1 HR1 HB1 HA1 HU1 HS1 r2 HRU HRT hx2 kT kU HULR
  have kB : ∀ W, Touch S (S + 1) w3 W → BoxV w1.heap.size W (.slice (some ⟨d1, 0, none⟩) T.length d2) (.slice (some ⟨d3, 0, none⟩) T.length d4) ∧ BoxV w.heap.size W (.slice none 0 0) (.slice none 0 0) := fun W hW => ⟨HB3.out.touchS hW (by omega), HR3.out.touchS hW (by omega)⟩
  have KB := Lib.hid kB
  clear kB
  obtain ⟨-, k0, k1, -, -⟩ := HB3.out
  obtain ⟨-, q0, q1, q2, q3⟩ := HR3.out
  by_cases hr0 : r = 0
  case pos =>
    subst hr0
    go_wp2_with fail
    go_region_with (first
      | (go_at_call 42; refine (l01Next_nat S T.length _ (HS3.out.ext (by (repeat first | (with_reducible exact Ext.refl _) | (with_reducible assumption) | (with_reducible apply Ext.drew) | (with_reducible apply kx_drewN) | (with_reducible apply kx_alloc) | ((with_reducible refine kx_set ?_ ?_); (first | (simp only []; omega) | (simp; omega) | (focus (simp; done)))) ))) ht1).mono ?_; rintro e w4 ⟨j, hjl, rfl, hs4, hT4⟩; have hT4 := (show Touch S (S + 1) w3 w4 from (Touch.of_ext (lo := S) (hi := S + 1) (show Ext w3 _ by (repeat first | (with_reducible exact Ext.refl _) | (with_reducible assumption) | (with_reducible apply Ext.drew) | (with_reducible apply kx_drewN) | (with_reducible apply kx_alloc) | ((with_reducible refine kx_set ?_ ?_); (first | (simp only []; omega) | (simp; omega) | (focus (simp; done)))) ))).trans hT4); obtain ⟨bT, cT, kT, kF⟩ := KT.out j hjl; have KTJ := Lib.hid kT; have KFJ := Lib.hid kF; clear kT kF; obtain ⟨⟨-, k0, k1, -, -⟩, -, q0, q1, q2, q3⟩ := KB.out _ hT4)
      | (go_at_call 81; refine (l01Draw_at S T.length _ (hs4.ext (by (repeat first | (with_reducible exact Ext.refl _) | (with_reducible assumption) | (with_reducible apply Ext.drew) | (with_reducible apply kx_drewN) | (with_reducible apply kx_alloc) | ((with_reducible refine kx_set ?_ ?_); (first | (simp only []; omega) | (simp; omega) | (focus (simp; done)))) ))) ht1 (by omega)).mono ?_; rintro e w5 ⟨p, bp, cp, rfl, hpl, hbp, hip, hs5, hT5⟩; have hzp := Nat.le_trans (Ext.size (show Ext w4 _ by (repeat first | (with_reducible exact Ext.refl _) | (with_reducible assumption) | (with_reducible apply Ext.drew) | (with_reducible apply kx_drewN) | (with_reducible apply kx_alloc) | ((with_reducible refine kx_set ?_ ?_); (first | (simp only []; omega) | (simp; omega) | (focus (simp; done)))) ))) hbp; have hT5 := hT4.trans (touch_pre (show Ext w4 _ by (repeat first | (with_reducible exact Ext.refl _) | (with_reducible assumption) | (with_reducible apply Ext.drew) | (with_reducible apply kx_drewN) | (with_reducible apply kx_alloc) | ((with_reducible refine kx_set ?_ ?_); (first | (simp only []; omega) | (simp; omega) | (focus (simp; done)))) )) hT5); obtain ⟨⟨-, k0, k1, -, -⟩, -, q0, q1, q2, q3⟩ := KB.out _ hT5; have kTj := KTJ.out _ hT5; have kFj := KFJ.out _ hT5))
    all_goals
      have hz4 := hT4.size
      obtain ⟨T', hT', lT'⟩ := ((HA3.out.touch hT5 (fun k hk => by omega)).weaken (O' := fun k => w0.heap.size ≤ k) (fun k h => h.1)).setRowN (cp := cp) kTj (show w0.heap.size ≤ bp by omega) hpl (by omega) hip
      obtain ⟨U', hU', lU'⟩ := ((HU3.out.touch hT5 (fun k hk => by omega)).weaken (O' := fun k => w0.heap.size ≤ k) (fun k h => h.1)).setRowN (cp := cp) kTj (show w0.heap.size ≤ bp by omega) hpl (by omega) hip
      have hs6 := src_setCell hs5 (p := ⟨d1, j, none⟩) (by simp only []; omega) (.slice (some ⟨bp, 0, none⟩) T.length cp)
      have hT6 := touch_setIn (HT3.out.trans hT5) (p := ⟨d1, j, none⟩) (by simp only []; omega) (.slice (some ⟨bp, 0, none⟩) T.length cp)
      have hT12 : T'.length ≤ 13 := by omega
      clear lT' lU'
      go_wp2
      exact bodyPost_ret (v := .agg #[.slice (some ⟨d1, 0, none⟩) T.length d2, .slice (some ⟨d3, 0, none⟩) T.length d4]) (by simp [results, Tryz.results73, go_sem, q0, q1]) rfl (drawQ_end (lo := w0.heap.size) rfl hz0 hT' hU' hT12 hs6 hlt hT6)
  case neg =>
    by_cases hr1 : r = 1
    case pos =>
      subst hr1
      go_wp2_with fail
      go_region_with ((go_at_call 42; refine (l01Next_nat S T.length _ (HS3.out.ext (by (repeat first | (with_reducible exact Ext.refl _) | (with_reducible assumption) | (with_reducible apply Ext.drew) | (with_reducible apply kx_drewN) | (with_reducible apply kx_alloc) | ((with_reducible refine kx_set ?_ ?_); (first | (simp only []; omega) | (simp; omega) | (focus (simp; done)))) ))) ht1).mono ?_; rintro e w4 ⟨j, hjl, rfl, hs4, hT4⟩; have hT4 := touch_pre (show Ext w3 _ by (repeat first | (with_reducible exact Ext.refl _) | (with_reducible assumption) | (with_reducible apply Ext.drew) | (with_reducible apply kx_drewN) | (with_reducible apply kx_alloc) | ((with_reducible refine kx_set ?_ ?_); (first | (simp only []; omega) | (simp; omega) | (focus (simp; done)))) )) hT4; obtain ⟨bU, cU, zU1, zU2, kU, kI⟩ := KU.out j hjl; have KIJ := Lib.hid kI; have kUj := kU _ hT4; clear kU kI; obtain ⟨⟨-, k0, k1, -, -⟩, -, q0, q1, q2, q3⟩ := KB.out _ hT4))
      all_goals
        go_wp2_with fail
        refine (l01Next_nat S T.length _ (hs4.ext (by (repeat first | (with_reducible exact Ext.refl _) | (with_reducible assumption) | (with_reducible apply Ext.drew) | (with_reducible apply kx_drewN) | (with_reducible apply kx_alloc) | ((with_reducible refine kx_set ?_ ?_); (first | (simp only []; omega) | (simp; omega) | (focus (simp; done)))) ))) ht1).mono ?_
        rintro e w5 ⟨x, hxl, rfl, hs5, hT5⟩
        have hT5 := hT4.trans (touch_pre (show Ext w4 _ by (repeat first | (with_reducible exact Ext.refl _) | (with_reducible assumption) | (with_reducible apply Ext.drew) | (with_reducible apply kx_drewN) | (with_reducible apply kx_alloc) | ((with_reducible refine kx_set ?_ ?_); (first | (simp only []; omega) | (simp; omega) | (focus (simp; done)))) )) hT5)
        go_wp2_with fail
        refine (l01Next_nat S T.length _ hs5 ht1).mono ?_
        rintro e w6 ⟨z, hzl, rfl, hs6, hT6⟩
        have hT6 := hT5.trans hT6
        obtain ⟨⟨-, k0, k1, -, -⟩, -, q0, q1, q2, q3⟩ := KB.out _ hT6
        obtain ⟨i0, i1⟩ := KIJ.out _ hT6 x hxl
        obtain ⟨T', hT', lT'⟩ := ((HA3.out.touch hT6 (fun k hk => by omega)).weaken (O' := fun k => w0.heap.size ≤ k) (fun k h => h.1)).setInt i0 (z : Int)
        obtain ⟨U', hU', lU'⟩ := ((HU3.out.touch hT6 (fun k hk => by omega)).weaken (O' := fun k => w0.heap.size ≤ k) (fun k h => h.1)).setInt i0 (z : Int)
        have hs7 := src_setCell hs6 (p := ⟨bU, x, none⟩) (by simp only []; omega) (.int .i64 (z : Int))
        have hT7 := touch_setIn (HT3.out.trans hT6) (p := ⟨bU, x, none⟩) (by simp only []; omega) (.int .i64 (z : Int))
        have hT12 : T'.length ≤ 13 := by omega
        have n1 : bU ≠ w1.heap.size := by omega
        have n2 : bU ≠ w.heap.size := by omega
        clear lT' lU'
        go_wp2
        exact bodyPost_ret (v := .agg #[.slice (some ⟨d1, 0, none⟩) T.length d2, .slice (some ⟨d3, 0, none⟩) T.length d4]) (by simp [results, Tryz.results73, go_sem, q0, q1]) rfl (drawQ_end (lo := w0.heap.size) rfl hz0 hT' hU' hT12 hs7 hlt hT7)
    case neg =>
      by_cases hr2 : r = 2
      case pos =>
        subst hr2
        go_wp2_with fail
        refine (l01Tables_any S T.length _ HS3.out ht1 (by omega)).mono ?_
        rintro e w4 ⟨g4, c4, B4, xs4, t4, rfl, hg4, hs4, hT4⟩
        have HA4 := Lib.hid (hg4.tab (by omega) (by omega)).rowsP
        have HL4 := Lib.hid hg4.l
        clear hg4
        have hz4 := hT4.size
        go_wp2_with fail
        refine (l01Tables_any S T.length _ hs4 ht1 (by omega)).mono ?_
        rintro e w5 ⟨g5, c5, B5, xs5, t5, rfl, hg5, hs5, hT5⟩
        have HA5 := Lib.hid (hg5.tab (by omega) (by omega)).rowsP
        clear hg5
        have hz5 := hT5.size
        have HAA := Lib.hid (HA4.out.touch hT5 (fun k hk => by omega))
        have hT5 := hT4.trans hT5
        obtain ⟨hbc, hbb⟩ := KB.out _ hT5
        obtain ⟨-, k0, k1, k2, k3⟩ := id hbc
        have hbc' := (hbc.set0 (.slice (some ⟨g4, 0, none⟩) T.length c4)).set1 (.slice (some ⟨g5, 0, none⟩) T.length c5)
        have hbb' := (hbb.setOther (a := ⟨w1.heap.size, 0, none⟩) (by simp only []; omega) (.slice (some ⟨g4, 0, none⟩) T.length c4)).setOther (a := ⟨w1.heap.size, 1, none⟩) (by simp only []; omega) (.slice (some ⟨g5, 0, none⟩) T.length c5)
        obtain ⟨-, m0, m1, -, -⟩ := hbc'
        obtain ⟨-, q0, q1, q2, q3⟩ := hbb'
        have hs7 := src_setCell (src_setCell hs5 (p := ⟨w1.heap.size, 0, none⟩) (by simp only []; omega) (.slice (some ⟨g4, 0, none⟩) T.length c4)) (p := ⟨w1.heap.size, 1, none⟩) (by simp only []; omega) (.slice (some ⟨g5, 0, none⟩) T.length c5)
        have hT7 := touch_setIn (touch_setIn (HT3.out.trans hT5) (p := ⟨w1.heap.size, 0, none⟩) (by simp only []; omega) (.slice (some ⟨g4, 0, none⟩) T.length c4)) (p := ⟨w1.heap.size, 1, none⟩) (by simp only []; omega) (.slice (some ⟨g5, 0, none⟩) T.length c5)
        have hA7 := (HAA.out.setO (a := ⟨w1.heap.size, 0, none⟩) (fun k hk => by simp only []; omega) (.slice (some ⟨g4, 0, none⟩) T.length c4) (fun k h => h)).setO (a := ⟨w1.heap.size, 1, none⟩) (fun k hk => by simp only []; omega) (.slice (some ⟨g5, 0, none⟩) T.length c5) (O' := fun k => w0.heap.size ≤ k) (fun k h => by omega)
        have hU7 := (HA5.out.setO (a := ⟨w1.heap.size, 0, none⟩) (fun k hk => by simp only []; omega) (.slice (some ⟨g4, 0, none⟩) T.length c4) (fun k h => h)).setO (a := ⟨w1.heap.size, 1, none⟩) (fun k hk => by simp only []; omega) (.slice (some ⟨g5, 0, none⟩) T.length c5) (O' := fun k => w0.heap.size ≤ k) (fun k h => by omega)
        go_wp2
        exact bodyPost_ret (v := .agg #[.slice (some ⟨g4, 0, none⟩) T.length c4, .slice (some ⟨g5, 0, none⟩) T.length c5]) (by simp [results, Tryz.results73, go_sem, q0, q1]) rfl (drawQ_end (lo := w0.heap.size) rfl hz0 hA7 hU7 (by rw [HL4.out]; omega) hs7 hlt hT7)
      case neg =>
        by_cases hr3 : r = 3
        case pos =>
          subst hr3
          go_wp2_with fail
          refine (l01Bad_any S T.length _ HS3.out ht1 (by omega)).mono ?_
          rintro e w4 ⟨g4, n4, c4, t4, rfl, hl4, hn4, hg4, hs4, hT4⟩
          have HA4 := Lib.hid hg4
          clear hg4
          have hz4 := hT4.size
          obtain ⟨hbc, hbb⟩ := KB.out _ hT4
          obtain ⟨-, k0, k1, k2, k3⟩ := id hbc
          have hbc' := hbc.set1 (.slice (some ⟨g4, 0, none⟩) n4 c4)
          have hbb' := hbb.setOther (a := ⟨w1.heap.size, 1, none⟩) (by simp only []; omega) (.slice (some ⟨g4, 0, none⟩) n4 c4)
          obtain ⟨-, m0, m1, -, -⟩ := hbc'
          obtain ⟨-, q0, q1, q2, q3⟩ := hbb'
          have hs7 := src_setCell hs4 (p := ⟨w1.heap.size, 1, none⟩) (by simp only []; omega) (.slice (some ⟨g4, 0, none⟩) n4 c4)
          have hT7 := touch_setIn (HT3.out.trans hT4) (p := ⟨w1.heap.size, 1, none⟩) (by simp only []; omega) (.slice (some ⟨g4, 0, none⟩) n4 c4)
          have hA7 := HA4.out.setO (a := ⟨w1.heap.size, 1, none⟩) (fun k hk => by simp only []; omega) (.slice (some ⟨g4, 0, none⟩) n4 c4) (O' := fun k => w0.heap.size ≤ k) (fun k h => by omega)
          have hB7 := (HA3.out.touch hT4 (fun k hk => by omega)).setO (a := ⟨w1.heap.size, 1, none⟩) (fun k hk => by simp only []; omega) (.slice (some ⟨g4, 0, none⟩) n4 c4) (O' := fun k => w0.heap.size ≤ k) (fun k h => h.1)
          have hL13 : t4.length ≤ 13 := by omega
          clear hl4
          go_wp2
          exact bodyPost_ret (v := .agg #[.slice (some ⟨d1, 0, none⟩) T.length d2, .slice (some ⟨g4, 0, none⟩) n4 c4]) (by simp [results, Tryz.results73, go_sem, q0, q1]) rfl (drawQ_end (lo := w0.heap.size) rfl hz0 hB7 hA7 (by omega) hs7 hlt hT7)
        case neg =>
          by_cases hr4 : r = 4
          case pos =>
            subst hr4
            go_wp2_with fail
            refine (l01Bad_any S T.length _ HS3.out ht1 (by omega)).mono ?_
            rintro e w4 ⟨g4, n4, c4, t4, rfl, hl4, hn4, hg4, hs4, hT4⟩
            have HA4 := Lib.hid hg4
            clear hg4
            have hz4 := hT4.size
            obtain ⟨hbc, hbb⟩ := KB.out _ hT4
            obtain ⟨-, k0, k1, k2, k3⟩ := id hbc
            have hbc' := hbc.set0 (.slice (some ⟨g4, 0, none⟩) n4 c4)
            have hbb' := hbb.setOther (a := ⟨w1.heap.size, 0, none⟩) (by simp only []; omega) (.slice (some ⟨g4, 0, none⟩) n4 c4)
            obtain ⟨-, m0, m1, -, -⟩ := hbc'
            obtain ⟨-, q0, q1, q2, q3⟩ := hbb'
            have hs7 := src_setCell hs4 (p := ⟨w1.heap.size, 0, none⟩) (by simp only []; omega) (.slice (some ⟨g4, 0, none⟩) n4 c4)
            have hT7 := touch_setIn (HT3.out.trans hT4) (p := ⟨w1.heap.size, 0, none⟩) (by simp only []; omega) (.slice (some ⟨g4, 0, none⟩) n4 c4)
            have hA7 := HA4.out.setO (a := ⟨w1.heap.size, 0, none⟩) (fun k hk => by simp only []; omega) (.slice (some ⟨g4, 0, none⟩) n4 c4) (O' := fun k => w0.heap.size ≤ k) (fun k h => by omega)
            have hB7 := (HU3.out.touch hT4 (fun k hk => by omega)).setO (a := ⟨w1.heap.size, 0, none⟩) (fun k hk => by simp only []; omega) (.slice (some ⟨g4, 0, none⟩) n4 c4) (O' := fun k => w0.heap.size ≤ k) (fun k h => h.1)
            have hL13 : t4.length ≤ 13 := by omega
            clear hl4
            go_wp2
            exact bodyPost_ret (v := .agg #[.slice (some ⟨g4, 0, none⟩) n4 c4, .slice (some ⟨d3, 0, none⟩) T.length d4]) (by simp [results, Tryz.results73, go_sem, q0, q1]) rfl (drawQ_end (lo := w0.heap.size) rfl hz0 hA7 hB7 hL13 hs7 hlt hT7)
          case neg =>
            have hz9 : T.length ≤ 13 := by omega
            go_wp2
            exact bodyPost_ret (v := .agg #[.slice (some ⟨d1, 0, none⟩) T.length d2, .slice (some ⟨d3, 0, none⟩) T.length d4]) (by simp [results, Tryz.results73, go_sem, q0, q1]) rfl (drawQ_end (lo := w0.heap.size) rfl hz0 (HA3.out.weaken (fun k h => h.1)) (HU3.out.weaken (fun k h => h.1)) hz9 HS3.out hlt HT3.out)
end Go.Proofs.YtjfjpngajboidaaGreat


namespace Go.Proofs.YtjfjpngajboidaaGreat
set_option linter.unusedVariables false
set_option linter.unusedSimpArgs false
open Go.RowKit
attribute [local go_sem ↓] Go.wp_at_zero Go.wp_at_succ
open Go.Deep

theorem permRowsB_no {t : List (List Int)} {x : Nat} (hx : x < t.length) (h : permB (row t x) = false) : permRowsB t = false := by
  rw [← Bool.not_eq_true]
  intro k
  have := permB_iff.2 (permRowsB_iff.1 k x hx)
  rw [h] at this
  cases this

set_option maxRecDepth 100000 in
theorem l01Rows_any (t : List (List Int)) (v : Value) (w : World) (hv : Rows w v t) (hr : ∀ x, x < t.length → 1 ≤ (row t x).length ∧ (row t x).length ≤ 12) :
    Calls Tryz.prog 96 #[v] w fun e w' => e = .returned (.bool (permRowsB t)) ∧ w = w' := by
  obtain ⟨hlen, b, o, c, rfl, hc⟩ := hv
  have HR := Lib.hid hr
  have HC := Lib.hid hc
  clear hr hc
  go_enter Tryz.func96, Tryz.ntmps96
  go_wp2
  go_loop [3] (fun i => ∃ k : Nat, k ≤ t.length ∧ i = .int .i64 k ∧ ∀ a, a < k → permB (row t a) = true) (fun i => t.length - (intOf i).toNat)
  case atStart => exact ⟨0, Nat.zero_le _, rfl, fun a ha => absurd ha (Nat.not_lt_zero _)⟩
  case round =>
    obtain ⟨k, hk, rfl, hp⟩ := hrel
    have HP := Lib.hid hp
    clear hp
    by_cases hkl : k < t.length
    case neg =>
      have hki : ¬ (k : Int) < (t.length : Int) := by omega
      have HZ := Lib.hid (permRowsB_iff.2 fun x hx => permB_iff.1 (HP.out x (by omega)))
      go_wp2
      go_ret
      exact ⟨ret_bool HZ.out.symm, rfl⟩
    case pos =>
      have hki : (k : Int) < (t.length : Int) := by omega
      obtain ⟨r, h1, h2⟩ := HC.out k hkl
      obtain ⟨-, b1, o1, c1, rfl, -⟩ := id h2
      cases hB : permB (row t k) with
      | true =>
        go_wp2_with (go_at_call 127; refine (l01Perm_any _ _ _ h2 (HR.out k hkl).1 (HR.out k hkl).2).mono ?_; rintro e w2 ⟨rfl, rfl⟩; rw [hB])
        go_round
        case rel => exact ⟨k + 1, by omega, by go_num, fun a ha => by
          rcases Nat.lt_succ_iff_lt_or_eq.1 ha with h | h
          · exact HP.out a h
          · rw [h]; exact hB⟩
        case measure => simp [intOf]; omega
      | false =>
        have HZ := Lib.hid (permRowsB_no hkl hB)
        go_wp2_with (go_at_call 127; refine (l01Perm_any _ _ _ h2 (HR.out k hkl).1 (HR.out k hkl).2).mono ?_; rintro e w2 ⟨rfl, rfl⟩; rw [hB])
        go_ret
        exact ⟨ret_bool HZ.out.symm, rfl⟩

@[irreducible] noncomputable def goodB (L S : List (List Int)) : Bool := permRowsB L && permRowsB (turnT S)
theorem goodB_def (L S : List (List Int)) : goodB L S = (permRowsB L && permRowsB (turnT S)) := by unfold goodB; rfl

set_option maxRecDepth 100000 in
set_option maxHeartbeats 1000000 in
theorem l02Good_any (L S : List (List Int)) (v y : Value) (w : World) (hv : Rows w v L) (hy : Rows w y S) (hP : PairOk L S) :
    Calls Tryz.prog 53 #[.agg #[v, y]] w fun e w' => e = .returned (.bool (goodB L S)) ∧ Ext w w' := by
  obtain ⟨-, b, o, c, rfl, -⟩ := id hv
  obtain ⟨-, b2, o2, c2, rfl, -⟩ := id hy
  have hx0 : Ext w (w.alloc (.cells #[.slice (some ⟨b, o, none⟩) L.length c, .slice (some ⟨b2, o2, none⟩) S.length c2] 26)) := (Ext.refl _).alloc _
  have k0 := cell_new2a w (.slice (some ⟨b, o, none⟩) L.length c) (.slice (some ⟨b2, o2, none⟩) S.length c2) 26
  have k1 := cell_new2b w (.slice (some ⟨b, o, none⟩) L.length c) (.slice (some ⟨b2, o2, none⟩) S.length c2) 26
  have HV := Lib.hid hv
  have HY := Lib.hid hy
  have HP := Lib.hid hP
  have r1 := Lib.hid (show ∀ x, x < L.length → 1 ≤ (row L x).length ∧ (row L x).length ≤ 12 from fun x hx => by rw [hP.rowL hx]; exact ⟨by omega, hP.l.2.1⟩)
  have r2 := Lib.hid (show ∀ x, x < (turnT S).length → 1 ≤ (row (turnT S) x).length ∧ (row (turnT S) x).length ≤ 12 from fun x hx => by rw [length_turnT] at hx; rw [length_row_turnT S x hx]; exact ⟨by omega, hP.s.2.1⟩)
  clear hv hy hP
  rw [goodB_def]
  go_enter Tryz.func53, Tryz.ntmps53
  go_wp2_with fail
  generalize (w.alloc (.cells #[.slice (some ⟨b, o, none⟩) L.length c, .slice (some ⟨b2, o2, none⟩) S.length c2] 26)) = w1 at *
  refine (l01Rows_any L _ _ (HV.out.ext hx0) r1.out).mono ?_
  rintro e w2 ⟨rfl, rfl⟩
  cases hB : permRowsB L with
  | false =>
    go_wp2
    go_ret
    exact ⟨ret_bool (by rw [hB]; rfl), hx0⟩
  | true =>
    go_wp2_with (first
      | (go_at_call 96; refine (l01Rows_any (turnT S) _ _ hoA r2.out).mono ?_; rintro e w4 ⟨rfl, rfl⟩)
      | (go_at_call 97; refine (l01Turn_any S _ _ (HY.out.ext hx0) HP.out.s).mono ?_; rintro e w3 ⟨vA, rfl, hoA, hxA⟩))
    go_ret
    exact ⟨ret_bool (by rw [hB]; rfl), hx0.trans hxA⟩

set_option maxRecDepth 100000 in
set_option maxHeartbeats 4000000 in
theorem l02Twice_any (L S : List (List Int)) (v y : Value) (w : World) (hv : Rows w v L) (hy : Rows w y S) (hO : PairOk L S) :
    Calls Tryz.prog 54 #[.agg #[v, y]] w fun e w' => e = .returned (.bool (invB L.length (mulN L) (mulN S))) ∧ Ext w w' := by
  obtain ⟨-, b, o, c, rfl, hvc⟩ := id hv
  obtain ⟨-, b2, o2, c2, rfl, hyc⟩ := id hy
  have h12 := hO.l.2.1
  have HSL := Lib.hid hO.len
  have HLR := Lib.hid (fun x (hx : x < L.length) => hO.rowL hx)
  have HSR := Lib.hid (fun x (hx : x < L.length) => hO.rowS hx)
  rw [hO.len]
  have HLN := Lib.hid (fun x y (hx : x < L.length) (hy : y < L.length) => hO.ln hx hy)
  have HSN := Lib.hid (fun x y (hx : x < L.length) (hy : y < L.length) => hO.sn hx hy)
  have HIY := Lib.hid (@invB_yes L.length (mulN L) (mulN S))
  have HIN := Lib.hid (fun x y (hx : x < L.length) (hy : y < L.length) => @invB_no L.length (mulN L) (mulN S) x y hx hy)
  have hx0 : Ext w (w.alloc (.cells #[.slice (some ⟨b, o, none⟩) L.length c, .slice (some ⟨b2, o2, none⟩) L.length c2] 26)) := (Ext.refl _).alloc _
  have k0 := cell_new2a w (.slice (some ⟨b, o, none⟩) L.length c) (.slice (some ⟨b2, o2, none⟩) L.length c2) 26
  have k1 := cell_new2b w (.slice (some ⟨b, o, none⟩) L.length c) (.slice (some ⟨b2, o2, none⟩) L.length c2) 26
  have HV := Lib.hid (hvc.ext hx0)
  have HY := Lib.hid (hyc.ext hx0)
  clear hv hy hvc hyc hO
  obtain ⟨I, hI⟩ : ∃ I, I = invB L.length (mulN L) (mulN S) := ⟨_, rfl⟩
  rw [← hI] at HIY HIN ⊢
  obtain ⟨n, hn⟩ : ∃ n, n = L.length := ⟨_, rfl⟩
  rw [← hn] at h12 HSL HLR HSR HLN HSN hx0 k0 k1 HV HY HIY HIN ⊢
  have HN := Lib.hid hn
  clear hn hI
  go_enter Tryz.func54, Tryz.ntmps54
  go_wp2_with fail
  generalize (w.alloc (.cells #[.slice (some ⟨b, o, none⟩) n c, .slice (some ⟨b2, o2, none⟩) n c2] 26)) = w1 at *
  go_loopw [3] (fun i wr => ∃ x : Nat, x ≤ n ∧ i = .int .i64 x ∧ (∀ a, a < x → ∀ d, d < n → InvAt (mulN L) (mulN S) a d) ∧ Drawn w1 wr) (fun i _ => n - (intOf i).toNat)
  case atStart => exact ⟨0, Nat.zero_le _, rfl, fun a ha => absurd ha (Nat.not_lt_zero _), Drawn.refl _⟩
  case round =>
    obtain ⟨x, hx, rfl, hp, hd⟩ := hrel
    have HP := Lib.hid hp
    have HD := Lib.hid hd
    clear hp hd
    have b00 := HD.out.ext.cell k0
    by_cases hxl : x < n
    case neg =>
      have hxi : ¬ (x : Int) < (n : Int) := by omega
      have HI := Lib.hid (HIY.out (fun a ha d hd => HP.out a (by omega) d hd))
      go_wp2
      go_ret
      exact ⟨ret_bool HI.out.symm, hx0.trans HD.out.ext⟩
    case pos =>
      have hxi : (x : Int) < (n : Int) := by omega
      go_wp2_with fail
      obtain ⟨w2, rfl⟩ : ∃ z : World, z = wr := ⟨_, rfl⟩
      go_loopw [4] (fun i wr => ∃ y : Nat, y ≤ n ∧ i = .int .i64 y ∧ (∀ d, d < y → InvAt (mulN L) (mulN S) x d) ∧ Drawn w2 wr) (fun i _ => n - (intOf i).toNat)
      case atStart => exact ⟨0, Nat.zero_le _, rfl, fun a ha => absurd ha (Nat.not_lt_zero _), Drawn.refl _⟩
      case round =>
        obtain ⟨y, hy, rfl, hq, hd2⟩ := hrel
        have HQ := Lib.hid hq
        have HD2 := Lib.hid hd2
        clear hq hd2
        have HDD := Lib.hid (HD.out.trans HD2.out)
        have b0 := HDD.out.ext.cell k0
        have b1 := HDD.out.ext.cell k1
        by_cases hyl : y < n
        case neg =>
          have hyi : ¬ (y : Int) < (n : Int) := by omega
          have HZ := Lib.hid (show ∀ a, a < x + 1 → ∀ d, d < n → InvAt (mulN L) (mulN S) a d from fun a ha d hd => by
            rcases Nat.lt_succ_iff_lt_or_eq.1 ha with h | h
            · exact HP.out a h d hd
            · rw [h]; exact HQ.out d (by omega))
          go_wp2
          go_roundw
          case rel => exact ⟨x + 1, by omega, by go_num, HZ.out, HD.out.trans HD2.out⟩
          case measure => simp [intOf]; omega
        case pos =>
          have hyi : (y : Int) < (n : Int) := by omega
          have hL := HLN.out x y hxl hyl
          have hS := HSN.out x y hxl hyl
          obtain ⟨d1, s1, m1, r1, i1, n1⟩ := (HV.out.ext HDD.out.ext).get (i := x) (by rw [← HN.out]; exact hxl)
          rw [HLR.out x hxl] at r1
          have eL := i1.ent (HLR.out x hxl) (y := y) hyl
          obtain ⟨f1, g1, j1, t1, u1, v1⟩ := (HY.out.ext HDD.out.ext).get (i := x) (by rw [HSL.out]; exact hxl)
          have eS := u1.ent (HSR.out x hxl) (y := y) hyl
          rw [HSR.out x hxl] at t1
          rw [hL.1] at eL
          rw [hS.1] at eS
          obtain ⟨A, hA⟩ : ∃ q, q = mulN L x y := ⟨_, rfl⟩
          obtain ⟨B, hB⟩ : ∃ q, q = mulN S x y := ⟨_, rfl⟩
          rw [← hA] at eL hL
          rw [← hB] at eS hS
          have hAl := hL.2
          have hBl := hS.2
          have HA := Lib.hid hA
          have HB := Lib.hid hB
          have hL2 := HLN.out A B hAl hBl
          have hS2 := HSN.out A B hAl hBl
          obtain ⟨d2, s2, m2, r2, i2, n2⟩ := (HV.out.ext HDD.out.ext).get (i := A) (by rw [← HN.out]; exact hAl)
          obtain ⟨f2, g2, j2, t2, u2, v2⟩ := (HY.out.ext HDD.out.ext).get (i := A) (by rw [HSL.out]; exact hAl)
          have eL2 := i2.ent (HLR.out A hAl) (y := B) hBl
          have eS2 := u2.ent (HSR.out A hAl) (y := B) hBl
          rw [HLR.out A hAl] at r2
          rw [HSR.out A hAl] at t2
          rw [hL2.1] at eL2
          rw [hS2.1] at eS2
          clear hL hS hL2 hS2 i1 i2 u1 u2 n1 n2 v1 v2 hA hB
          by_cases h1 : mulN L A B = x
          case neg =>
            have HF := Lib.hid (HIN.out x y hxl hyl (fun h => h1 (by rw [HA.out, HB.out]; exact h.1)))
            have h1b : ((mulN L A B : Nat) : Int) ≠ (x : Int) := by omega
            have h1c : (((mulN L A B : Nat) : Int) != (x : Int)) = true := by simp; omega
            go_wp2_with fail
            go_quiet (fail)
            go_wp2
            go_ret
            exact ⟨ret_bool HF.out.symm, hx0.trans (HDD.out.ext.trans (by (repeat first | (with_reducible exact Ext.refl _) | (with_reducible assumption) | (with_reducible apply Ext.drew) | (with_reducible apply kx_drewN) | (with_reducible apply kx_alloc) | ((with_reducible refine kx_set ?_ ?_); (first | (simp only []; omega) | (simp; omega) | (focus (simp; done)))) )))⟩
          case pos =>
            rw [h1] at eL2
            by_cases h2 : mulN S A B = y
            case neg =>
              have HF := Lib.hid (HIN.out x y hxl hyl (fun h => h2 (by rw [HA.out, HB.out]; exact h.2)))
              have h1b : ((mulN S A B : Nat) : Int) ≠ (y : Int) := by omega
              have h1c : (((mulN S A B : Nat) : Int) != (y : Int)) = true := by simp; omega
              go_wp2_with fail
              go_quiet (fail)
              go_wp2
              go_ret
              exact ⟨ret_bool HF.out.symm, hx0.trans (HDD.out.ext.trans (by (repeat first | (with_reducible exact Ext.refl _) | (with_reducible assumption) | (with_reducible apply Ext.drew) | (with_reducible apply kx_drewN) | (with_reducible apply kx_alloc) | ((with_reducible refine kx_set ?_ ?_); (first | (simp only []; omega) | (simp; omega) | (focus (simp; done)))) )))⟩
            case pos =>
              rw [h2] at eS2
              have HZ := Lib.hid (show ∀ d, d < y + 1 → InvAt (mulN L) (mulN S) x d from fun d hd => by
                rcases Nat.lt_succ_iff_lt_or_eq.1 hd with h | h
                · exact HQ.out d h
                · rw [h]
                  unfold InvAt
                  rw [← HA.out, ← HB.out]
                  exact ⟨h1, h2⟩)
              go_wp2_with fail
              go_quiet (fail)
              go_wp2
              go_roundw
              case rel => exact ⟨y + 1, by omega, by go_num, HZ.out, HD2.out.trans ((Drawn.refl _).drewN _)⟩
              case measure => simp [intOf]; omega
end Go.Proofs.YtjfjpngajboidaaGreat
