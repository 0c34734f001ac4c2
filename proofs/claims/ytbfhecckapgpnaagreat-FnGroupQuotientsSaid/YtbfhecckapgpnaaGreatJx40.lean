/-
  What the laws of quotients draw.
-/
import Derived.Test.YtbfhecckapgpnaaGreatProg
import Derived.Deep.DeepCutAuto
import Derived.Deep.RegionWith
import Derived.BigQuiet
import Derived.Maps.AppendAt
import Derived.Test.YtbfhecckapgpnaaGreatJx0
import Derived.Test.YtbfhecckapgpnaaGreatJx1
import Derived.Test.YtbfhecckapgpnaaGreatJx2
import Derived.Test.YtbfhecckapgpnaaGreatJx8
import Derived.Test.YtbfhecckapgpnaaGreatJx9
import Derived.Test.YtbfhecckapgpnaaGreatJx7
import Derived.Test.YtbfhecckapgpnaaGreatJx3
import Derived.Test.YtbfhecckapgpnaaGreatJx22
import Derived.Test.YtbfhecckapgpnaaGreatJx5
import Derived.Test.YtbfhecckapgpnaaGreatJx12
import Derived.Test.YtbfhecckapgpnaaGreatJx29
import Derived.Test.YtbfhecckapgpnaaGreatJx28
import Derived.Test.YtbfhecckapgpnaaGreatJx4
import Derived.Test.YtbfhecckapgpnaaGreatJx30
import Derived.Test.YtbfhecckapgpnaaGreatJx38
import Derived.Test.YtbfhecckapgpnaaGreatJx39
namespace Go.Proofs.YtbfhecckapgpnaaGreat
set_option linter.unusedVariables false
set_option linter.unusedSimpArgs false
open Go.RowKit
attribute [local go_sem ↓] Go.wp_at_zero Go.wp_at_succ
open Go.Deep

/-- a number and a list of permutations -/
def DrawnGP (w : World) (e : Ending) (w' : World) : Prop :=
  ∃ (n : Int) (v : Value) (gens : List (List Int)), e = .returned (.tuple #[.int .i64 n, v]) ∧ Rows w' v gens ∧ Ext w w'
theorem GrowT.touchS {e base S : Nat} {w w' : World} {v : Value} {t : List (List Int)} (h : GrowT e base w v t) (hs : Src S w) (m : Touch S (S + 1) w w') (hb : S < base) (hr : ∀ i, i < t.length → 0 < (row t i).length) : GrowT e base w' v t := by
  obtain ⟨xs, h1, h2⟩ := h
  refine ⟨xs, ownsRow_block h1 (fun g hg => by have := h1.lt g hg; exact m.block g this.2 (by omega)), fun i hi => ?_⟩
  obtain ⟨g0, b, c, g1, g2⟩ := h2 i hi
  refine ⟨g0, b, c, g1, fun j hj => m.cell (g2 j hj) ?_⟩
  have : b ≠ S := by
    rintro rfl
    obtain ⟨a, L, c', i', h', -, -, -, -, c0, -⟩ := hs
    have := g2 0 (hr i hi)
    rw [Nat.zero_add, c0] at this
    simp at this
  simp only []
  omega

theorem GrowT.blk {e base : Nat} {w : World} {v : Value} {t : List (List Int)} (h : GrowT e base w v t) (hv : v ≠ .slice none 0 0) : ∃ g c, v = .slice (some ⟨g, 0, none⟩) t.length c ∧ base ≤ g ∧ g < w.heap.size := by
  obtain ⟨xs, h1, -⟩ := h
  rcases id h1.2 with ⟨rfl, _⟩ | ⟨g, cap, cur, rfl, hb, hg, hnc, _⟩
  · exact absurd rfl hv
  · exact ⟨g, cap, rfl, hb, (h1.lt g rfl).2⟩
theorem grown_touch {w w' : World} {g : Nat} (h : w.grownBy w' (some g)) : Touch g (g + 1) w w' := ⟨h.os, h.tape, h.output, h.size, fun k hk hn => h.block k hk (fun e => by have := Option.some.inj e; omega)⟩
theorem row_app_pos {gens : List (List Int)} {p : List Int} (h : ∀ i, i < gens.length → 0 < (row gens i).length) (hp : 0 < p.length) : ∀ i, i < (gens ++ [p]).length → 0 < (row (gens ++ [p]) i).length := fun i hi => by
  rw [List.length_append] at hi
  by_cases e : i < gens.length
  · rw [row_eq]; simp [List.getD, List.getElem?_append_left e]
    have := h i e
    rw [row_eq] at this
    simpa [List.getD, e] using this
  · have : i = gens.length := by simp at hi; omega
    subst this
    rw [row_eq]; simp [List.getD]; exact hp

theorem l01Pick_any (S : Nat) (l : List Int) (v : Value) (w : World) (hv : Ints w v l) (hs : Src S w) (h1 : 1 ≤ l.length) (hk : ∀ w', Touch S (S + 1) w w' → Ints w' v l) :
    Calls Tryz.prog 40 #[.pointer (some ⟨S, 0, none⟩), v] w fun e w' => ∃ r : Int, e = .returned (.int .i64 r) ∧ Src S w' ∧ Touch S (S + 1) w w' := by
  obtain ⟨b, o, c, rfl⟩ : ∃ b o c, v = .slice (some ⟨b, o, none⟩) l.length c := by
    obtain ⟨-, b, o, c, e, -⟩ := hv
    exact ⟨b, o, c, e⟩
  have HK := Lib.hid hk
  clear hk
  go_enter Tryz.func40, Tryz.ntmps40
  go_wp2_with fail
  refine (l01Next_any S _ _ hs).mono ?_
  rintro e w1 ⟨r, rfl, r1, r2, -, hs1, hT1⟩
  obtain ⟨j, rfl⟩ := Int.eq_ofNat_of_zero_le r1
  have hj : j < l.length := by have := r2 (by omega); omega
  obtain ⟨-, b', o', c', e', hi⟩ := HK.out w1 hT1
  cases e'
  have e1 := hi j hj
  have HT := Lib.hid hT1
  clear hi hT1 r1 r2
  go_wp2
  go_ret
  exact ⟨_, rfl, hs1, HT.out⟩

set_option maxRecDepth 100000 in
set_option maxHeartbeats 1000000 in
theorem DrawGroupOfPermutations_any (bs : List Int) (v : Value) (w : World) (hv : BytesR w v bs) (hl : bs.length ≤ 4096) :
    Calls Tryz.prog 14 #[v] w (DrawnGP w) := by
  go_enter Tryz.func14, Tryz.ntmps14
  go_wp2_with fail
  refine (l01From_any bs _ _ hv hl).mono ?_
  rintro e w1 ⟨S, rfl, hS, hs, hx1⟩
  go_wp2_with fail
  refine (l01Next_any S 5 _ hs).mono ?_
  rintro e w2 ⟨r, rfl, r1, r2, -, hs2, hT2⟩
  have r3 := r2 (by omega)
  have hX2 := hx1.touch hT2 hS
  obtain ⟨n, hn⟩ : ∃ n : Nat, (n : Int) = 1 + r := ⟨(1 + r).toNat, by omega⟩
  have hn1 : 1 ≤ n ∧ n ≤ 5 := by omega
  have HN := Lib.hid hn
  clear r2 hs hT2 hx1
  have hxl : Ext w2 (w2.alloc (.cells #[] 46)) := (Ext.refl _).alloc _
  have hslt := hs2.lt
  have HG0 := Lib.hid (GrowT.lit (e := 46) (base := w2.heap.size) (w := w2) (Nat.le_refl _))
  have hs3 := hs2.ext hxl
  have hX3 := hX2.trans hxl
  have z3 : w2.heap.size + 1 ≤ (w2.alloc (.cells #[] 46)).heap.size := by simp
  clear hs2 hX2 hxl
  go_wp2_with fail
  rw [← HN.out]
  generalize (w2.alloc (.cells #[] 46)) = w3 at *
  refine (l01Next_any S 3 _ hs3).mono ?_
  rintro e w4 ⟨k0, rfl, k1, k2, -, hs4, hT4⟩
  have k3 := k2 (by omega)
  have hX4 := hX3.touch hT4 hS
  have z4 : w3.heap.size ≤ w4.heap.size := hT4.size
  have HG4 := Lib.hid (HG0.out.touchS hs3 hT4 (by omega) (fun i hi => by simp at hi))
  obtain ⟨K, rfl⟩ := Int.eq_ofNat_of_zero_le k1
  clear k2 hs3 hT4 hX3 HG0 hn r1 r3
  have z0 : w.heap.size ≤ w2.heap.size := by have := hX4.size; omega
  go_wp2
  go_loopw [6, 7] (fun v i wr => ∃ (j : Nat) (gens : List (List Int)), j ≤ K ∧ i = .int .i64 j ∧ gens.length + j ≤ 3 ∧ GrowT 46 w2.heap.size wr v gens ∧ v ≠ .slice none 0 0 ∧ (∀ i, i < gens.length → 0 < (row gens i).length) ∧ Src S wr ∧ Ext w wr ∧ w4.heap.size ≤ wr.heap.size) (fun _ i _ => (intOf i).toNat)
  case atStart => exact ⟨K, [], Nat.le_refl _, rfl, by simp; omega, HG4.out, by simp, fun i hi => by simp at hi, hs4, hX4, Nat.le_refl _⟩
  case round =>
    clear HG4 hs4 hX4
    obtain ⟨j, gens, hj, rfl, hgl3, hg, hvn, hpos, hs, hX, hsz⟩ := hrel
    have HG := Lib.hid hg
    have HVN := Lib.hid hvn
    have HPOS := Lib.hid hpos
    have HS := Lib.hid hs
    have HX := Lib.hid hX
    clear hg hvn hpos hs hX
    by_cases hj0 : 0 < j
    case pos =>
      obtain ⟨i0, rfl⟩ : ∃ i0, j = i0 + 1 := ⟨j - 1, by omega⟩
      go_wp2_with fail
      have hbase := HG.out.blk HVN.out
      obtain ⟨g, cap, rfl, hgb, hgl⟩ := hbase
      refine (l03DrawPerm_any S n _ HS.out (by omega)).mono ?_
      rintro e wp ⟨p, pb, pc, rfl, hrp, hop, hsp, hTp⟩
      have HPL := Lib.hid hrp.1
      have HOP := Lib.hid hop
      have hpb := hop.1
      have hpb2 := hop.2.1
      have zp : wr.heap.size ≤ wp.heap.size := hTp.size
      have hxb := ext_box wp (.slice (some ⟨pb, 0, none⟩) n pc) 46
      have HGB := Lib.hid ((HG.out.touchS HS.out hTp (by omega) HPOS.out).ext hxb)
      have HSB := Lib.hid (hsp.ext hxb)
      have HXB := Lib.hid ((HX.out.touch hTp hS).trans hxb)
      have HIB := Lib.hid (hop.2.2.1.ext hxb)
      have HPP := Lib.hid (row_app_pos HPOS.out (p := p) (by rw [HPL.out]; omega))
      have zb : wp.heap.size + 1 ≤ (wp.alloc (.cells #[.slice (some ⟨pb, 0, none⟩) n pc] 46)).heap.size := by simp
      have HZ := Lib.hid zb
      clear hrp hop hsp hTp hxb HS HG HX HPOS zb
      go_wp2_with (at_builtin; refine wpList_append_row rfl _ _ 24 46 rfl Tryz.underlying24 infoSl w2.heap.size (.slice (some ⟨g, 0, none⟩) gens.length cap) gens rfl HGB.out wp.heap.size pb pc p rfl (by rw [HPL.out]; exact cell_new _ _ _) HIB.out (by rw [HPL.out]; omega) (by intro e; have h : pb = g := Option.some.inj e; omega) (by omega) (by have := HZ.out; omega) ?_)
      intro v' wn hg' hgr' hv'
      have HVN' := Lib.hid hv'
      have HG' := Lib.hid hg'
      have hTg := grown_touch (g := g) hgr'
      have HS' := Lib.hid (HSB.out.touch2 hTg (by omega))
      have HX' := Lib.hid (HXB.out.touch hTg (by omega))
      have zn : wp.heap.size + 1 ≤ wn.heap.size := Nat.le_trans HZ.out hgr'.size
      clear hg' hgr' hv' hTg HGB HSB HXB HIB
      go_wp2
      go_roundw
      case rel => exact ⟨i0, gens ++ [p], by omega, by go_num, by simp; omega, HG'.out, HVN'.out, HPP.out, HS'.out, HX'.out, by omega⟩
      case measure => first | (simp [intOf]; done) | (simp [intOf]; omega)
    case neg =>
      obtain rfl : j = 0 := by omega
      go_wp2_with fail
      refine (l01Next_any S 16 _ HS.out).mono ?_
      rintro e w5 ⟨r5, rfl, q1, q2, -, hs5, hT5⟩
      have hg5 := HG.out.touchS HS.out hT5 (by omega) HPOS.out
      have hX5 := HX.out.touch hT5 hS
      have z5 : wr.heap.size ≤ w5.heap.size := hT5.size
      replace HG := Lib.hid hg5
      replace HS := Lib.hid hs5
      replace HX := Lib.hid hX5
      clear hg5 hs5 hX5 hT5 q2
      by_cases h0 : r5 = 0
      case pos =>
        subst h0
        go_wp2_with fail
        rw [show ((n : Int) + 1) = ((n + 1 : Nat) : Int) by omega]
        have hbase := HG.out.blk HVN.out
        obtain ⟨g, cap, rfl, hgb, hgl⟩ := hbase
        refine (l03DrawPerm_any S (n + 1) _ HS.out (by omega)).mono ?_
        rintro e wp ⟨p, pb, pc, rfl, hrp, hop, hsp, hTp⟩
        have HPL := Lib.hid hrp.1
        have HOP := Lib.hid hop
        have hpb := hop.1
        have hpb2 := hop.2.1
        have zp : w5.heap.size ≤ wp.heap.size := hTp.size
        have hxb := ext_box wp (.slice (some ⟨pb, 0, none⟩) (n + 1) pc) 46
        have HGB := Lib.hid ((HG.out.touchS HS.out hTp (by omega) HPOS.out).ext hxb)
        have HSB := Lib.hid (hsp.ext hxb)
        have HXB := Lib.hid ((HX.out.touch hTp hS).trans hxb)
        have HIB := Lib.hid (hop.2.2.1.ext hxb)
        have HPP := Lib.hid (row_app_pos HPOS.out (p := p) (by rw [HPL.out]; omega))
        have zb : wp.heap.size + 1 ≤ (wp.alloc (.cells #[.slice (some ⟨pb, 0, none⟩) (n + 1) pc] 46)).heap.size := by simp
        have HZ := Lib.hid zb
        clear hrp hop hsp hTp hxb HS HG HX HPOS zb
        go_wp2_with (at_builtin; refine wpList_append_row rfl _ _ 24 46 rfl Tryz.underlying24 infoSl w2.heap.size (.slice (some ⟨g, 0, none⟩) gens.length cap) gens rfl HGB.out wp.heap.size pb pc p rfl (by rw [HPL.out]; exact cell_new _ _ _) HIB.out (by rw [HPL.out]; omega) (by intro e; have h : pb = g := Option.some.inj e; omega) (by omega) (by have := HZ.out; omega) ?_)
        intro v' wn hg' hgr' hv'
        have HVN' := Lib.hid hv'
        have HG' := Lib.hid hg'
        have hTg := grown_touch (g := g) hgr'
        have HS' := Lib.hid (HSB.out.touch2 hTg (by omega))
        have HX' := Lib.hid (HXB.out.touch hTg (by omega))
        have zn : wp.heap.size + 1 ≤ wn.heap.size := Nat.le_trans HZ.out hgr'.size
        clear hg' hgr' hv' hTg HGB HSB HXB HIB
        go_wp2
        go_ret2
        exact ⟨_, _, _, rfl, HG'.out.rows (by simp; omega) HVN'.out, HX'.out⟩
      case neg =>
        by_cases h1 : r5 = 1
        case pos =>
          subst h1
          clear h0
          have hxb : Ext w5 (w5.alloc (.cells #[.int .i64 0, .int .i64 13] 2)) := (Ext.refl _).alloc _
          have hib : IntsAt (w5.alloc (.cells #[.int .i64 0, .int .i64 13] 2)) w5.heap.size 0 [0, 13] := fun i hi => by
            rw [ix_eq]
            match i, hi with
            | 0, _ => simp [go_sem]
            | 1, _ => simp [go_sem]
          have HS6 := Lib.hid (HS.out.ext hxb)
          have HG6 := Lib.hid (HG.out.ext hxb)
          have HX6 := Lib.hid (HX.out.trans hxb)
          have HI6 := Lib.hid hib
          have z6 : w5.heap.size + 1 ≤ (w5.alloc (.cells #[.int .i64 0, .int .i64 13] 2)).heap.size := by simp
          clear hxb hib
          go_wp2_with fail
          generalize (w5.alloc (.cells #[.int .i64 0, .int .i64 13] 2)) = w6 at *
          have hne := HS6.out.lt
          refine (l01Pick_any S [0, 13] _ _ (HI6.out.ints (by simp) 2) HS6.out (by simp) (fun w' hT => ?_)).mono ?_
          · refine IntsAt.ints (fun i hi => hT.cell (HI6.out i hi) ?_) (by simp) 2
            simp only []
            omega
          · rintro e w7 ⟨r7, rfl, hs7, hT7⟩
            have hg7 := HG6.out.touchS HS6.out hT7 (by omega) HPOS.out
            have HR := Lib.hid (hg7.rows (by omega) HVN.out)
            have HX7 := Lib.hid (HX6.out.touch hT7 hS)
            clear hg7
            go_wp2
            go_ret2
            exact ⟨_, _, _, rfl, HR.out, HX7.out⟩
        case neg =>
          have HR := Lib.hid (HG.out.rows (by omega) HVN.out)
          go_wp2
          go_ret2
          exact ⟨_, _, _, rfl, HR.out, HX.out⟩

set_option maxRecDepth 100000 in
set_option maxHeartbeats 1000000 in
theorem DrawIsNormalIn_any (bs : List Int) (v : Value) (w : World) (hv : BytesR w v bs) (hl : bs.length ≤ 4096) :
    Calls Tryz.prog 26 #[v] w (DrawnGI w) := by
  have hx0 := ext_box w (.slice none 0 0) 26
  have b0 := cell_new w (.slice none 0 0) 26
  have q0 : (w.alloc (.cells #[.slice none 0 0] 26)).frozen? ⟨w.heap.size, 0, none⟩ = false := by simp
  have z0 : w.heap.size + 1 ≤ (w.alloc (.cells #[.slice none 0 0] 26)).heap.size := by simp
  go_enter Tryz.func26, Tryz.ntmps26
  go_wp2_with fail
  generalize (w.alloc (.cells #[.slice none 0 0] 26)) = w0 at *
  refine (l01From_any bs _ _ (hv.ext hx0) hl).mono ?_
  rintro e w1 ⟨S, rfl, hS, hs, hx1⟩
  have b1 := hx1.cell b0
  have q1 := hx1.free q0 (by simp only []; omega)
  have hX1 := hx0.trans hx1
  have z1 := hx1.size
  clear hx0 b0 q0 hx1 hv
  go_wp2_with fail
  refine (l10DrawAny_any S 12 _ hs (by omega) (by omega)).mono ?_
  rintro e w2 ⟨v2, T, rfl, hr, hl2, hs2, hT2⟩
  have b2 := hT2.cell b1 (.inl (by simp only []; omega))
  have q2 : w2.frozen? ⟨w.heap.size, 0, none⟩ = false := by rw [World.frozen?_of_block (w := w1) (a := ⟨w.heap.size, 0, none⟩) (hT2.block w.heap.size (by omega) (by omega))]; exact q1
  have hX2 := hX1.touch hT2 (by omega)
  have z2 := hT2.size
  clear b1 q1 hX1 hs hT2
  obtain ⟨bb, oo, cc, rfl⟩ := Rows.shape hr.rows
  have hxg := ext_box w2 (.slice (some ⟨bb, oo, none⟩) T.length cc) 26
  have g3 := cell_new w2 (.slice (some ⟨bb, oo, none⟩) T.length cc) 26
  have b3 := hxg.cell b2
  have q3 := hxg.free q2 (by simp only []; omega)
  have z3 : w2.heap.size + 1 ≤ (w2.alloc (.cells #[.slice (some ⟨bb, oo, none⟩) T.length cc] 26)).heap.size := by simp
  have hr3 := hr.ext hxg
  have hs3 := hs2.ext hxg
  have hX3 := hX2.trans hxg
  have hgn : w2.heap.size ≠ S := by have := hs2.lt; omega
  go_wp2_with fail
  generalize (w2.alloc (.cells #[.slice (some ⟨bb, oo, none⟩) T.length cc] 26)) = w3 at *
  clear b2 q2 hr hs2 hX2 hxg
  refine (l10Is_any T _ _ hr3.rows).mono ?_
  rintro e w4 ⟨rfl, hx⟩
  have HR := Lib.hid (hr3.ext hx)
  have HX := Lib.hid (hX3.trans hx)
  have HS := Lib.hid (hs3.ext hx)
  replace g3 := hx.cell g3
  replace b3 := hx.cell b3
  replace q3 := hx.free q3 (by simp only []; omega)
  have z4 : w3.heap.size ≤ w4.heap.size := hx.size
  clear hr3 hX3 hs3 hx
  cases hg : groupB T with
  | false =>
    go_wp2
    go_region_with (first
      | (go_at_call 38; refine (l01Next_any S _ _ (HS.out.ext (by (repeat first | (with_reducible exact Ext.refl _) | (with_reducible assumption) | (with_reducible apply Ext.drew) | (with_reducible apply kx_drewN) | (with_reducible apply kx_alloc) | ((with_reducible refine kx_set ?_ ?_); (first | (simp only []; omega) | (simp; omega) | (focus (simp; done)))) )))).mono ?_; rintro e wA ⟨rA, rfl, a1, a2, -, hsA, hTA⟩; have gA := hTA.cell (show World.cell? _ _ = _ from g3) (by simp only []; omega); have bA := hTA.cell (show World.cell? _ _ = _ from b3) (by simp only []; omega); have qA : wA.frozen? ⟨w.heap.size, 0, none⟩ = false := (by rw [World.frozen?_of_block (a := ⟨w.heap.size, 0, none⟩) (hTA.block w.heap.size (by first | omega | (simp [size_drew]; omega)) (by omega))]; exact q3); clear a2))
    all_goals
      go_wp2_with fail
      have b9 := kc_same (u := .slice (some ⟨bb, oo, none⟩) T.length cc) bA
      refine bodyPost_ret (v := .tuple #[.agg #[.slice (some ⟨bb, oo, none⟩) T.length cc], .int .i64 (IntKind.i64.wrap (rA - 1))]) (by simp [results, Tryz.results26, go_sem, b9]) rfl ⟨_, T, _, rfl, ?_, hl2, ?_⟩
      · exact ((HR.out.touch (show Touch S (S + 1) w4 wA by first | exact hTA | exact Touch.ofDrew hTA)).setNil bA _).rows
      · exact (HX.out.touch (show Touch S (S + 1) w4 wA by first | exact hTA | exact Touch.ofDrew hTA) (by omega)).setNew (Nat.le_refl _) _
  | true =>
    have HG := Lib.hid (groupB_iff.1 hg)
    go_wp2_with fail
    refine (l01Next_any S 6 _ HS.out).mono ?_
    rintro e w5 ⟨r, rfl, r1, -, -, hs5, hT5⟩
    replace HR := Lib.hid (HR.out.touch hT5)
    replace HX := Lib.hid (HX.out.touch hT5 (by omega))
    replace HS := Lib.hid hs5
    replace g3 := hT5.cell g3 (by simp only []; omega)
    replace b3 := hT5.cell b3 (by simp only []; omega)
    replace q3 : w5.frozen? ⟨w.heap.size, 0, none⟩ = false := (by rw [World.frozen?_of_block (w := w4) (a := ⟨w.heap.size, 0, none⟩) (hT5.block w.heap.size (by omega) (by omega))]; exact q3)
    have z5 : w4.heap.size ≤ w5.heap.size := hT5.size
    clear hs5 hT5
    by_cases hr0 : 0 < r
    case neg =>
      go_wp2
      go_region_with (first
        | (go_at_call 38; refine (l01Next_any S _ _ (HS.out.ext (by (repeat first | (with_reducible exact Ext.refl _) | (with_reducible assumption) | (with_reducible apply Ext.drew) | (with_reducible apply kx_drewN) | (with_reducible apply kx_alloc) | ((with_reducible refine kx_set ?_ ?_); (first | (simp only []; omega) | (simp; omega) | (focus (simp; done)))) )))).mono ?_; rintro e wA ⟨rA, rfl, a1, a2, -, hsA, hTA⟩; have gA := hTA.cell (show World.cell? _ _ = _ from g3) (by simp only []; omega); have bA := hTA.cell (show World.cell? _ _ = _ from b3) (by simp only []; omega); have qA : wA.frozen? ⟨w.heap.size, 0, none⟩ = false := (by rw [World.frozen?_of_block (a := ⟨w.heap.size, 0, none⟩) (hTA.block w.heap.size (by first | omega | (simp [size_drew]; omega)) (by omega))]; exact q3); clear a2))
      all_goals
        go_wp2_with fail
        have b9 := kc_same (u := .slice (some ⟨bb, oo, none⟩) T.length cc) bA
        refine bodyPost_ret (v := .tuple #[.agg #[.slice (some ⟨bb, oo, none⟩) T.length cc], .int .i64 (IntKind.i64.wrap (rA - 1))]) (by simp [results, Tryz.results26, go_sem, b9]) rfl ⟨_, T, _, rfl, ?_, hl2, ?_⟩
        · exact ((HR.out.touch (show Touch S (S + 1) w5 wA by first | exact hTA | exact Touch.ofDrew hTA)).setNil bA _).rows
        · exact (HX.out.touch (show Touch S (S + 1) w5 wA by first | exact hTA | exact Touch.ofDrew hTA) (by omega)).setNew (Nat.le_refl _) _
    case pos =>
      have hsS5 : S < w5.heap.size := HS.out.lt
      go_wp2_with fail
      refine (l10Subgroups_any T _ _ HR.out.rows HG.out.1).mono ?_
      rintro e w6 ⟨sv, rfl, ho, hne, hx⟩
      replace HR := Lib.hid (HR.out.ext hx)
      replace HX := Lib.hid (HX.out.trans hx)
      replace HS := Lib.hid (HS.out.ext hx)
      replace g3 := hx.cell g3
      replace b3 := hx.cell b3
      replace q3 := hx.free q3 (by simp only []; omega)
      have z6 : w5.heap.size ≤ w6.heap.size := hx.size
      have hpos : 0 < (subsL T).length := List.length_pos_of_mem (cen_in HG.out)
      obtain ⟨hol, sa, sc, rfl, hoc⟩ := ho
      obtain ⟨sb, so, rfl, hso⟩ := hoc (ne_nil_of_lt hpos)
      have HI := Lib.hid hso.2.2.1
      have hsb := hso.1
      have hsS := HS.out.lt
      clear hx hso hoc hol hne
      go_wp2
      have hSb : sb ≠ S := by omega
      go_region_with (first
        | (go_at_call 38; refine (l01Next_any S _ _ (HS.out.ext (by (repeat first | (with_reducible exact Ext.refl _) | (with_reducible assumption) | (with_reducible apply Ext.drew) | (with_reducible apply kx_drewN) | (with_reducible apply kx_alloc) | ((with_reducible refine kx_set ?_ ?_); (first | (simp only []; omega) | (simp; omega) | (focus (simp; done)))) )))).mono ?_; rintro e wA ⟨rA, rfl, a1, a2, -, hsA, hTA⟩; obtain ⟨jA, rfl⟩ := Int.eq_ofNat_of_zero_le a1; have hjA : jA < (subsL T).length := (by have := a2 (by omega); omega); have eA := hTA.cell (show World.cell? _ _ = _ from HI.out jA hjA) (by simp only []; omega); have gA := hTA.cell (show World.cell? _ _ = _ from g3) (by simp only []; omega); have bA := hTA.cell (show World.cell? _ _ = _ from b3) (by simp only []; omega); have qA : wA.frozen? ⟨w.heap.size, 0, none⟩ = false := (by rw [World.frozen?_of_block (a := ⟨w.heap.size, 0, none⟩) (hTA.block w.heap.size (by first | omega | (simp [size_drew]; omega)) (by omega))]; exact q3); clear a2 a1))
      all_goals
        go_wp2_with fail
        have b9 := kc_same (u := .slice (some ⟨bb, oo, none⟩) T.length cc) bA
        refine bodyPost_ret (v := .tuple #[.agg #[.slice (some ⟨bb, oo, none⟩) T.length cc], .int .i64 (ix (subsL T) jA)]) (by simp [results, Tryz.results26, go_sem, b9]) rfl ⟨_, T, _, rfl, ?_, hl2, ?_⟩
        · exact ((HR.out.touch (show Touch S (S + 1) w6 wA by first | exact hTA | exact Touch.ofDrew hTA)).setNil bA _).rows
        · exact (HX.out.touch (show Touch S (S + 1) w6 wA by first | exact hTA | exact Touch.ofDrew hTA) (by omega)).setNew (Nat.le_refl _) _

set_option maxRecDepth 100000 in
set_option maxHeartbeats 1000000 in
theorem DrawQuotientGroup_any (bs : List Int) (v : Value) (w : World) (hv : BytesR w v bs) (hl : bs.length ≤ 4096) :
    Calls Tryz.prog 6 #[v] w (DrawnGI w) := by
  have hx0 := ext_box w (.slice none 0 0) 26
  have b0 := cell_new w (.slice none 0 0) 26
  have q0 : (w.alloc (.cells #[.slice none 0 0] 26)).frozen? ⟨w.heap.size, 0, none⟩ = false := by simp
  have z0 : w.heap.size + 1 ≤ (w.alloc (.cells #[.slice none 0 0] 26)).heap.size := by simp
  go_enter Tryz.func6, Tryz.ntmps6
  go_wp2_with fail
  generalize (w.alloc (.cells #[.slice none 0 0] 26)) = w0 at *
  refine (DrawIsNormalIn_any bs _ _ (hv.ext hx0) hl).mono ?_
  rintro e w2 ⟨v2, T, x, rfl, hr, hl2, hx1⟩
  have b2 := hx1.cell b0
  have q2 := hx1.free q0 (by simp only []; omega)
  have hX := hx0.trans hx1
  obtain ⟨bb, oo, cc, rfl⟩ := hr.shape
  go_wp2_with fail
  have b3 := kc_same (u := .slice (some ⟨bb, oo, none⟩) T.length cc) b2
  refine bodyPost_ret (v := .tuple #[.agg #[.slice (some ⟨bb, oo, none⟩) T.length cc], .int .i64 x]) (by simp [results, Tryz.results6, go_sem, b3]) rfl ⟨_, T, _, rfl, hr.setNil b2 _, hl2, hX.setNew (Nat.le_refl _) _⟩
end Go.Proofs.YtbfhecckapgpnaaGreat
