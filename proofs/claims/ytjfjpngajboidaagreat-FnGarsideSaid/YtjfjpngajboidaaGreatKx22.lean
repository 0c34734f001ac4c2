/-
  Draws of the reference: l01Own2 once more (rows that may be written into), l02Involutive.
-/
import Derived.Test.YtjfjpngajboidaaGreatKx21
namespace Go.Proofs.YtjfjpngajboidaaGreat
set_option linter.unusedVariables false
set_option linter.unusedSimpArgs false
open Go.RowKit
open Go.Deep
attribute [local go_sem ↓] Go.wp_at_zero Go.wp_at_succ

theorem ListF.setOther {e lo : Nat} {D : Nat → Prop} {w : World} {v : Value} {xs : List Value} {t : List (List Int)} (h : ListF e lo D w v xs t) {a : Addr} (ha : a.block < lo) (u : Value) : ListF e lo D (w.setCell a u) v xs t := by
  have hg : w.grownBy (w.setCell a u) (some a.block) := ⟨rfl, rfl, rfl, by simp, fun k hk hne => Below.heap_setCell _ _ _ _ (fun e => hne (by rw [e]))⟩
  exact h.grown hg (fun k hk e => by have := (h.lt k hk).1; have := Option.some.inj e; omega) (fun k hk e => by have := Option.some.inj e; omega)
theorem ListF.lit {e lo : Nat} {w : World} (hb : lo ≤ w.heap.size) : ListF e lo (fun _ => False) (w.alloc (.cells #[] e)) (.slice (some ⟨w.heap.size, 0, none⟩) 0 0) [] [] :=
  ⟨World.ownsRow_made w #[] 0 hb (Nat.zero_le _) rfl, rfl, fun i hi => by simp at hi, fun _ _ h => h⟩

set_option maxRecDepth 100000 in
set_option maxHeartbeats 1000000 in
theorem l01Own2_f (t : List (List Int)) (v : Value) (w : World) (hv : Rows w v t) (hp : 0 < t.length) :
    Calls Tryz.prog 99 #[v] w fun e w' => ∃ b c, e = .returned (.slice (some ⟨b, 0, none⟩) t.length c) ∧ TabF w.heap.size w' (.slice (some ⟨b, 0, none⟩) t.length c) t ∧ Ext w w' := by
  obtain ⟨hlen, b, o, c, rfl, hc⟩ := id hv
  go_enter Tryz.func99, Tryz.ntmps99
  go_wp2
  have hx0 : Ext w (w.alloc (.cells #[] 27)) := (Ext.refl _).alloc _
  have hg0 := ListF.lit (e := 27) (lo := w.heap.size) (w := w) (Nat.le_refl _)
  go_loopw [3, 4] (fun v x wr => ∃ (k : Nat) (xs : List Value), k ≤ t.length ∧ x = .int .i64 k ∧ ListF 27 w.heap.size (fun _ => False) wr v xs (t.take k) ∧ v ≠ .slice none 0 0 ∧ Ext w wr) (fun _ x _ => t.length - (intOf x).toNat)
  case atStart => exact ⟨0, _, Nat.zero_le _, rfl, hg0, by simp, hx0⟩
  case round =>
    clear hx0 hg0
    obtain ⟨k, xs, hk, rfl, hg, hvn, hx⟩ := hrel
    have HVN := Lib.hid hvn
    clear hvn
    by_cases hkl : k < t.length
    case neg =>
      have : t.take k = t := List.take_of_length_le (by omega)
      rw [this] at hg
      have HR := Lib.hid (hg.tab hp hlen)
      obtain ⟨-, br, cr, rfl, -⟩ := id HR.out
      clear hg this
      go_wp2
      go_ret
      exact ⟨_, _, by first | rfl | trivial, HR.out, hx⟩
    case pos =>
      obtain ⟨b4, o4, c4, r4, i4, m4⟩ := (hc.ext hx).get hkl
      have e4 := i4.ints m4 c4
      have HT1 := Lib.hid (show t.take (k + 1) = t.take k ++ [row t k] from take_row t k hkl)
      have HG := Lib.hid hg
      have HX := Lib.hid hx
      have zg := hg.lt
      clear hg hx i4
      go_wp2_with fail
      refine (l01Own_f (row t k).length (row t k) rfl _ _ e4).mono ?_
      rintro e w3 ⟨x3, rfl, b3, c3, rfl, hr3, hx3⟩
      have hxb := hx3.trans (ext_box w3 (.slice (some ⟨b3, 0, none⟩) (row t k).length c3) 27)
      have hrb := (hr3.extS (ext_box w3 (.slice (some ⟨b3, 0, none⟩) (row t k).length c3) 27))
      have hat := hrb.atS
      have HR3 := Lib.hid ((hrb.setDS (D' := fun b => u3.ownBlock = some b ∨ False) (fun q => q.elim (fun e => by have := (zg _ e).2; omega) id)).mono (lo' := w.heap.size) (D' := fun b => u3.ownBlock = some b ∨ False) (Below.size HX.out) (fun _ _ _ q => q))
      have HG3 := Lib.hid (HG.out.ext hxb)
      have HXB := Lib.hid (HX.out.trans hxb)
      have zb := HXB.out.size
      have hlk : (t.take k).length = k := by rw [List.length_take]; omega
      have hown := HG3.out.own
      rw [hlk] at hown
      have HOWN := Lib.hid hown
      have HLK := Lib.hid hlk
      clear hr3 hx3 hxb HG e4 hlk hown hrb hat
      go_wp2_with (at_builtin; refine wpList_append_one rfl _ _ 24 27 rfl Tryz.underlying24 infoSl w.heap.size _ _ xs rfl HOWN.out _ _ (show Value.oneCell' (.slice _ _ _) = true from rfl) rfl (cell_new _ _ _) (by omega) zb ?_)
      intro v' w8 hown8 hgr8 hv8 hbl8
      have hm8 := HG3.out.app HR3.out (by rw [HLK.out]; exact hown8) hgr8 (by
        rcases hbl8 with e | e
        · exact .inl e
        · exact .inr (by rw [show (w3.alloc (.cells #[.slice (some ⟨b3, 0, none⟩) (row t k).length c3] 27)).heap.size = w3.heap.size + 1 by simp]; exact e)) (fun h => h)
      have hX8 : Ext w w8 := Ext.grown HXB.out hgr8 HOWN.out (Nat.le_refl _)
      rw [← HT1.out] at hm8
      clear hown8 hgr8 hbl8
      go_wp2
      go_roundw
      case rel => exact ⟨k + 1, _, by omega, by go_num, hm8, hv8, hX8⟩
      case measure => simp [intOf]; omega

theorem index_in {n : Nat} {l : List Int} (h : PermOk l) (hl : l.length = n) {k : Nat} (hk : k < n) : 0 ≤ indexOf l k ∧ indexOf l k < n := by
  have h1 := (permOk_iff_has l).1 h k (by omega)
  rcases indexOf_spec l k with ⟨e, -⟩ | ⟨i, hi, e, -⟩
  · omega
  · omega

set_option maxRecDepth 100000 in
set_option maxHeartbeats 4000000 in
theorem l02Involutive_any (t : List (List Int)) (v : Value) (w : World) (hv : Rows w v t) (hT : TableOk t) (hp : ∀ i, i < t.length → PermOk (row t i)) :
    Calls Tryz.prog 146 #[v] w (NewS t.length (fun _ _ => True) w) := by
  obtain ⟨hlen, b0, o0, c0, rfl, hc⟩ := id hv
  have h1 := hT.1
  have h12 := hT.2.1
  have hx0 : Ext w (w.alloc (.cells #[.slice none 0 0, .slice none 0 0] 26)) := (Ext.refl _).alloc _
  have HR0 := Lib.hid (BoxV.new w (.slice none 0 0) (.slice none 0 0) 26)
  have hz0 : (w.alloc (.cells #[.slice none 0 0, .slice none 0 0] 26)).heap.size = w.heap.size + 1 := by simp
  have HV := Lib.hid (hv.ext hx0)
  have HC := Lib.hid (hc.ext hx0)
  have HTT := Lib.hid hT
  have HPM := Lib.hid hp
  have HX0 := Lib.hid hx0
  clear hv hc hT hp hx0
  obtain ⟨n, hn⟩ : ∃ n, n = t.length := ⟨_, rfl⟩
  have HN := Lib.hid hn
  rw [← hn] at h1 h12 ⊢
  clear hn
  go_enter Tryz.func146, Tryz.ntmps146
  go_wp2_with fail
  generalize (w.alloc (.cells #[.slice none 0 0, .slice none 0 0] 26)) = w0 at *
  have hv0 := HV.out
  rw [← HN.out] at hv0
  refine (l01Own2_f t _ w0 hv0 (by rw [← HN.out]; omega)).mono ?_
  rintro e w1 ⟨b, c, rfl, htab, hx1⟩
  rw [← HN.out] at htab ⊢
  have HTAB := Lib.hid htab
  have HX1 := Lib.hid hx1
  have hz1 := hx1.size
  have HB0 := Lib.hid (BoxV.new w1 (.slice (some ⟨b, 0, none⟩) n c) (.slice none 0 0) 26)
  have HXO := Lib.hid (show Ext w1 (w1.alloc (.cells #[.slice (some ⟨b, 0, none⟩) n c, .slice none 0 0] 26)) from (Ext.refl _).alloc _)
  have hz2 : (w1.alloc (.cells #[.slice (some ⟨b, 0, none⟩) n c, .slice none 0 0] 26)).heap.size = w1.heap.size + 1 := by simp
  clear htab hx1 hv0
  go_wp2_with fail
  generalize (w1.alloc (.cells #[.slice (some ⟨b, 0, none⟩) n c, .slice none 0 0] 26)) = w2 at *
  go_loopw [4] (fun vi wr => ∃ (k : Nat) (v2 : Value) (ys : List Value) (t2 : List (List Int)), k ≤ n ∧ vi = .int .i64 k ∧ ListF 27 (w1.heap.size + 1) (fun _ => False) wr v2 ys t2 ∧ t2.length = k ∧ RowsIn n t2 ∧ BoxV w1.heap.size wr (.slice (some ⟨b, 0, none⟩) n c) v2 ∧ Ext w1 wr ∧ w1.heap.size + 1 ≤ wr.heap.size) (fun vi _ => n - (intOf vi).toNat)
  case atStart => exact ⟨0, _, _, [], Nat.zero_le _, rfl, ListF.nil _ _ _ _, rfl, RowsIn.nil _, HB0.out, HXO.out, by omega⟩
  case round =>
    clear HB0 HXO
    obtain ⟨k, v2, ys, t2, hk, rfl, hl, htl, hri, hb, hx, hz⟩ := hrel
    obtain ⟨a2, c2, rfl⟩ := hl.shape
    have hown := hl.own
    rw [htl] at hown hb
    have hlt2 := hl.lt
    rw [htl] at hlt2
    have HL := Lib.hid (show ListF 27 (w1.heap.size + 1) (fun _ => False) wr (.slice a2 k c2) ys t2 by rw [htl] at hl; exact hl)
    have HTL := Lib.hid htl
    have HRI := Lib.hid hri
    have HB := Lib.hid hb
    have HX := Lib.hid hx
    have HOWN := Lib.hid hown
    clear hl htl hri hb hx hown
    by_cases hlt : k < n
    case neg =>
      have hkk : k = n := by omega
      rw [hkk] at HL HTL HB
      have hki : ¬ (n : Int) < (n : Int) := by omega
      obtain ⟨-, q0, q1, q2, q3⟩ := HR0.out.ext (HX1.out.trans HX.out)
      obtain ⟨-, p0, p1, p2, p3⟩ := HB.out
      have ht2 := HL.out.tab (by rw [HTL.out]; omega) (by rw [HTL.out]; omega)
      have ht1 := HTAB.out.ext HX.out
      have hok : PairOk t t2 := ⟨HTT.out, HRI.out.table HTL.out h1 h12, by rw [HTL.out]; exact HN.out⟩
      rw [hkk]
      go_wp2
      exact bodyPost_ret (v := .agg #[.slice (some ⟨b, 0, none⟩) n c, .slice a2 n c2]) (by simp [results, Tryz.results146, go_sem, q0, q1]) rfl ⟨_, _, _, _, rfl, ((ht1.setOut (p := ⟨w.heap.size, 0, none⟩) (show w.heap.size < w0.heap.size by omega) _).setOut (p := ⟨w.heap.size, 1, none⟩) (show w.heap.size < w0.heap.size by omega) _).low (by omega), ((ht2.setOut (p := ⟨w.heap.size, 0, none⟩) (show w.heap.size < w1.heap.size + 1 by omega) _).setOut (p := ⟨w.heap.size, 1, none⟩) (show w.heap.size < w1.heap.size + 1 by omega) _).low (by omega), hok, HN.out.symm, trivial, (((HX0.out.trans HX1.out).trans HX.out).setNew (Nat.le_refl _) _).setNew (Nat.le_refl _) _⟩
    case pos =>
      have hki : (k : Int) < (n : Int) := by omega
      obtain ⟨wk, rfl⟩ : ∃ z : World, z = wr := ⟨_, rfl⟩
      have HXW := Lib.hid (HX1.out.trans HX.out)
      go_wp2_with fail
      go_loopw [5, 6] (fun va vj wr => ∃ (j : Nat) (l : List Int), j ≤ n ∧ vj = .int .i64 j ∧ l.length = j ∧ InR n l ∧ GrowI 2 wk.heap.size wr va l ∧ va ≠ .slice none 0 0 ∧ Ext wk wr) (fun _ vj _ => n - (intOf vj).toNat)
      case atStart => exact ⟨0, [], Nat.zero_le _, rfl, rfl, InR.nil _, GrowI.lit (Nat.le_refl _), by simp, (Ext.refl _).alloc _⟩
      case round =>
        obtain ⟨j, l, hj, rfl, hln, hi, hg, hvn, hxj⟩ := hrel
        have HI := Lib.hid hi
        have HG := Lib.hid hg
        have HVN := Lib.hid hvn
        have HXJ := Lib.hid hxj
        have HLN := Lib.hid hln
        have hzx : wk.heap.size ≤ wr.heap.size := Below.size hxj
        clear hi hg hvn hxj hln
        by_cases hjl : j < n
        case pos =>
          have hji : (j : Int) < (n : Int) := by omega
          have hxw : Ext w0 wr := HXW.out.trans HXJ.out
          obtain ⟨d1, s1, m1, r1, i1, -⟩ := (HC.out.ext hxw).get (i := k) (by rw [← HN.out]; exact hlt)
          have hl1 := HTT.out.len (x := k) (by rw [← HN.out]; exact hlt)
          have e1 := i1.ent hl1 (y := j) (by rw [← HN.out]; exact hjl)
          have hbd := HTT.out.bd (x := k) (y := j) (by rw [← HN.out]; exact hlt) (by rw [← HN.out]; exact hjl)
          rw [hl1, ← HN.out] at r1
          obtain ⟨u, hu⟩ := Int.eq_ofNat_of_zero_le hbd.1
          have hun : u < n := by have := hbd.2; have := HN.out; omega
          rw [hu] at e1
          obtain ⟨d2, s2, m2, r2, i2, l2⟩ := (HC.out.ext hxw).get (i := u) (by rw [← HN.out]; exact hun)
          have hl2 := HTT.out.len (x := u) (by rw [← HN.out]; exact hun)
          have I2 := Lib.hid (i2.ints l2 m2)
          have hrl2 : (row t u).length = n := by rw [hl2]; exact HN.out.symm
          rw [hrl2] at r2 I2
          obtain ⟨hx1, hx2⟩ := index_in (HPM.out u (by rw [← HN.out]; exact hun)) hrl2 hlt
          have hui : (u : Int) < (n : Int) := by omega
          obtain ⟨X, hX⟩ : ∃ X, X = indexOf (row t u) k := ⟨_, rfl⟩
          have HXX := Lib.hid hX
          rw [← hX] at hx1 hx2
          clear hX hxw i1 i2 hl1 hl2 hbd hu l2 hrl2
          go_wp2_with fail
          refine (l01Index_any (row t u) _ (k : Int) _ I2.out).mono ?_
          rintro e w5 ⟨rfl, rfl⟩
          rw [← HXX.out]
          go_wp2_with (at_builtin; refine wpList_append_int rfl _ _ 27 2 rfl Tryz.underlying27 infoInt wk.heap.size _ _ rfl (HG.out.alloc _) _ _ rfl (cell_new _ _ _) (by rw [HLN.out]; omega) (by simp; omega) ?_)
          intro v' w3 hi3 hgr hv3
          have hx3 : Ext wk w3 := (HXJ.out.trans (ext_box _ _ _)).grown hgr (HG.out.alloc _) (Nat.le_refl _)
          have HI3 := Lib.hid (HI.out.app hx1 hx2)
          have HL3 := Lib.hid (show (l ++ [X]).length = j + 1 by rw [List.length_append, HLN.out]; rfl)
          clear hgr
          go_wp2
          go_roundw
          case rel => exact ⟨j + 1, _, by omega, by go_num, HL3.out, HI3.out, hi3, hv3, hx3⟩
          case measure => simp [intOf]; omega
        case neg =>
          have hji : ¬ (j : Int) < (n : Int) := by omega
          have hjn : j = n := by omega
          rw [hjn] at HLN
          have hr1 := RF.of HG.out HVN.out (by rw [HLN.out]; omega)
          obtain ⟨ba, ca, rfl, -⟩ := HG.out.row HVN.out
          rw [HLN.out] at hr1
          have ha1 := hr1.atS
          have HR1 := Lib.hid hr1
          rw [HLN.out]
          have hO1 := ownsRow_ext HOWN.out HXJ.out
          obtain ⟨hbl, p0, p1, p2, p3⟩ := HB.out.ext HXJ.out
          have hxb := ext_box wr (.slice (some ⟨ba, 0, none⟩) n ca) 27
          clear hr1 hjn
          go_wp2_with (at_builtin; refine wpList_append_one rfl _ _ 24 27 rfl Tryz.underlying24 infoSl (w1.heap.size + 1) _ k ys rfl (ownsRow_ext hO1 hxb) _ _ (show Value.oneCell' (.slice _ _ _) = true from rfl) rfl (cell_new _ _ _) (by omega) (by simp; omega) ?_)
          intro v' w8 hown8 hgr8 hv8 hbl8
          have hl8 := (HL.out.ext (HXJ.out.trans hxb)).app (l := l) (((HR1.out.extS hxb).setDS (D' := fun b => (Value.slice a2 k c2).ownBlock = some b ∨ False) (fun q => q.elim (fun e => by have := (hlt2 _ e).2; omega) id)).mono (lo' := w1.heap.size + 1) (D' := fun b => (Value.slice a2 k c2).ownBlock = some b ∨ False) hz (fun _ _ _ q => q)) (by rw [HTL.out]; exact hown8) hgr8 (by
            rcases hbl8 with e | e
            · exact .inl e
            · exact .inr (by rw [show (wr.alloc (.cells #[.slice (some ⟨ba, 0, none⟩) n ca] 27)).heap.size = wr.heap.size + 1 by simp]; exact e)) (fun h => h)
          have hB8 : BoxV w1.heap.size w8 _ _ := (HB.out.ext (HXJ.out.trans hxb)).grown hgr8 (fun e => by have := (hlt2 _ e).1; omega)
          have hX8 : Ext w1 w8 := ext_grown2 (HX.out.trans (HXJ.out.trans hxb)) hgr8 (fun q e => by have := (hlt2 _ e).1; omega)
          have hz8 : w1.heap.size + 1 ≤ w8.heap.size := Nat.le_trans (by simp; omega) hgr8.size
          obtain ⟨-, s0, s1, s2, s3⟩ := id hB8
          have HL8 := Lib.hid hl8
          have HB8 := Lib.hid hB8
          have HX8 := Lib.hid hX8
          have HR8 := Lib.hid (HRI.out.app HLN.out HI.out)
          obtain ⟨g8, cap8, rfl⟩ : ∃ g8 cap8, v' = .slice (some ⟨g8, 0, none⟩) (k + 1) cap8 := by
            rcases hown8.2 with ⟨h, _⟩ | ⟨g8, cap8, cur, h, _⟩
            · exact absurd h hv8
            · exact ⟨g8, cap8, h⟩
          clear hl8 hB8 hX8 hown8 hgr8 hbl8 hv8 hO1 hxb
          go_wp2
          go_roundw
          case rel => exact ⟨k + 1, _, _, _, by omega, by go_num, HL8.out.setOther (by simp only []; omega) _, by rw [List.length_append, HTL.out]; rfl, HR8.out, HB8.out.set1 _, HX8.out.setNew (Nat.le_refl _) _, by simp; omega⟩
          case measure => simp [intOf]; omega
end Go.Proofs.YtjfjpngajboidaaGreat


namespace Go.Proofs.YtjfjpngajboidaaGreat
set_option linter.unusedVariables false
set_option linter.unusedSimpArgs false
open Go.RowKit
open Go.Deep

theorem row_lit {w : World} {g : Nat} (hg : g = w.heap.size) (l : List Int) (e : Nat) : IntsAt (w.alloc (.cells (l.map (Value.int .i64)).toArray e)) g 0 l := by
  subst hg
  intro i hi
  have e1 : ix l i = l[i] := by rw [ix_eq, List.getD_eq_getElem?_getD, List.getElem?_eq_getElem hi]; rfl
  rw [e1]
  simp [go_sem, hi]
theorem lit4_rows (w : World) : Rows (((((w.alloc (.cells #[.int .i64 0, .int .i64 1, .int .i64 3, .int .i64 2] 2)).alloc (.cells #[.int .i64 0, .int .i64 1, .int .i64 3, .int .i64 2] 2)).alloc (.cells #[.int .i64 1, .int .i64 0, .int .i64 2, .int .i64 3] 2)).alloc (.cells #[.int .i64 1, .int .i64 0, .int .i64 2, .int .i64 3] 2)).alloc (.cells #[.slice (some ⟨w.heap.size, 0, none⟩) 4 4, .slice (some ⟨w.heap.size + 1, 0, none⟩) 4 4, .slice (some ⟨w.heap.size + 1 + 1, 0, none⟩) 4 4, .slice (some ⟨w.heap.size + 1 + 1 + 1, 0, none⟩) 4 4] 27)) (.slice (some ⟨w.heap.size + 1 + 1 + 1 + 1, 0, none⟩) 4 4) [[0, 1, 3, 2], [0, 1, 3, 2], [1, 0, 2, 3], [1, 0, 2, 3]] := by
  have i0 := row_lit (w := w) rfl [0, 1, 3, 2] 2
  have i1 := row_lit (w := w.alloc (.cells #[.int .i64 0, .int .i64 1, .int .i64 3, .int .i64 2] 2)) (g := w.heap.size + 1) (by simp) [0, 1, 3, 2] 2
  have i2 := row_lit (w := (w.alloc (.cells #[.int .i64 0, .int .i64 1, .int .i64 3, .int .i64 2] 2)).alloc (.cells #[.int .i64 0, .int .i64 1, .int .i64 3, .int .i64 2] 2)) (g := w.heap.size + 1 + 1) (by simp) [1, 0, 2, 3] 2
  have i3 := row_lit (w := ((w.alloc (.cells #[.int .i64 0, .int .i64 1, .int .i64 3, .int .i64 2] 2)).alloc (.cells #[.int .i64 0, .int .i64 1, .int .i64 3, .int .i64 2] 2)).alloc (.cells #[.int .i64 1, .int .i64 0, .int .i64 2, .int .i64 3] 2)) (g := w.heap.size + 1 + 1 + 1) (by simp) [1, 0, 2, 3] 2
  have j0 := (((i0.ext ((Ext.refl _).alloc (.cells #[.int .i64 0, .int .i64 1, .int .i64 3, .int .i64 2] 2))).ext ((Ext.refl _).alloc (.cells #[.int .i64 1, .int .i64 0, .int .i64 2, .int .i64 3] 2))).ext ((Ext.refl _).alloc (.cells #[.int .i64 1, .int .i64 0, .int .i64 2, .int .i64 3] 2)))
  have j1 := ((i1.ext ((Ext.refl _).alloc (.cells #[.int .i64 1, .int .i64 0, .int .i64 2, .int .i64 3] 2))).ext ((Ext.refl _).alloc (.cells #[.int .i64 1, .int .i64 0, .int .i64 2, .int .i64 3] 2)))
  have j2 := i2.ext ((Ext.refl _).alloc (.cells #[.int .i64 1, .int .i64 0, .int .i64 2, .int .i64 3] 2))
  have hz : w.heap.size + 1 + 1 + 1 + 1 = ((((w.alloc (.cells #[.int .i64 0, .int .i64 1, .int .i64 3, .int .i64 2] 2)).alloc (.cells #[.int .i64 0, .int .i64 1, .int .i64 3, .int .i64 2] 2)).alloc (.cells #[.int .i64 1, .int .i64 0, .int .i64 2, .int .i64 3] 2)).alloc (.cells #[.int .i64 1, .int .i64 0, .int .i64 2, .int .i64 3] 2)).heap.size := by simp
  have k0 := j0
  have k3 := i3
  simp only [List.map_cons, List.map_nil] at k0 j1 j2 k3
  generalize ((((w.alloc (.cells #[.int .i64 0, .int .i64 1, .int .i64 3, .int .i64 2] 2)).alloc (.cells #[.int .i64 0, .int .i64 1, .int .i64 3, .int .i64 2] 2)).alloc (.cells #[.int .i64 1, .int .i64 0, .int .i64 2, .int .i64 3] 2)).alloc (.cells #[.int .i64 1, .int .i64 0, .int .i64 2, .int .i64 3] 2)) = W at *
  rw [hz]
  refine ⟨by simp, W.heap.size, 0, 4, rfl, fun i hi => ?_⟩
  match i, hi with
  | 0, _ => exact ⟨_, by simp [go_sem]; rfl, by rw [row_eq]; exact (k0.ext ((Ext.refl W).alloc _)).ints (by simp) 4⟩
  | 1, _ => exact ⟨_, by simp [go_sem]; rfl, by rw [row_eq]; exact (j1.ext ((Ext.refl W).alloc _)).ints (by simp) 4⟩
  | 2, _ => exact ⟨_, by simp [go_sem]; rfl, by rw [row_eq]; exact (j2.ext ((Ext.refl W).alloc _)).ints (by simp) 4⟩
  | 3, _ => exact ⟨_, by simp [go_sem]; rfl, by rw [row_eq]; exact (k3.ext ((Ext.refl W).alloc _)).ints (by simp) 4⟩
theorem lit3_rows (w : World) : Rows ((((w.alloc (.cells #[.int .i64 0, .int .i64 1, .int .i64 2] 2)).alloc (.cells #[.int .i64 0, .int .i64 1, .int .i64 2] 2)).alloc (.cells #[.int .i64 1, .int .i64 0, .int .i64 2] 2)).alloc (.cells #[.slice (some ⟨w.heap.size, 0, none⟩) 3 3, .slice (some ⟨w.heap.size + 1, 0, none⟩) 3 3, .slice (some ⟨w.heap.size + 1 + 1, 0, none⟩) 3 3] 27)) (.slice (some ⟨w.heap.size + 1 + 1 + 1, 0, none⟩) 3 3) [[0, 1, 2], [0, 1, 2], [1, 0, 2]] := by
  have i0 := row_lit (w := w) rfl [0, 1, 2] 2
  have i1 := row_lit (w := w.alloc (.cells #[.int .i64 0, .int .i64 1, .int .i64 2] 2)) (g := w.heap.size + 1) (by simp) [0, 1, 2] 2
  have i2 := row_lit (w := (w.alloc (.cells #[.int .i64 0, .int .i64 1, .int .i64 2] 2)).alloc (.cells #[.int .i64 0, .int .i64 1, .int .i64 2] 2)) (g := w.heap.size + 1 + 1) (by simp) [1, 0, 2] 2
  have j0 := ((i0.ext ((Ext.refl _).alloc (.cells #[.int .i64 0, .int .i64 1, .int .i64 2] 2))).ext ((Ext.refl _).alloc (.cells #[.int .i64 1, .int .i64 0, .int .i64 2] 2)))
  have j1 := i1.ext ((Ext.refl _).alloc (.cells #[.int .i64 1, .int .i64 0, .int .i64 2] 2))
  have hz : w.heap.size + 1 + 1 + 1 = (((w.alloc (.cells #[.int .i64 0, .int .i64 1, .int .i64 2] 2)).alloc (.cells #[.int .i64 0, .int .i64 1, .int .i64 2] 2)).alloc (.cells #[.int .i64 1, .int .i64 0, .int .i64 2] 2)).heap.size := by simp
  have k0 := j0
  have k2 := i2
  simp only [List.map_cons, List.map_nil] at k0 j1 k2
  generalize (((w.alloc (.cells #[.int .i64 0, .int .i64 1, .int .i64 2] 2)).alloc (.cells #[.int .i64 0, .int .i64 1, .int .i64 2] 2)).alloc (.cells #[.int .i64 1, .int .i64 0, .int .i64 2] 2)) = W at *
  rw [hz]
  refine ⟨by simp, W.heap.size, 0, 3, rfl, fun i hi => ?_⟩
  match i, hi with
  | 0, _ => exact ⟨_, by simp [go_sem]; rfl, by rw [row_eq]; exact (k0.ext ((Ext.refl W).alloc _)).ints (by simp) 3⟩
  | 1, _ => exact ⟨_, by simp [go_sem]; rfl, by rw [row_eq]; exact (j1.ext ((Ext.refl W).alloc _)).ints (by simp) 3⟩
  | 2, _ => exact ⟨_, by simp [go_sem]; rfl, by rw [row_eq]; exact (k2.ext ((Ext.refl W).alloc _)).ints (by simp) 3⟩

set_option maxRecDepth 100000 in
set_option maxHeartbeats 8000000 in
theorem l02Any_any (S : Nat) : ∀ (most : Nat) (w : World), Src S w → 1 ≤ most → most ≤ 12 →
    Calls Tryz.prog 130 #[.pointer (some ⟨S, 0, none⟩), .int .i64 most] w (DrawS S (fun m => 1 ≤ m ∧ m ≤ most) w) := by
  intro most
  induction most using Nat.strongRecOn with
  | ind most IH =>
    intro w hs h1 h12
    have IHH := Lib.hid IH
    clear IH
    have hlt := hs.lt
    have hx0 : Ext w (w.alloc (.cells #[.slice none 0 0, .slice none 0 0] 26)) := (Ext.refl _).alloc _
    have HR := Lib.hid (BoxV.new w (.slice none 0 0) (.slice none 0 0) 26)
    have HS0 := Lib.hid (hs.ext hx0)
    have HT0 := Lib.hid (touch_ext (S := S) (Touch.of_ext (Ext.refl w)) hx0)
    clear hs hx0
    go_enter Tryz.func130, Tryz.ntmps130
    go_wp2_with fail
    generalize (w.alloc (.cells #[.slice none 0 0, .slice none 0 0] 26)) = w0 at *
    refine (l01Next_any S _ _ HS0.out).mono ?_
    rintro e w1 ⟨r, rfl, r1, r2, -, hs1, hT1⟩
    obtain ⟨q, rfl⟩ := Int.eq_ofNat_of_zero_le r1
    have hqm : q < most := by have := r2 (by omega); omega
    have HT1 := Lib.hid (HT0.out.trans hT1)
    have HR1 := Lib.hid (HR.out.touchS hT1 (by omega))
    clear hT1 r1 r2 HT0 HS0 HR
    obtain ⟨n, hn⟩ : ∃ n, n = 1 + q := ⟨_, rfl⟩
    have h1n : 1 ≤ n := by omega
    have hnm : n ≤ most := by omega
    have hn12 : n ≤ 12 := by omega
    have hni : (1 : Int) + (q : Int) = (n : Int) := by omega
    clear hn hqm
    go_wp2_with fail
    refine (l01Next_any S _ _ hs1).mono ?_
    rintro e w2 ⟨r, rfl, r1, r2, -, hs2, hT2⟩
    obtain ⟨m, rfl⟩ := Int.eq_ofNat_of_zero_le r1
    have hm8 : m < 8 := by have := r2 (by omega); omega
    have HT := Lib.hid (HT1.out.trans hT2)
    have HR := Lib.hid (HR1.out.touchS hT2 (by omega))
    have HS := Lib.hid hs2
    clear hT2 r1 r2 HT1 HR1 hs1 hs2 hni
    match m, hm8 with
    | 0, _ =>
      go_wp2_with fail
      refine (l02Flip_any n _ h1n hn12).mono ?_
      rintro e w9 ⟨v9, y9, T, U, rfl, ht, hu, hok, hl, -, hx⟩
      have hT9 := touch_ext HT.out hx
      have hr9 := HR.out.ext hx
      have hs9 := HS.out.ext hx
      have hz9 : w.heap.size < w2.heap.size := HR.out.1
      have hq9 : 1 ≤ T.length ∧ T.length ≤ most := by rw [hl]; omega
      obtain ⟨-, q0, q1, q2, q3⟩ := hr9
      obtain ⟨-, d1, d2, rfl, -⟩ := id ht
      obtain ⟨-, d3, d4, rfl, -⟩ := id hu
      have HEND := Lib.hid (drawS_end (S := S) (Q := fun m => 1 ≤ m ∧ m ≤ most) (v0 := .slice (some ⟨d1, 0, none⟩) T.length d2) (y0 := .slice (some ⟨d3, 0, none⟩) U.length d4) rfl hz9 ht hu hok rfl hq9 hs9 hlt hT9)
      clear ht hu hok hs9 hT9 hq9 hl
      go_wp2
      exact bodyPost_ret (v := .agg #[.slice (some ⟨d1, 0, none⟩) T.length d2, .slice (some ⟨d3, 0, none⟩) U.length d4]) (by simp [results, Tryz.results130, go_sem, q0, q1]) rfl HEND.out
    | 1, _ =>
      go_wp2_with fail
      refine (l02Polygon_any n _ h1n hn12).mono ?_
      rintro e w9 ⟨v9, y9, T, U, rfl, ht, hu, hok, hl, -, hx⟩
      have hT9 := touch_ext HT.out hx
      have hr9 := HR.out.ext hx
      have hs9 := HS.out.ext hx
      have hz9 : w.heap.size < w2.heap.size := HR.out.1
      have hq9 : 1 ≤ T.length ∧ T.length ≤ most := by rw [hl]; omega
      obtain ⟨-, q0, q1, q2, q3⟩ := hr9
      obtain ⟨-, d1, d2, rfl, -⟩ := id ht
      obtain ⟨-, d3, d4, rfl, -⟩ := id hu
      have HEND := Lib.hid (drawS_end (S := S) (Q := fun m => 1 ≤ m ∧ m ≤ most) (v0 := .slice (some ⟨d1, 0, none⟩) T.length d2) (y0 := .slice (some ⟨d3, 0, none⟩) U.length d4) rfl hz9 ht hu hok rfl hq9 hs9 hlt hT9)
      clear ht hu hok hs9 hT9 hq9 hl
      go_wp2
      exact bodyPost_ret (v := .agg #[.slice (some ⟨d1, 0, none⟩) T.length d2, .slice (some ⟨d3, 0, none⟩) U.length d4]) (by simp [results, Tryz.results130, go_sem, q0, q1]) rfl HEND.out
    | 2, _ =>
      by_cases hev : 4 ≤ n ∧ n % 2 = 0
      · obtain ⟨h, hh⟩ : ∃ h, n = h * 2 := ⟨n / 2, by omega⟩
        have h4i : (4 : Int) ≤ (n : Int) := by omega
        have hm1 : (n : Int).tmod 2 = 0 := by rw [Int.tmod_eq_emod_of_nonneg (by omega)]; omega
        have hm2 : (n : Int) % 2 = 0 := by omega
        have hd1 : (n : Int).tdiv 2 = (h : Int) := by rw [Int.tdiv_eq_ediv_of_nonneg (by omega)]; omega
        have hd2 : (n : Int) / 2 = (h : Int) := by omega
        have hw1 : IntKind.i64.wrap (h : Int) = (h : Int) := IntWalk.i64_in _ (by omega)
        have h2 : 2 ≤ h := by omega
        have HH := Lib.hid hh
        have hh12 : h ≤ 12 := by omega
        clear hh hev
        go_wp2_with fail
        refine (l02Twisted_any S h _ HS.out (by omega) hh12).mono ?_
        rintro e w5 ⟨v5, y5, T5, U5, rfl, ht5, hu5, hok5, hl5, hs5, hT5⟩
        have HT5 := Lib.hid (HT.out.trans hT5)
        have HR5 := Lib.hid (HR.out.touchS hT5 (by omega))
        have hz5 := HR.out.1
        clear hT5
        go_wp2_with fail
        refine (l02Twisted_any S 2 _ hs5 (by omega) (by omega)).mono ?_
        rintro e w6 ⟨v6, y6, T6, U6, rfl, ht6, hu6, hok6, hl6, hs6, hT6⟩
        have HT6 := Lib.hid (HT5.out.trans hT6)
        have HR6 := Lib.hid (HR5.out.touchS hT6 (by omega))
        have ht5' := (ht5.touch hT6 (by omega)).rows
        have hu5' := (hu5.touch hT6 (by omega)).rows
        have ht6' := ht6.rows
        have hu6' := hu6.rows
        have HN := Lib.hid (show n = T5.length * T6.length by rw [hl5, hl6]; exact HH.out)
        have HA := Lib.hid ht5'
        have HB := Lib.hid hu5'
        have HC := Lib.hid ht6'
        have HD := Lib.hid hu6'
        clear ht5 hu5 ht6 hu6 hT6 ht5' hu5' ht6' hu6' hl5 hl6
        go_wp2_with fail
        refine (l02Product_any T5 U5 T6 U6 _ _ _ _ _ HA.out HB.out HC.out HD.out hok5 hok6 n HN.out hn12).mono ?_
        rintro e w9 ⟨v9, y9, T, U, rfl, ht, hu, hok, hl, -, hx⟩
        have hT9 := touch_ext HT6.out hx
        have hr9 := HR6.out.ext hx
        have hs9 := hs6.ext hx
        have hz9 : w.heap.size < w6.heap.size := HR6.out.1
        have hq9 : 1 ≤ T.length ∧ T.length ≤ most := by rw [hl]; omega
        clear hx hs6
        obtain ⟨-, q0, q1, q2, q3⟩ := hr9
        obtain ⟨-, d1, d2, rfl, -⟩ := id ht
        obtain ⟨-, d3, d4, rfl, -⟩ := id hu
        have HEND := Lib.hid (drawS_end (S := S) (Q := fun m => 1 ≤ m ∧ m ≤ most) (v0 := .slice (some ⟨d1, 0, none⟩) T.length d2) (y0 := .slice (some ⟨d3, 0, none⟩) U.length d4) rfl hz9 ht hu hok rfl hq9 hs9 hlt hT9)
        clear ht hu hok hs9 hT9 hq9 hl
        go_wp2
        exact bodyPost_ret (v := .agg #[.slice (some ⟨d1, 0, none⟩) T.length d2, .slice (some ⟨d3, 0, none⟩) U.length d4]) (by simp [results, Tryz.results130, go_sem, q0, q1]) rfl HEND.out
      · by_cases h4 : 4 ≤ n
        · have h4i : (4 : Int) ≤ (n : Int) := by omega
          have hm1 : (n : Int).tmod 2 = 1 := by rw [Int.tmod_eq_emod_of_nonneg (by omega)]; omega
          have hm2 : (n : Int) % 2 = 1 := by omega
          go_wp2_with fail
          refine (l02Twisted_any S n _ HS.out h1n hn12).mono ?_
          rintro e w9 ⟨v9, y9, T, U, rfl, ht, hu, hok, hl, hs9, hT⟩
          have hT9 := HT.out.trans hT
          have hr9 := HR.out.touchS hT (by omega)
          have hz9 : w.heap.size < w2.heap.size := HR.out.1
          have hq9 : 1 ≤ T.length ∧ T.length ≤ most := by rw [hl]; omega
          obtain ⟨-, q0, q1, q2, q3⟩ := hr9
          obtain ⟨-, d1, d2, rfl, -⟩ := id ht
          obtain ⟨-, d3, d4, rfl, -⟩ := id hu
          have HEND := Lib.hid (drawS_end (S := S) (Q := fun m => 1 ≤ m ∧ m ≤ most) (v0 := .slice (some ⟨d1, 0, none⟩) T.length d2) (y0 := .slice (some ⟨d3, 0, none⟩) U.length d4) rfl hz9 ht hu hok rfl hq9 hs9 hlt hT9)
          clear ht hu hok hs9 hT9 hq9 hl
          go_wp2
          exact bodyPost_ret (v := .agg #[.slice (some ⟨d1, 0, none⟩) T.length d2, .slice (some ⟨d3, 0, none⟩) U.length d4]) (by simp [results, Tryz.results130, go_sem, q0, q1]) rfl HEND.out
        · have h4i : ¬ (4 : Int) ≤ (n : Int) := by omega
          go_wp2_with fail
          refine (l02Twisted_any S n _ HS.out h1n hn12).mono ?_
          rintro e w9 ⟨v9, y9, T, U, rfl, ht, hu, hok, hl, hs9, hT⟩
          have hT9 := HT.out.trans hT
          have hr9 := HR.out.touchS hT (by omega)
          have hz9 : w.heap.size < w2.heap.size := HR.out.1
          have hq9 : 1 ≤ T.length ∧ T.length ≤ most := by rw [hl]; omega
          obtain ⟨-, q0, q1, q2, q3⟩ := hr9
          obtain ⟨-, d1, d2, rfl, -⟩ := id ht
          obtain ⟨-, d3, d4, rfl, -⟩ := id hu
          have HEND := Lib.hid (drawS_end (S := S) (Q := fun m => 1 ≤ m ∧ m ≤ most) (v0 := .slice (some ⟨d1, 0, none⟩) T.length d2) (y0 := .slice (some ⟨d3, 0, none⟩) U.length d4) rfl hz9 ht hu hok rfl hq9 hs9 hlt hT9)
          clear ht hu hok hs9 hT9 hq9 hl
          go_wp2
          exact bodyPost_ret (v := .agg #[.slice (some ⟨d1, 0, none⟩) T.length d2, .slice (some ⟨d3, 0, none⟩) U.length d4]) (by simp [results, Tryz.results130, go_sem, q0, q1]) rfl HEND.out
    | 3, _ =>
      by_cases hn2 : 2 ≤ n
      · have hn2i : (2 : Int) ≤ (n : Int) := by omega
        go_wp2_with fail
        refine (l01Next_any S _ _ HS.out).mono ?_
        rintro e w4 ⟨r, rfl, r1, r2, -, hs4, hT4⟩
        obtain ⟨q, rfl⟩ := Int.eq_ofNat_of_zero_le r1
        have hq : (q : Int) < (n : Int) - 1 := r2 (by omega)
        obtain ⟨m', hm'⟩ : ∃ m', m' = 1 + q := ⟨_, rfl⟩
        have hmi : (1 : Int) + (q : Int) = (m' : Int) := by omega
        have hmn : m' < n := by omega
        have hm1 : 1 ≤ m' := by omega
        obtain ⟨k', hk'⟩ : ∃ k', k' = n - m' := ⟨_, rfl⟩
        have hki : (n : Int) - (m' : Int) = (k' : Int) := by omega
        have hk1 : 1 ≤ k' := by omega
        have hkn : m' + k' = n := by omega
        have HT4 := Lib.hid (HT.out.trans hT4)
        have HR4 := Lib.hid (HR.out.touchS hT4 (by omega))
        clear hT4 hq r1 r2 hm' hk'
        go_wp2_with fail
        refine (IHH.out m' (by omega) _ hs4 hm1 (by omega)).mono ?_
        rintro e w5 ⟨v5, y5, T5, U5, rfl, ht5, hu5, hok5, hl5, hs5, hT5⟩
        have HT5 := Lib.hid (HT4.out.trans hT5)
        have HR5 := Lib.hid (HR4.out.touchS hT5 (by omega))
        have hz5 := HR4.out.1
        clear hT5 hs4
        go_wp2_with fail
        refine (l02Twisted_any S k' _ hs5 hk1 (by omega)).mono ?_
        rintro e w6 ⟨v6, y6, T6, U6, rfl, ht6, hu6, hok6, hl6, hs6, hT6⟩
        have HT6 := Lib.hid (HT5.out.trans hT6)
        have HR6 := Lib.hid (HR5.out.touchS hT6 (by omega))
        have HA := Lib.hid (ht5.touch hT6 (by omega)).rows
        have HB := Lib.hid (hu5.touch hT6 (by omega)).rows
        have HC := Lib.hid ht6.rows
        have HD := Lib.hid hu6.rows
        have HQ := Lib.hid (show 1 ≤ T5.length + T6.length ∧ T5.length + T6.length ≤ most by rw [hl6]; omega)
        clear ht5 hu5 ht6 hu6 hT6 hl5 hl6
        go_wp2_with fail
        refine (l02Union_any T5 U5 T6 U6 _ _ _ _ _ HA.out HB.out HC.out HD.out hok5 hok6 (T5.length + T6.length) rfl (by have := HQ.out; omega)).mono ?_
        rintro e w9 ⟨v9, y9, T, U, rfl, ht, hu, hok, hl, -, hx⟩
        have hT9 := touch_ext HT6.out hx
        have hr9 := HR6.out.ext hx
        have hs9 := hs6.ext hx
        have hz9 : w.heap.size < w6.heap.size := HR6.out.1
        have hq9 : 1 ≤ T.length ∧ T.length ≤ most := by rw [hl]; exact HQ.out
        clear hx hs6
        obtain ⟨-, q0, q1, q2, q3⟩ := hr9
        obtain ⟨-, d1, d2, rfl, -⟩ := id ht
        obtain ⟨-, d3, d4, rfl, -⟩ := id hu
        have HEND := Lib.hid (drawS_end (S := S) (Q := fun m => 1 ≤ m ∧ m ≤ most) (v0 := .slice (some ⟨d1, 0, none⟩) T.length d2) (y0 := .slice (some ⟨d3, 0, none⟩) U.length d4) rfl hz9 ht hu hok rfl hq9 hs9 hlt hT9)
        clear ht hu hok hs9 hT9 hq9 hl
        go_wp2
        exact bodyPost_ret (v := .agg #[.slice (some ⟨d1, 0, none⟩) T.length d2, .slice (some ⟨d3, 0, none⟩) U.length d4]) (by simp [results, Tryz.results130, go_sem, q0, q1]) rfl HEND.out
      · have hn2i : ¬ (2 : Int) ≤ (n : Int) := by omega
        go_wp2_with fail
        refine (l02Twisted_any S n _ HS.out h1n hn12).mono ?_
        rintro e w9 ⟨v9, y9, T, U, rfl, ht, hu, hok, hl, hs9, hT⟩
        have hT9 := HT.out.trans hT
        have hr9 := HR.out.touchS hT (by omega)
        have hz9 : w.heap.size < w2.heap.size := HR.out.1
        have hq9 : 1 ≤ T.length ∧ T.length ≤ most := by rw [hl]; omega
        obtain ⟨-, q0, q1, q2, q3⟩ := hr9
        obtain ⟨-, d1, d2, rfl, -⟩ := id ht
        obtain ⟨-, d3, d4, rfl, -⟩ := id hu
        have HEND := Lib.hid (drawS_end (S := S) (Q := fun m => 1 ≤ m ∧ m ≤ most) (v0 := .slice (some ⟨d1, 0, none⟩) T.length d2) (y0 := .slice (some ⟨d3, 0, none⟩) U.length d4) rfl hz9 ht hu hok rfl hq9 hs9 hlt hT9)
        clear ht hu hok hs9 hT9 hq9 hl
        go_wp2
        exact bodyPost_ret (v := .agg #[.slice (some ⟨d1, 0, none⟩) T.length d2, .slice (some ⟨d3, 0, none⟩) U.length d4]) (by simp [results, Tryz.results130, go_sem, q0, q1]) rfl HEND.out
    | 4, _ =>
      by_cases h4 : 4 ≤ most
      · have h4i : (4 : Int) ≤ (most : Int) := by omega
        have HY := Lib.hid ((((((Ext.refl w2).alloc (.cells #[.int .i64 0, .int .i64 1, .int .i64 3, .int .i64 2] 2)).alloc (.cells #[.int .i64 0, .int .i64 1, .int .i64 3, .int .i64 2] 2)).alloc (.cells #[.int .i64 1, .int .i64 0, .int .i64 2, .int .i64 3] 2)).alloc (.cells #[.int .i64 1, .int .i64 0, .int .i64 2, .int .i64 3] 2)).alloc (.cells #[.slice (some ⟨w2.heap.size, 0, none⟩) 4 4, .slice (some ⟨w2.heap.size + 1, 0, none⟩) 4 4, .slice (some ⟨w2.heap.size + 1 + 1, 0, none⟩) 4 4, .slice (some ⟨w2.heap.size + 1 + 1 + 1, 0, none⟩) 4 4] 27))
        clear h1n hnm hn12
        go_wp2_with fail
        refine (l02Involutive_any [[0, 1, 3, 2], [0, 1, 3, 2], [1, 0, 2, 3], [1, 0, 2, 3]] _ _ (lit4_rows w2) (by decide +kernel) (by decide +kernel)).mono ?_
        rintro e w9 ⟨v9, y9, T, U, rfl, ht, hu, hok, hl, -, hx⟩
        have hT9 := touch_ext (touch_ext HT.out HY.out) hx
        have hr9 := (HR.out.ext HY.out).ext hx
        have hs9 := (HS.out.ext HY.out).ext hx
        have hz9 := Nat.lt_of_lt_of_le HR.out.1 HY.out.size
        have hq9 : 1 ≤ T.length ∧ T.length ≤ most := by rw [hl]; exact ⟨by decide, h4⟩
        clear hx
        obtain ⟨-, q0, q1, q2, q3⟩ := hr9
        obtain ⟨-, d1, d2, rfl, -⟩ := id ht
        obtain ⟨-, d3, d4, rfl, -⟩ := id hu
        have HEND := Lib.hid (drawS_end (S := S) (Q := fun m => 1 ≤ m ∧ m ≤ most) (v0 := .slice (some ⟨d1, 0, none⟩) T.length d2) (y0 := .slice (some ⟨d3, 0, none⟩) U.length d4) rfl hz9 ht hu hok rfl hq9 hs9 hlt hT9)
        clear ht hu hok hs9 hT9 hq9 hl
        go_wp2
        exact bodyPost_ret (v := .agg #[.slice (some ⟨d1, 0, none⟩) T.length d2, .slice (some ⟨d3, 0, none⟩) U.length d4]) (by simp [results, Tryz.results130, go_sem, q0, q1]) rfl HEND.out
      · have h4i : ¬ (4 : Int) ≤ (most : Int) := by omega
        go_wp2_with fail
        refine (l02Twisted_any S n _ HS.out h1n hn12).mono ?_
        rintro e w9 ⟨v9, y9, T, U, rfl, ht, hu, hok, hl, hs9, hT⟩
        have hT9 := HT.out.trans hT
        have hr9 := HR.out.touchS hT (by omega)
        have hz9 : w.heap.size < w2.heap.size := HR.out.1
        have hq9 : 1 ≤ T.length ∧ T.length ≤ most := by rw [hl]; omega
        obtain ⟨-, q0, q1, q2, q3⟩ := hr9
        obtain ⟨-, d1, d2, rfl, -⟩ := id ht
        obtain ⟨-, d3, d4, rfl, -⟩ := id hu
        have HEND := Lib.hid (drawS_end (S := S) (Q := fun m => 1 ≤ m ∧ m ≤ most) (v0 := .slice (some ⟨d1, 0, none⟩) T.length d2) (y0 := .slice (some ⟨d3, 0, none⟩) U.length d4) rfl hz9 ht hu hok rfl hq9 hs9 hlt hT9)
        clear ht hu hok hs9 hT9 hq9 hl
        go_wp2
        exact bodyPost_ret (v := .agg #[.slice (some ⟨d1, 0, none⟩) T.length d2, .slice (some ⟨d3, 0, none⟩) U.length d4]) (by simp [results, Tryz.results130, go_sem, q0, q1]) rfl HEND.out
    | 5, _ =>
      by_cases hn2 : 2 ≤ n
      · have hn2i : (2 : Int) ≤ (n : Int) := by omega
        go_wp2_with fail
        refine (l02Polygon_any n _ h1n hn12).mono ?_
        rintro e w5 ⟨v5, y5, T5, U5, rfl, ht5, hu5, hok5, hl5, -, hx5⟩
        have HT5 := Lib.hid (touch_ext HT.out hx5)
        have HR5 := Lib.hid (HR.out.ext hx5)
        have HS5 := Lib.hid (HS.out.ext hx5)
        go_wp2_with fail
        refine (l02Inverse_p T5 U5 _ _ _ ht5.rows hu5.rows hok5).mono ?_
        rintro e w9 ⟨v9, y9, T, U, rfl, ht, hu, hok, hl, -, hx⟩
        have hT9 := touch_ext HT5.out hx
        have hr9 := HR5.out.ext hx
        have hs9 := HS5.out.ext hx
        have hz9 : w.heap.size < w5.heap.size := HR5.out.1
        have hq9 : 1 ≤ T.length ∧ T.length ≤ most := by rw [hl, hl5]; omega
        clear ht5 hu5 hok5 hl5 hx5
        obtain ⟨-, q0, q1, q2, q3⟩ := hr9
        obtain ⟨-, d1, d2, rfl, -⟩ := id ht
        obtain ⟨-, d3, d4, rfl, -⟩ := id hu
        have HEND := Lib.hid (drawS_end (S := S) (Q := fun m => 1 ≤ m ∧ m ≤ most) (v0 := .slice (some ⟨d1, 0, none⟩) T.length d2) (y0 := .slice (some ⟨d3, 0, none⟩) U.length d4) rfl hz9 ht hu hok rfl hq9 hs9 hlt hT9)
        clear ht hu hok hs9 hT9 hq9 hl
        go_wp2
        exact bodyPost_ret (v := .agg #[.slice (some ⟨d1, 0, none⟩) T.length d2, .slice (some ⟨d3, 0, none⟩) U.length d4]) (by simp [results, Tryz.results130, go_sem, q0, q1]) rfl HEND.out
      · have hn2i : ¬ (2 : Int) ≤ (n : Int) := by omega
        go_wp2_with fail
        refine (l02Twisted_any S n _ HS.out h1n hn12).mono ?_
        rintro e w9 ⟨v9, y9, T, U, rfl, ht, hu, hok, hl, hs9, hT⟩
        have hT9 := HT.out.trans hT
        have hr9 := HR.out.touchS hT (by omega)
        have hz9 : w.heap.size < w2.heap.size := HR.out.1
        have hq9 : 1 ≤ T.length ∧ T.length ≤ most := by rw [hl]; omega
        obtain ⟨-, q0, q1, q2, q3⟩ := hr9
        obtain ⟨-, d1, d2, rfl, -⟩ := id ht
        obtain ⟨-, d3, d4, rfl, -⟩ := id hu
        have HEND := Lib.hid (drawS_end (S := S) (Q := fun m => 1 ≤ m ∧ m ≤ most) (v0 := .slice (some ⟨d1, 0, none⟩) T.length d2) (y0 := .slice (some ⟨d3, 0, none⟩) U.length d4) rfl hz9 ht hu hok rfl hq9 hs9 hlt hT9)
        clear ht hu hok hs9 hT9 hq9 hl
        go_wp2
        exact bodyPost_ret (v := .agg #[.slice (some ⟨d1, 0, none⟩) T.length d2, .slice (some ⟨d3, 0, none⟩) U.length d4]) (by simp [results, Tryz.results130, go_sem, q0, q1]) rfl HEND.out
    | 6, _ =>
      by_cases h4 : 3 ≤ most
      · have h4i : (3 : Int) ≤ (most : Int) := by omega
        have HY := Lib.hid (((((Ext.refl w2).alloc (.cells #[.int .i64 0, .int .i64 1, .int .i64 2] 2)).alloc (.cells #[.int .i64 0, .int .i64 1, .int .i64 2] 2)).alloc (.cells #[.int .i64 1, .int .i64 0, .int .i64 2] 2)).alloc (.cells #[.slice (some ⟨w2.heap.size, 0, none⟩) 3 3, .slice (some ⟨w2.heap.size + 1, 0, none⟩) 3 3, .slice (some ⟨w2.heap.size + 1 + 1, 0, none⟩) 3 3] 27))
        clear h1n hnm hn12
        go_wp2_with fail
        refine (l02Involutive_any [[0, 1, 2], [0, 1, 2], [1, 0, 2]] _ _ (lit3_rows w2) (by decide +kernel) (by decide +kernel)).mono ?_
        rintro e w9 ⟨v9, y9, T, U, rfl, ht, hu, hok, hl, -, hx⟩
        have hT9 := touch_ext (touch_ext HT.out HY.out) hx
        have hr9 := (HR.out.ext HY.out).ext hx
        have hs9 := (HS.out.ext HY.out).ext hx
        have hz9 := Nat.lt_of_lt_of_le HR.out.1 HY.out.size
        have hq9 : 1 ≤ T.length ∧ T.length ≤ most := by rw [hl]; exact ⟨by decide, h4⟩
        clear hx
        obtain ⟨-, q0, q1, q2, q3⟩ := hr9
        obtain ⟨-, d1, d2, rfl, -⟩ := id ht
        obtain ⟨-, d3, d4, rfl, -⟩ := id hu
        have HEND := Lib.hid (drawS_end (S := S) (Q := fun m => 1 ≤ m ∧ m ≤ most) (v0 := .slice (some ⟨d1, 0, none⟩) T.length d2) (y0 := .slice (some ⟨d3, 0, none⟩) U.length d4) rfl hz9 ht hu hok rfl hq9 hs9 hlt hT9)
        clear ht hu hok hs9 hT9 hq9 hl
        go_wp2
        exact bodyPost_ret (v := .agg #[.slice (some ⟨d1, 0, none⟩) T.length d2, .slice (some ⟨d3, 0, none⟩) U.length d4]) (by simp [results, Tryz.results130, go_sem, q0, q1]) rfl HEND.out
      · have h4i : ¬ (3 : Int) ≤ (most : Int) := by omega
        go_wp2_with fail
        refine (l02Twisted_any S n _ HS.out h1n hn12).mono ?_
        rintro e w9 ⟨v9, y9, T, U, rfl, ht, hu, hok, hl, hs9, hT⟩
        have hT9 := HT.out.trans hT
        have hr9 := HR.out.touchS hT (by omega)
        have hz9 : w.heap.size < w2.heap.size := HR.out.1
        have hq9 : 1 ≤ T.length ∧ T.length ≤ most := by rw [hl]; omega
        obtain ⟨-, q0, q1, q2, q3⟩ := hr9
        obtain ⟨-, d1, d2, rfl, -⟩ := id ht
        obtain ⟨-, d3, d4, rfl, -⟩ := id hu
        have HEND := Lib.hid (drawS_end (S := S) (Q := fun m => 1 ≤ m ∧ m ≤ most) (v0 := .slice (some ⟨d1, 0, none⟩) T.length d2) (y0 := .slice (some ⟨d3, 0, none⟩) U.length d4) rfl hz9 ht hu hok rfl hq9 hs9 hlt hT9)
        clear ht hu hok hs9 hT9 hq9 hl
        go_wp2
        exact bodyPost_ret (v := .agg #[.slice (some ⟨d1, 0, none⟩) T.length d2, .slice (some ⟨d3, 0, none⟩) U.length d4]) (by simp [results, Tryz.results130, go_sem, q0, q1]) rfl HEND.out
    | 7, _ =>
      go_wp2_with fail
      refine (l02Twisted_any S n _ HS.out h1n hn12).mono ?_
      rintro e w9 ⟨v9, y9, T, U, rfl, ht, hu, hok, hl, hs9, hT⟩
      have hT9 := HT.out.trans hT
      have hr9 := HR.out.touchS hT (by omega)
      have hz9 : w.heap.size < w2.heap.size := HR.out.1
      have hq9 : 1 ≤ T.length ∧ T.length ≤ most := by rw [hl]; omega
      obtain ⟨-, q0, q1, q2, q3⟩ := hr9
      obtain ⟨-, d1, d2, rfl, -⟩ := id ht
      obtain ⟨-, d3, d4, rfl, -⟩ := id hu
      have HEND := Lib.hid (drawS_end (S := S) (Q := fun m => 1 ≤ m ∧ m ≤ most) (v0 := .slice (some ⟨d1, 0, none⟩) T.length d2) (y0 := .slice (some ⟨d3, 0, none⟩) U.length d4) rfl hz9 ht hu hok rfl hq9 hs9 hlt hT9)
      clear ht hu hok hs9 hT9 hq9 hl
      go_wp2
      exact bodyPost_ret (v := .agg #[.slice (some ⟨d1, 0, none⟩) T.length d2, .slice (some ⟨d3, 0, none⟩) U.length d4]) (by simp [results, Tryz.results130, go_sem, q0, q1]) rfl HEND.out
end Go.Proofs.YtjfjpngajboidaaGreat


namespace Go.Proofs.YtjfjpngajboidaaGreat
set_option linter.unusedVariables false
set_option linter.unusedSimpArgs false
open Go.RowKit
open Go.Deep
theorem Touch.ofDrewE {lo hi : Nat} {w w' : World} (h : Touch lo hi w.drew w') : Touch lo hi w w' := ⟨h.os, h.tape, h.output, h.size, h.block⟩

set_option maxRecDepth 100000 in
set_option maxHeartbeats 4000000 in
theorem l02Draw_any (S most : Nat) (w : World) (hs : Src S w) (h1 : 1 ≤ most) (h12 : most ≤ 12) :
    Calls Tryz.prog 101 #[.pointer (some ⟨S, 0, none⟩), .int .i64 most] w (DrawS S (fun m => 1 ≤ m ∧ m ≤ most) w) := by
  have hlt := hs.lt
  have hx0 : Ext w (w.alloc (.cells #[.slice none 0 0, .slice none 0 0] 26)) := (Ext.refl _).alloc _
  have HR0 := Lib.hid (BoxV.new w (.slice none 0 0) (.slice none 0 0) 26)
  have HS0 := Lib.hid (hs.ext hx0)
  have HT0 := Lib.hid (touch_ext (S := S) (Touch.of_ext (Ext.refl w)) hx0)
  have hz0 : (w.alloc (.cells #[.slice none 0 0, .slice none 0 0] 26)).heap.size = w.heap.size + 1 := by simp
  clear hs hx0
  go_enter Tryz.func101, Tryz.ntmps101
  go_wp2_with fail
  generalize (w.alloc (.cells #[.slice none 0 0, .slice none 0 0] 26)) = w0 at *
  refine (l02Any_any S most w0 HS0.out h1 h12).mono ?_
  rintro e w1 ⟨v1, y1, T, U, rfl, ht, hu, hok, hq, hs1, hT1⟩
  obtain ⟨ht0, d1, d2, rfl, hd1⟩ := id ht
  obtain ⟨hu0, d3, d4, rfl, hd3⟩ := id hu
  have hxb : Ext w1 (w1.alloc (.cells #[.slice (some ⟨d1, 0, none⟩) T.length d2, .slice (some ⟨d3, 0, none⟩) U.length d4] 26)) := (Ext.refl _).alloc _
  have HB1 := Lib.hid (BoxV.new w1 (.slice (some ⟨d1, 0, none⟩) T.length d2) (.slice (some ⟨d3, 0, none⟩) U.length d4) 26)
  have HT1 := Lib.hid (touch_ext (HT0.out.trans hT1) hxb)
  have HR1 := Lib.hid ((HR0.out.touchS hT1 (by omega)).ext hxb)
  have HA1 := Lib.hid (ht.ext hxb)
  have HU1 := Lib.hid (hu.ext hxb)
  have HS1 := Lib.hid (hs1.ext hxb)
  have hz1 := hT1.size
  have hzb : (w1.alloc (.cells #[.slice (some ⟨d1, 0, none⟩) T.length d2, .slice (some ⟨d3, 0, none⟩) U.length d4] 26)).heap.size = w1.heap.size + 1 := by simp
  have HOK := Lib.hid hok
  have HQ := Lib.hid hq
  have ht12 : T.length ≤ 12 := by omega
  have ht1 : 1 ≤ T.length := hq.1
  clear ht hu hok hs1 hT1 hxb HT0 HR0 HS0 ht0 hu0 hd1 hd3
  go_wp2_with fail
  generalize (w1.alloc (.cells #[.slice (some ⟨d1, 0, none⟩) T.length d2, .slice (some ⟨d3, 0, none⟩) U.length d4] 26)) = w2 at *
  refine (l01Next_any S _ _ HS1.out).mono ?_
  rintro e w3 ⟨r, rfl, r1, r2, -, hs3, hT3⟩
  have HT3 := Lib.hid (HT1.out.trans hT3)
  have HR3 := Lib.hid (HR1.out.touchS hT3 (by omega))
  have HB3 := Lib.hid (HB1.out.touchS hT3 (by omega))
  have HA3 := Lib.hid (HA1.out.touch hT3 (by omega))
  have HU3 := Lib.hid (HU1.out.touch hT3 (by omega))
  have HS3 := Lib.hid hs3
  have hz3 := hT3.size
  clear hT3 hs3 HT1 HR1 HB1 HA1 HU1 HS1 r2
  obtain ⟨-, k0, k1, -, -⟩ := HB3.out
  by_cases hr : 0 < r
  case neg =>
    obtain ⟨-, q0, q1, q2, q3⟩ := HR3.out
    go_wp2
    exact bodyPost_ret (v := .agg #[.slice (some ⟨d1, 0, none⟩) T.length d2, .slice (some ⟨d3, 0, none⟩) U.length d4]) (by simp [results, Tryz.results101, go_sem, q0, q1]) rfl (drawS_end (w1 := w0) (n := T.length) rfl (by omega) HA3.out HU3.out HOK.out rfl HQ.out HS3.out hlt HT3.out)
  case pos =>
    go_wp2_with fail
    go_region_with (first
      | (go_at_call 81; refine (l01Draw_any S T.length _ (HS3.out.ext (by (repeat first | (with_reducible exact Ext.refl _) | (with_reducible assumption) | (with_reducible apply Ext.drew) | (with_reducible apply kx_drewN) | (with_reducible apply kx_alloc) | ((with_reducible refine kx_set ?_ ?_); (first | (simp only []; omega) | (simp; omega) | (focus (simp; done)))) ))) ht1 (by omega)).mono ?_; rintro e wA ⟨p, bp, cp, rfl, hpl, hp, hg, hsA, hTA⟩; have hTA := (show Touch S (S + 1) w3 wA by first | exact hTA | exact Touch.ofDrewE hTA); have HRA := Lib.hid (HR3.out.touchS hTA (by omega)); have hzA := hTA.size; have hBA := HB3.out.touchS hTA (by omega); obtain ⟨-, k0, k1, -, -⟩ := hBA)
      | (go_at_call 131; refine (l02Rename_any T U p _ _ _ _ ((HA3.out.touch hTA (by omega)).rows.ext (by (repeat first | (with_reducible exact Ext.refl _) | (with_reducible assumption) | (with_reducible apply Ext.drew) | (with_reducible apply kx_drewN) | (with_reducible apply kx_alloc) | ((with_reducible refine kx_set ?_ ?_); (first | (simp only []; omega) | (simp; omega) | (focus (simp; done)))) ))) ((HU3.out.touch hTA (by omega)).rows.ext (by (repeat first | (with_reducible exact Ext.refl _) | (with_reducible assumption) | (with_reducible apply Ext.drew) | (with_reducible apply kx_drewN) | (with_reducible apply kx_alloc) | ((with_reducible refine kx_set ?_ ?_); (first | (simp only []; omega) | (simp; omega) | (focus (simp; done)))) ))) ((hg.ints (by omega) (by simp)).ext (by (repeat first | (with_reducible exact Ext.refl _) | (with_reducible assumption) | (with_reducible apply Ext.drew) | (with_reducible apply kx_drewN) | (with_reducible apply kx_alloc) | ((with_reducible refine kx_set ?_ ?_); (first | (simp only []; omega) | (simp; omega) | (focus (simp; done)))) ))) HOK.out hpl (isoOk_plain.2 ⟨hpl, hp⟩)).mono ?_; rintro e wB ⟨vB, yB, A, B, rfl, tA, tB, okB, lB, -, xB⟩; obtain ⟨-, eA, cA, rfl, -⟩ := id tA; obtain ⟨-, eB, cB, rfl, -⟩ := id tB; have HRB := Lib.hid (BoxV.ext (W' := wB) HRA.out (by (repeat first | (with_reducible exact Ext.refl _) | (with_reducible assumption) | (with_reducible apply Ext.drew) | (with_reducible apply kx_drewN) | (with_reducible apply kx_alloc) | ((with_reducible refine kx_set ?_ ?_); (first | (simp only []; omega) | (simp; omega) | (focus (simp; done)))) | (with_reducible refine Ext.trans ?_ xB) ))); obtain ⟨-, q0, q1, q2, q3⟩ := HRB.out))
    all_goals
      have xB' := (show Ext wA wB by (repeat first | (with_reducible exact Ext.refl _) | (with_reducible assumption) | (with_reducible apply Ext.drew) | (with_reducible apply kx_drewN) | (with_reducible apply kx_alloc) | ((with_reducible refine kx_set ?_ ?_); (first | (simp only []; omega) | (simp; omega) | (focus (simp; done)))) | (with_reducible refine Ext.trans ?_ xB) ))
      have hsB := hsA.ext xB'
      have hTB := touch_ext (HT3.out.trans hTA) xB'
      have zd : wA.drew.heap.size = wA.heap.size := rfl
      go_wp2
      exact bodyPost_ret (v := .agg #[.slice (some ⟨eA, 0, none⟩) A.length cA, .slice (some ⟨eB, 0, none⟩) B.length cB]) (by simp [results, Tryz.results101, go_sem, q0, q1, lB]) rfl (drawS_end (n := T.length) rfl (show w.heap.size < wA.heap.size by omega) tA tB okB lB HQ.out hsB hlt hTB)
end Go.Proofs.YtjfjpngajboidaaGreat


namespace Go.Proofs.YtjfjpngajboidaaGreat
set_option linter.unusedVariables false
set_option linter.unusedSimpArgs false
open Go.RowKit
open Go.Deep

def RowsP (O : Nat → Prop) (w : World) (v : Value) (t : List (List Int)) : Prop :=
  t.length ≤ 1048576 ∧ ∃ b o c, v = .slice (some ⟨b, o, none⟩) t.length c ∧ O b ∧ ∀ i, i < t.length → ∃ b1 o1 c1, w.cell? ⟨b, o + i, none⟩ = some (.slice (some ⟨b1, o1, none⟩) (row t i).length c1) ∧ O b1 ∧ (row t i).length ≤ 1048576 ∧ IntsAt w b1 o1 (row t i)
theorem RowsP.rows {O : Nat → Prop} {w : World} {v : Value} {t : List (List Int)} (h : RowsP O w v t) : Rows w v t := by
  obtain ⟨h0, b, o, c, rfl, hb, h⟩ := h
  refine ⟨h0, b, o, c, rfl, fun i hi => ?_⟩
  obtain ⟨b1, o1, c1, h1, h2, h3, h4⟩ := h i hi
  exact ⟨_, h1, h3, b1, o1, c1, rfl, h4⟩
theorem RowsP.shape {O : Nat → Prop} {w : World} {v : Value} {t : List (List Int)} (h : RowsP O w v t) : ∃ b o c, v = .slice (some ⟨b, o, none⟩) t.length c := by
  obtain ⟨-, b, o, c, rfl, -⟩ := h
  exact ⟨b, o, c, rfl⟩
theorem RowsP.weaken {O O' : Nat → Prop} {w : World} {v : Value} {t : List (List Int)} (h : RowsP O w v t) (ho : ∀ k, O k → O' k) : RowsP O' w v t := by
  obtain ⟨h0, b, o, c, rfl, hb, h⟩ := h
  refine ⟨h0, b, o, c, rfl, ho _ hb, fun i hi => ?_⟩
  obtain ⟨b1, o1, c1, h1, h2, h3, h4⟩ := h i hi
  exact ⟨b1, o1, c1, h1, ho _ h2, h3, h4⟩
theorem RowsP.keep {O : Nat → Prop} {w w' : World} {v : Value} {t : List (List Int)} (h : RowsP O w v t) (hn : t ≠ []) (hr : ∀ i, i < t.length → row t i ≠ []) (hk : ∀ k, O k → k < w.heap.size → w'.heap[k]? = w.heap[k]?) : RowsP O w' v t := by
  obtain ⟨h0, b, o, c, rfl, hb, h⟩ := h
  refine ⟨h0, b, o, c, rfl, hb, fun i hi => ?_⟩
  obtain ⟨b1, o1, c1, h1, h2, h3, h4⟩ := h i hi
  refine ⟨b1, o1, c1, ?_, h2, h3, fun j hj => ?_⟩
  · rw [World.cell?_of_block (w := w) (a := ⟨b, o + i, none⟩) (hk b hb (World.block_lt_of_cell? _ _ h1))]; exact h1
  · rw [World.cell?_of_block (w := w) (a := ⟨b1, o1 + j, none⟩) (hk b1 h2 (World.block_lt_of_cell? _ _ (h4 j hj)))]; exact h4 j hj
theorem RowsP.keep0 {O : Nat → Prop} {w w' : World} {v : Value} {t : List (List Int)} (h : RowsP O w v t) (hk : ∀ k, O k → k < w.heap.size → w'.heap[k]? = w.heap[k]?) : RowsP O w' v t := by
  obtain ⟨h0, b, o, c, rfl, hb, h⟩ := h
  refine ⟨h0, b, o, c, rfl, hb, fun i hi => ?_⟩
  obtain ⟨b1, o1, c1, h1, h2, h3, h4⟩ := h i hi
  refine ⟨b1, o1, c1, ?_, h2, h3, fun j hj => ?_⟩
  · rw [World.cell?_of_block (w := w) (a := ⟨b, o + i, none⟩) (hk b hb (World.block_lt_of_cell? _ _ h1))]; exact h1
  · rw [World.cell?_of_block (w := w) (a := ⟨b1, o1 + j, none⟩) (hk b1 h2 (World.block_lt_of_cell? _ _ (h4 j hj)))]; exact h4 j hj
theorem RowsP.ext {O : Nat → Prop} {w w' : World} {v : Value} {t : List (List Int)} (h : RowsP O w v t) (hx : Ext w w') : RowsP O w' v t := h.keep0 fun k _ hl => hx.block k hl
theorem RowsP.touch {O : Nat → Prop} {lo hi : Nat} {w w' : World} {v : Value} {t : List (List Int)} (h : RowsP O w v t) (hT : Touch lo hi w w') (ho : ∀ k, O k → k < lo ∨ hi ≤ k) : RowsP O w' v t :=
  h.keep0 fun k hk hl => hT.block k hl (by have := ho k hk; omega)
theorem OwnT.rowsP {lo hi : Nat} {w : World} {b : Nat} {t : List (List Int)} (h : OwnT lo hi w b 0 t) (hs : Small t) (c : Nat) : RowsP (fun k => lo ≤ k ∧ k < hi) w (.slice (some ⟨b, 0, none⟩) t.length c) t := by
  obtain ⟨h1, h2, B, O, C, h3, h4⟩ := h
  refine ⟨hs.1, b, 0, c, rfl, ⟨h1, h2⟩, fun i hi => ?_⟩
  obtain ⟨a1, a2, a3⟩ := h3 i hi
  exact ⟨B i, O i, C i, a1, ⟨a2.1, a2.2.1⟩, hs.2 i, a2.2.2.1⟩

def ListP (base n : Nat) (w : World) (v : Value) (ts : List (List (List Int))) : Prop :=
  ∃ a c, v = .slice a ts.length c ∧ ts.length ≤ c ∧ TabsOk n ts ∧ (ts ≠ [] → ∃ b o, a = some ⟨b, o, none⟩) ∧ (ts = [] → a = none ∧ c = 0) ∧
    ∀ b o, a = some ⟨b, o, none⟩ → ∀ i, i < ts.length → ∃ r, w.cell? ⟨b, o + i, none⟩ = some r ∧ RowsP (fun k => base ≤ k) w r (tab ts i)
theorem ListP.nil (base n : Nat) (w : World) : ListP base n w (.slice none 0 0) [] :=
  ⟨none, 0, rfl, Nat.le_refl _, fun k hk => by simp at hk, fun h => absurd rfl h, fun _ => ⟨rfl, rfl⟩, fun b o e => by cases e⟩
theorem ListP.ext {base n : Nat} {w w' : World} {v : Value} {ts : List (List (List Int))} (h : ListP base n w v ts) (hx : Ext w w') : ListP base n w' v ts := by
  obtain ⟨a, c, rfl, h1, h2, h3, h4, h5⟩ := h
  refine ⟨a, c, rfl, h1, h2, h3, h4, fun b o e i hi => ?_⟩
  obtain ⟨r, k1, k2⟩ := h5 b o e i hi
  exact ⟨r, hx.cell k1, k2.ext hx⟩

end Go.Proofs.YtjfjpngajboidaaGreat
