/-
  l13Circles of the reference: all circles of a small named group, as a list in new memory that is not empty.
-/
import Derived.Test.YthlafeefjonkdaaGreatDoorJx26
namespace Go.Proofs.YthlafeefjonkdaaGreatDoor
set_option linter.unusedVariables false
set_option linter.unusedSimpArgs false
open Go.RowKit
attribute [local go_sem ↓] Go.wp_at_zero Go.wp_at_succ
open Go.Deep

theorem rowsR_auto {w : World} {v : Value} {n : Nat} {t : List (List Int)} (h : RowsR w v t) (h0 : 0 < t.length) (h20 : t.length ≤ 1048576) (hr : ∀ i, i < t.length → (row t i).length = n) (h1 : 1 ≤ n) (h12 : n ≤ 12) : Rows w v t := by
  obtain ⟨a, c, rfl, h⟩ := h
  obtain ⟨b, o, rfl, h2⟩ := h (ne_nil_of_lt h0)
  refine ⟨h20, b, o, c, rfl, fun i hi => ?_⟩
  obtain ⟨r, k1, k2⟩ := h2 i hi
  have hl := hr i hi
  refine ⟨r, k1, by omega, ?_⟩
  obtain ⟨a2, c2, e2, k3⟩ := k2
  obtain ⟨b2, o2, rfl, k4⟩ := k3 (ne_nil_of_lt (k := 0) (by omega))
  exact ⟨b2, o2, c2, e2, k4⟩

theorem len_rep (n : Nat) : (List.replicate n (-1 : Int)).length = n := List.length_replicate

theorem ix_rep {n i : Nat} (hi : i < n) : ix (List.replicate n (-1 : Int)) i = -1 := by rw [ix_eq]; simp [List.getD, hi]

theorem known0 {n m : Nat} (h1 : 1 ≤ n) (hm : 0 < m) : KOk n m ((List.replicate n (-1 : Int)).set 0 0) ∧ Zer ((List.replicate n (-1 : Int)).set 0 0) ∧ unset ((List.replicate n (-1 : Int)).set 0 0) ≤ n - 1 := by
  have hK : KOk n m (List.replicate n (-1 : Int)) := ⟨len_rep n, fun i hi => by rw [ix_rep hi]; omega⟩
  refine ⟨hK.set (by omega) (Int.le_refl _) (by omega), Zer.set hK (fun i hi => by rw [len_rep] at hi; rw [ix_rep hi]; omega) (by omega), ?_⟩
  have h2 := unset_set hK (z := 0) (v := 0) (by omega) (Int.le_refl _) (by rw [ix_rep (by omega)]; omega)
  have h3 := unset_le (List.replicate n (-1 : Int))
  rw [len_rep] at h3
  omega

set_option maxRecDepth 100000 in
set_option maxHeartbeats 4000000 in
theorem l13Circles_any (n : Nat) (T : List (List Int)) (v : Value) (w : World) (hv : Rows w v T) (h1 : 1 ≤ n) (h7 : n ≤ 7) (hT : T ∈ namedL n) :
    Calls Tryz.prog 61 #[v] w fun e w' => ∃ v' xs base, e = .returned v' ∧ CircL base n w' v' xs ∧ xs ≠ [] ∧ xs.length ≤ 2199023255552 ∧ w.heap.size ≤ base ∧ Ext w w' := by
  have ok := namedL_mem h1 (by omega) hT
  have hG := groupB_iff.1 ok.1
  have hl := ok.2
  have hpow := auto_pow h1 h7 hT
  have hA : AutOk n (isoL n [T] [T]) := by
    have := autOk_isoL (n := T.length) (az := [T]) (grp_tabs hG)
    rwa [hl] at this
  have hfew : (isoL n [T] [T]).length ≤ 1048576 := by
    have h := few_iso (n := n) (az := [T]) (bz := [T]) (by simp) (by rw [tab_one]; exact hG) (by rw [tab_one]; exact hG) (by rw [tab_one]; exact hl) (by rw [tab_one]; exact hl) (by omega)
    omega
  have HG := Lib.hid hG
  have HTO := Lib.hid hG.1
  obtain ⟨hlen, b, o, c, rfl, -⟩ := id hv
  rw [hl] at hv ⊢
  have HV := Lib.hid hv
  clear hv hT ok hG
  obtain ⟨A, hAe⟩ : ∃ A, A = isoL n [T] [T] := ⟨_, rfl⟩
  have HAE := Lib.hid hAe
  rw [← hAe] at hpow hA hfew
  have HPW := Lib.hid hpow
  have HA := Lib.hid hA
  have HLN := Lib.hid hl
  have hApos := hA.pos
  have HKK := Lib.hid (known0 (n := n) (m := A.length) h1 hApos)
  clear hpow hA hAe
  have hx0 : Ext w (w.alloc (.cells #[] 2)) := (Ext.refl _).alloc _
  have hi0 := GrowI.lit (e := 2) (base := w.heap.size) (w := w) (Nat.le_refl _)
  go_enter Tryz.func61, Tryz.ntmps61
  go_wp2_with fail
  go_loopw [3, 4] (fun v x wr => ∃ k : Nat, k ≤ n ∧ x = .int .i64 k ∧ GrowI 2 w.heap.size wr v (List.replicate k (-1 : Int)) ∧ v ≠ .slice none 0 0 ∧ Ext w wr) (fun _ x _ => n - (intOf x).toNat)
  case atStart => exact ⟨0, Nat.zero_le _, rfl, hi0, by simp, hx0⟩
  case round =>
    clear hx0 hi0
    obtain ⟨k, hk, rfl, hgi, hvi, hx⟩ := hrel
    have HGI := Lib.hid hgi
    have HVI := Lib.hid hvi
    have HX := Lib.hid hx
    by_cases hlt : k < n
    case pos =>
      have hki : (k : Int) < (n : Int) := by omega
      have HL := Lib.hid (show (List.replicate k (-1 : Int)).length ≤ 1048576 by rw [len_rep]; omega)
      have zx := hx.size
      clear hgi hvi hx
      go_wp2_with (at_builtin; refine wpList_append_int rfl _ _ 29 2 rfl Tryz.underlying29 infoInt w.heap.size _ _ rfl (HGI.out.alloc _) _ _ rfl (cell_new _ _ _) HL.out (by simp; omega) ?_)
      intro v' w3 hi3 hgr hv3
      have HX3 := Lib.hid (Ext.grown (HX.out.trans (ext_box _ _ _)) hgr (HGI.out.alloc _) (Nat.le_refl _))
      clear hgr
      go_wp2_with fail
      go_roundw
      case rel => exact ⟨k + 1, by omega, by go_num, by rw [List.replicate_succ']; exact hi3, hv3, HX3.out⟩
      case measure => simp [intOf]; omega
    case neg =>
      have hki : ¬ (k : Int) < (n : Int) := by omega
      have hkn : k = n := by omega
      rw [hkn] at hgi
      obtain ⟨bu, cu, rfl, hou⟩ := hgi.own hvi
      have cz := hou.2.2.1 0 (by rw [len_rep]; omega)
      have fz := hou.2.2.2 0 (by rw [len_rep]; omega)
      simp only [Nat.add_zero] at cz fz
      have hbu := hou.1
      have hbu2 := hou.2.1
      have ho5 := hou.put (j := 0) (by rw [len_rep]; omega) 0
      simp only [Nat.add_zero] at ho5
      have HI5 := Lib.hid (show Ints (wr.setCell ⟨bu, 0, none⟩ (.int .i64 0)) (.slice (some ⟨bu, 0, none⟩) n cu) ((List.replicate n (-1 : Int)).set 0 0) from by
        have := ho5.2.2.1.ints (by rw [List.length_set, len_rep]; omega) cu
        rwa [List.length_set, len_rep] at this)
      have HX5 := Lib.hid (hx.setNew (p := ⟨bu, 0, none⟩) hbu (.int .i64 0))
      rw [len_rep]
      clear hkn hgi hvi hou ho5 hx HGI HX HVI
      have HAU := Lib.hid (l10Automorphisms_any T _ _ (by have := HV.out.ext HX5.out; exact this) HG.out)
      rw [HLN.out, ← HAE.out] at HAU
      go_wp2_with fail
      refine (HAU.out).mono ?_
      rintro e w6 ⟨av, rfl, hra, hx6⟩
      have HAR := Lib.hid (rowsR_auto (n := n) hra hApos hfew (fun i hi => (HA.out.perm i hi).1) h1 (by omega))
      have HX6 := Lib.hid (HX5.out.trans hx6)
      have HI6 := Lib.hid (HI5.out.ext hx6)
      clear hra hx6 HAU
      go_wp2_with fail
      refine (l13Search_any n T A _ _ w6 (HV.out.ext HX6.out) HAR.out HTO.out HLN.out HA.out (n - 1) _ [] _ _ _ HKK.out.2.2 (Ext.refl _) HI6.out HKK.out.1 (CircL.nil _ _ _) (by have := HPW.out; simp; omega)).mono ?_
      rintro e w7 ⟨v7, xs, rfl, hc7, -, h72, h73, hx7⟩
      have HC7 := Lib.hid hc7
      have HN7 := Lib.hid (h72 HKK.out.2.1)
      have HL7 := Lib.hid (show xs.length ≤ 2199023255552 by have := HPW.out; simp at h73; omega)
      have HX7 := Lib.hid (HX6.out.trans hx7)
      clear hc7 h72 h73 hx7
      go_wp2
      go_ret
      exact ⟨v7, xs, _, rfl, HC7.out, HN7.out, HL7.out, HX6.out.size, HX7.out⟩
end Go.Proofs.YthlafeefjonkdaaGreatDoor


namespace Go.Proofs.YthlafeefjonkdaaGreatDoor
set_option linter.unusedVariables false
set_option linter.unusedSimpArgs false
open Go.RowKit
attribute [local go_sem ↓] Go.wp_at_zero Go.wp_at_succ
open Go.Deep

theorem RangeP.shift {m : Nat} {l : List Int} (h : RangeP m l) : RangeP (m + 1) (0 :: l.map (· + 1)) := by
  refine ⟨by simp [h.1], fun z => ?_⟩
  rw [List.mem_cons, List.mem_map]
  constructor
  · rintro (rfl | ⟨x, hx, rfl⟩)
    · omega
    · have := (h.2 x).1 hx; omega
  · intro hz
    by_cases e : z = 0
    · exact .inl e
    · exact .inr ⟨z - 1, (h.2 _).2 (by omega), by omega⟩
theorem OwnT.touch {lo hi lo' hi' : Nat} {w w' : World} {b o : Nat} {t : List (List Int)} (h : OwnT lo hi w b o t) (m : Touch lo' hi' w w') (hd : hi ≤ lo' ∨ hi' ≤ lo) (hw : hi ≤ w.heap.size) : OwnT lo hi w' b o t :=
  h.keep fun k h1 h2 => m.block k (by omega) (by omega)
theorem OwnT.ext {lo hi : Nat} {w w' : World} {b o : Nat} {t : List (List Int)} (h : OwnT lo hi w b o t) (hx : Ext w w') (hh : hi ≤ w.heap.size) : OwnT lo hi w' b o t := h.keep fun k _ hk => hx.block k (by omega)
def At (A : Nat) (w6 : World) (v : Value) : Prop := v.ownBlock = some A ∨ ∃ g, v.ownBlock = some g ∧ w6.heap.size ≤ g
theorem At.next {A n : Nat} {w6 wr w' : World} {v v' : Value} (h : At A w6 v) (hs : w6.heap.size ≤ wr.heap.size) (hg : wr.grownBy w' v.ownBlock) (ha : v'.ownBlock = v.ownBlock ∨ v'.ownBlock = some n) (hn : w6.heap.size ≤ n) (hT : Touch A (A + 1) w6 wr) : At A w6 v' ∧ Touch A (A + 1) w6 w' := by
  refine ⟨?_, hg.os.trans hT.os, hg.tape.trans hT.tape, hg.output.trans hT.output, Nat.le_trans hs hg.size, fun k hk hn => (hg.block k (by omega) (fun e => ?_)).trans (hT.block k hk hn)⟩
  · rcases ha with e | e
    · rw [At, e]; exact h
    · exact .inr ⟨_, e, hn⟩
  · rcases h with e2 | ⟨g, e2, hg2⟩
    · rw [e2] at e
      have : k = A := Option.some.inj e
      omega
    · rw [e2] at e
      have : k = g := Option.some.inj e
      omega
end Go.Proofs.YthlafeefjonkdaaGreatDoor


namespace Go.Proofs.YthlafeefjonkdaaGreatDoor
set_option linter.unusedVariables false
set_option linter.unusedSimpArgs false
open Go.RowKit
attribute [local go_sem ↓] Go.wp_at_zero Go.wp_at_succ
open Go.Deep

def DrawTL (S most : Nat) (w : World) (e : Ending) (w' : World) : Prop :=
  ∃ T b c lo hi, e = .returned (.slice (some ⟨b, 0, none⟩) T.length c) ∧ OwnT lo hi w' b 0 T ∧ w.heap.size ≤ lo ∧ hi ≤ w'.heap.size ∧ TableOk T ∧ T.length ≤ most ∧ Src S w' ∧ Touch S (S + 1) w w'

set_option maxRecDepth 100000 in
set_option maxHeartbeats 1000000 in
theorem l10Draw_le (S most : Nat) (w : World) (hs : Src S w) (h1 : 1 ≤ most) (h12 : most ≤ 12) :
    Calls Tryz.prog 41 #[.pointer (some ⟨S, 0, none⟩), .int .i64 most] w (DrawTL S most w) := by
  have hlt := hs.lt
  go_enter Tryz.func41, Tryz.ntmps41
  go_wp2_with fail
  refine (l01Next_any S _ _ hs).mono ?_
  rintro e w1 ⟨r, rfl, r1, r2, -, hs1, hT1⟩
  obtain ⟨q, rfl⟩ := Int.eq_ofNat_of_zero_le r1
  have hq : q < most := by have := r2 (by omega); omega
  have z1 := hT1.size
  have HS := Lib.hid hs1
  have HT := Lib.hid hT1
  clear r1 r2 hs1 hT1 hs
  go_wp2_with fail
  rw [show (1 + (q : Int)) = ((q + 1 : Nat) : Int) by omega]
  obtain ⟨N, hN⟩ : ∃ N, N = q + 1 := ⟨_, rfl⟩
  rw [← hN]
  have hNm : N ≤ most := by omega
  have hN1 : 1 ≤ N := by omega
  have hN12 : N ≤ 12 := by omega
  clear hN
  have HOK := Lib.hid (fun i hi => namedL_ok (n := N) hN1 hN12 (i := i) hi)
  have hlen := namedL_len0 N
  refine (l10Named_any N hN1 hN12 _).mono ?_
  obtain ⟨ts, hts⟩ : ∃ ts, ts = namedL N := ⟨_, rfl⟩
  rw [← hts] at HOK hlen ⊢
  clear hts
  rintro e w2 ⟨v2, rfl, hgd, hx2⟩
  obtain ⟨g, d, rfl⟩ := hgd.slice (by omega)
  have HD := Lib.hid hgd
  have HS := Lib.hid (HS.out.ext hx2)
  have HT := Lib.hid (HT.out.trans (Touch.of_ext hx2))
  have z2 := hx2.size
  clear hgd hx2
  go_wp2_with fail
  refine (l01Next_any S _ _ HS.out).mono ?_
  rintro e w3 ⟨r, rfl, r1, r2, -, hs3, hT3⟩
  obtain ⟨j, rfl⟩ := Int.eq_ofNat_of_zero_le r1
  have hj : j < ts.length := by have := r2 (by omega); omega
  obtain ⟨b, c, p, e1, k1⟩ := HD.out.cell hj
  have hcg := HD.out.lt g rfl
  have e3 := hT3.cell e1 (by simp only []; omega)
  obtain ⟨b', c'', hbe, o1, o2, o3, o4⟩ := k1
  obtain ⟨rfl, rfl⟩ : b = b' ∧ c = c'' := by
    simp only [Value.slice.injEq, Option.some.injEq, Addr.mk.injEq] at hbe
    exact ⟨hbe.1.1, hbe.2.2⟩
  have HO := Lib.hid (o1.touch hT3 (by omega) o4)
  have z3 := hT3.size
  have HS := Lib.hid hs3
  have HT := Lib.hid (HT.out.trans hT3)
  have HTK := Lib.hid (HOK.out j hj)
  clear r1 r2 hs3 hT3 e1 o1 hbe HD
  obtain ⟨T, hTe⟩ : ∃ T, T = tab ts j := ⟨_, rfl⟩
  rw [← hTe] at HO HTK e3 o2
  have o2' := o2
  clear hTe
  have hG := groupB_iff.1 HTK.out.1
  have hTm : T.length ≤ most := by rw [HTK.out.2]; exact hNm
  have HG := Lib.hid hG
  have ht1 := hG.1.1
  have ht12 := hG.1.2.1
  clear hG
  by_cases hn1 : (T.length : Int) ≤ 1
  case pos =>
    go_wp2_with fail
    go_ret
    exact ⟨T, b, c, p.1, p.2, rfl, HO.out, by omega, by omega, HG.out.1, by omega, HS.out, HT.out⟩
  case neg =>
    go_wp2_with fail
    refine (l01Next_any S _ _ HS.out).mono ?_
    rintro e w4 ⟨r, rfl, r1, r2, -, hs4, hT4⟩
    have HO := Lib.hid (HO.out.touch hT4 (by omega) (by omega))
    have z4 := hT4.size
    have HS := Lib.hid hs4
    have HT := Lib.hid (HT.out.trans hT4)
    clear hs4 hT4 r2
    by_cases hr : r = 0
    case neg =>
      go_wp2_with fail
      go_ret
      exact ⟨T, b, c, p.1, p.2, rfl, HO.out, by omega, by omega, HG.out.1, by omega, HS.out, HT.out⟩
    case pos =>
      subst hr
      clear r1
      go_wp2_with fail
      have hx5 := ext_box w4 (.int .i64 0) 2
      have HG5 := Lib.hid (GrowI.one (e := 2) (base := w4.heap.size) (w := w4) (x := 0) (Nat.le_refl _))
      have z5 : w4.heap.size + 1 ≤ (w4.alloc (.cells #[.int .i64 0] 2)).heap.size := by simp
      have HO := Lib.hid (HO.out.ext hx5 (by omega))
      have HS := Lib.hid (HS.out.ext hx5)
      have HT := Lib.hid (HT.out.trans (Touch.of_ext hx5))
      generalize (w4.alloc (.cells #[.int .i64 0] 2)) = w5 at *
      clear hx5
      rw [show ((T.length : Int) - 1) = ((T.length - 1 : Nat) : Int) by omega]
      refine (l03DrawPerm_any S (T.length - 1) _ HS.out (by omega)).mono ?_
      rintro e w6 ⟨rs, bp, cp, rfl, hrp, hop, hs6, hT6⟩
      have hlt4 : S < w4.heap.size := by omega
      have HO := Lib.hid (HO.out.touch hT6 (by omega) (by omega))
      have HG6 := Lib.hid (HG5.out.touch hT6 (by omega))
      have z6 := hT6.size
      have HS := Lib.hid hs6
      have HT := Lib.hid (HT.out.trans hT6)
      have HR := Lib.hid hrp
      have HI := Lib.hid hop.2.2.1
      have hbp := hop.1
      have hbp2 := hop.2.1
      have hrl := hrp.1
      have HRL := Lib.hid hrl
      obtain ⟨R1, hR1⟩ : ∃ R1, R1 = rs.map (· + 1) := ⟨_, rfl⟩
      have HR1L := Lib.hid (show R1.length = T.length - 1 by rw [hR1, List.length_map]; exact hrl)
      have HR1X := Lib.hid (show ∀ k, k < T.length - 1 → ix R1 k = ix rs k + 1 from fun k hk => by
        rw [hR1, ix_eq, ix_eq]
        simp [List.getD, List.getElem?_eq_getElem (show k < rs.length by omega)])
      have HRP := Lib.hid (show RangeP (T.length - 1 + 1) (0 :: R1) by rw [hR1]; exact HR.out.shift)
      clear hR1
      clear hs6 hT6 hop hrp HG5 hrl
      go_wp2_with fail
      go_loopw [8, 10] (fun v i wr => ∃ k : Nat, k ≤ T.length - 1 ∧ i = .int .i64 k ∧ GrowI 2 w4.heap.size wr v (0 :: R1.take k) ∧ v ≠ .slice none 0 0 ∧ At w4.heap.size w6 v ∧ w6.heap.size ≤ wr.heap.size ∧ Touch w4.heap.size (w4.heap.size + 1) w6 wr) (fun _ i _ => T.length - 1 - (intOf i).toNat)
      case atStart => exact ⟨0, Nat.zero_le _, rfl, HG6.out, by simp, .inl rfl, Nat.le_refl _, Touch.of_ext (Ext.refl _)⟩
      case round =>
        clear HG6
        obtain ⟨k, hk, rfl, hg, hv, hat, hsz, hT⟩ := hrel
        have HGK := Lib.hid hg
        have HVK := Lib.hid hv
        have HAT := Lib.hid hat
        have HTK2 := Lib.hid hT
        clear hg hv hat hT
        by_cases hkl : k < T.length - 1
        case pos =>
          have e1 := (HTK2.out).cell (HI.out k (by rw [HRL.out]; exact hkl)) (by simp only []; omega)
          rw [Nat.zero_add] at e1
          have HTA := Lib.hid (show 0 :: (R1.take k ++ [ix rs k + 1]) = 0 :: R1.take (k + 1) by
            rw [List.take_add_one, List.getElem?_eq_getElem (by rw [HR1L.out]; exact hkl), ← HR1X.out k hkl, ix_eq]
            simp [List.getD, List.getElem?_eq_getElem (show k < R1.length by rw [HR1L.out]; exact hkl)])
          have HLK := Lib.hid (show (0 :: R1.take k).length ≤ 1048576 by simp; omega)
          have hix : 0 ≤ ix rs k ∧ ix rs k < 100 := by
            have := (HR.out.2 (ix rs k)).1 (ix_mem _ _ (by rw [HRL.out]; exact hkl))
            omega
          have HGA := Lib.hid (HGK.out.ext (ext_box wr (.int .i64 (ix rs k + 1)) 2))
          have zb : wr.heap.size + 1 = (wr.alloc (.cells #[.int .i64 (ix rs k + 1)] 2)).heap.size := by simp
          have zb1 : w4.heap.size ≤ (wr.alloc (.cells #[.int .i64 (ix rs k + 1)] 2)).heap.size := by omega
          have HTB := Lib.hid (HTK2.out.trans (Touch.of_ext (ext_box wr (.int .i64 (ix rs k + 1)) 2)))
          have zb2 : w6.heap.size ≤ (wr.alloc (.cells #[.int .i64 (ix rs k + 1)] 2)).heap.size := by omega
          have HZ := Lib.hid (And.intro zb1 zb2)
          clear zb zb1 zb2
          go_wp2_with (at_builtin; refine wpList_append_int_at rfl _ _ 29 2 rfl Tryz.underlying29 infoInt w4.heap.size _ _ rfl HGA.out wr.heap.size (ix rs k + 1) rfl (cell_new _ _ _) HLK.out HZ.out.1 ?_)
          intro v' w' hg' hgr' hv' hat'
          rw [HTA.out] at hg'
          have hnx := HAT.out.next HZ.out.2 hgr' hat' (by omega) HTB.out
          have hsz' : w6.heap.size ≤ w'.heap.size := Nat.le_trans HZ.out.2 hgr'.size
          have HG' := Lib.hid hg'
          have HV' := Lib.hid hv'
          have HN' := Lib.hid hnx
          clear hg' hgr' hv' hat' hnx
          go_wp2
          go_roundw
          case rel => exact ⟨k + 1, by omega, by go_num, HG'.out, HV'.out, HN'.out.1, hsz', HN'.out.2⟩
          case measure => simp [intOf]; omega
        case neg =>
          have hkk : k = T.length - 1 := by omega
          have HTF := Lib.hid (show (0 :: R1.take k) = 0 :: R1 by rw [List.take_of_length_le (by rw [HR1L.out, hkk]; exact Nat.le_refl _)])
          have HGF := Lib.hid (by have := HGK.out; rwa [HTF.out] at this : GrowI 2 w4.heap.size wr _ (0 :: R1))
          have HPM := Lib.hid (show IsoOk T.length [] [] (0 :: R1) by have := HRP.out.perm; rwa [show T.length - 1 + 1 = T.length by omega] at this)
          have HPL := Lib.hid HPM.out.1
          obtain ⟨bg, cg, rfl, hog⟩ := HGF.out.own HVK.out
          have HIP := Lib.hid (hog.2.2.1.ints (by rw [HPL.out]; omega) cg)
          rw [HPL.out] at HIP ⊢
          have HO := Lib.hid (HO.out.touch HTK2.out (by omega) (by omega))
          have HRT := Lib.hid ((HO.out.rowsAt o2').rows o2'.1 c)
          have HT := Lib.hid (show Touch S (S + 1) w wr from ⟨HTK2.out.os.trans HT.out.os, HTK2.out.tape.trans HT.out.tape, HTK2.out.output.trans HT.out.output, Nat.le_trans HT.out.size HTK2.out.size, fun k hk hn => (HTK2.out.block k (by omega) (by omega)).trans (HT.out.block k hk hn)⟩)
          have HSW := Lib.hid (HS.out.touch2 HTK2.out (by omega))
          have HTO := Lib.hid HG.out.1
          have HLT := Lib.hid (length_imgT T (0 :: R1))
          clear HTF hkk
          go_wp2_with fail
          refine (l03Image_any T (0 :: R1) _ _ _ HRT.out HIP.out HTO.out HPM.out).mono ?_
          rintro e w7 ⟨bi, ci, rfl, hoi, hxi⟩
          have HOI := Lib.hid hoi
          have HXI := Lib.hid hxi
          have zi := hxi.size
          clear hoi hxi
          go_wp2_with fail
          go_ret
          exact ⟨imgT T (0 :: R1), bi, ci, _, _, rfl, HOI.out, by omega, Nat.le_refl _, imgT_ok HTO.out HPM.out, by rw [HLT.out]; omega, HSW.out.ext HXI.out, HT.out.trans (Touch.of_ext HXI.out)⟩
end Go.Proofs.YthlafeefjonkdaaGreatDoor


namespace Go.Proofs.YthlafeefjonkdaaGreatDoor
set_option linter.unusedVariables false
set_option linter.unusedSimpArgs false
open Go.RowKit
attribute [local go_sem ↓] Go.wp_at_zero Go.wp_at_succ
open Go.Deep

theorem row_set_eq {T : List (List Int)} {j : Nat} {p : List Int} (h : j < T.length) : row (T.set j p) j = p := by rw [row_eq]; simp [List.getD, h]
theorem row_set_ne {T : List (List Int)} {i j : Nat} {p : List Int} (h : i ≠ j) : row (T.set j p) i = row T i := by rw [row_eq, row_eq]; simp [List.getD, List.getElem?_set, Ne.symm h]
theorem Touch.setIn {lo hi : Nat} {a w : World} (h : Touch lo hi a w) {p : Addr} (hp : a.heap.size ≤ p.block) (v : Value) : Touch lo hi a (w.setCell p v) :=
  ⟨h.os, h.tape, h.output, by have := h.size; simp; exact this, fun k hk hn => (Below.heap_setCell _ _ _ _ (by omega)).trans (h.block k hk hn)⟩
theorem Src.setCell {S : Nat} {w : World} (h : Src S w) {p : Addr} (hp : S < p.block) (v : Value) : Src S (w.setCell p v) :=
  h.touch2 (lo := p.block) (hi := p.block + 1) (Touch.of_marked ((Marked.refl _ _ _).setCell (Nat.le_refl _) (Nat.lt_succ_self _) v)) hp
theorem Touch.ofDrew {lo hi : Nat} {w w' : World} (h : Touch lo hi w.drew w') : Touch lo hi w w' := ⟨h.os, h.tape, h.output, h.size, h.block⟩
theorem own_at {lo hi : Nat} {w : World} {b n : Nat} {T : List (List Int)} (h : OwnT lo hi w b 0 T) {j k : Nat} (hj : j < T.length) (hk : k < n) (hn : (row T j).length = n) {rb ro m rc : Nat} (hc : w.cell? ⟨b, j, none⟩ = some (.slice (some ⟨rb, ro, none⟩) m rc)) :
    w.cell? ⟨rb, ro + k, none⟩ = some (.int .i64 (ix (row T j) k)) ∧ w.frozen? ⟨rb, ro + k, none⟩ = false := by
  obtain ⟨b1, o1, c1, h1, h2⟩ := h.get hj
  rw [Nat.zero_add, hc] at h1
  simp only [Option.some.injEq, Value.slice.injEq, Addr.mk.injEq, and_true] at h1
  obtain ⟨⟨rfl, rfl⟩, _, _⟩ := h1
  exact ⟨h2.2.2.1 k (by omega), h2.2.2.2 k (by omega)⟩
theorem TableOk.small {t : List (List Int)} (h : TableOk t) : Small t := ⟨by have := h.2.1; omega, fun i => by
  by_cases hi : i < t.length
  · rw [h.len hi]; have := h.2.1; omega
  · rw [row_eq]; simp [List.getD, hi]⟩

end Go.Proofs.YthlafeefjonkdaaGreatDoor


namespace Go.Proofs.YthlafeefjonkdaaGreatDoor
set_option linter.unusedVariables false
set_option linter.unusedSimpArgs false
open Go.RowKit
attribute [local go_sem ↓] Go.wp_at_zero Go.wp_at_succ
open Go.Deep

theorem Rows.shape {w : World} {v : Value} {t : List (List Int)} (h : Rows w v t) : ∃ b o c, v = .slice (some ⟨b, o, none⟩) t.length c := by
  obtain ⟨-, b, o, c, e, -⟩ := h
  exact ⟨b, o, c, e⟩
end Go.Proofs.YthlafeefjonkdaaGreatDoor
