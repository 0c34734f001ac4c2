/-
  Contracts of IsBrace (reference), BraceFault, IsBiSkewBrace.
-/
import Derived.Test.YtjhfieegkgndfaaProg
import Derived.Test.YtjhfieegkgndfaaJx0
import Derived.Test.YtjhfieegkgndfaaJx1
import Derived.Test.YtjhfieegkgndfaaJx3
import Derived.Test.YtjhfieegkgndfaaJx5
import Derived.Test.YtjhfieegkgndfaaJx8
import Derived.Test.YtjhfieegkgndfaaJx15
import Derived.Test.YtjhfieegkgndfaaJx6
import Derived.Test.YtjhfieegkgndfaaJx11
import Derived.Test.YtjhfieegkgndfaaJx9
namespace Go.Proofs.Ytjhfieegkgndfaa
set_option linter.unusedVariables false
set_option linter.unusedSimpArgs false
open Go.RowKit

theorem braceB_swap {t u : List (List Int)} (h : twoB t u = true) : braceB u t = noFaultB u t := by
  obtain ⟨hG, hU, hL⟩ := twoB_iff.1 h
  have h2 : twoB u t = true := twoB_iff.2 ⟨hU, hG, hL.symm⟩
  by_cases hf : faultL u t = []
  · rw [braceB_yes h2 hf, noFault_yes hf]
  · rw [braceB_2 hf, noFault_no hf]
theorem len_fault {t u : List (List Int)} (h : faultL t u ≠ []) : (((faultL t u).length : Int) == 0) = false := by
  rw [beq_eq_false_iff_ne]
  intro h2
  exact h (List.length_eq_zero_iff.1 (by omega))

set_option maxRecDepth 100000 in
theorem l11Is_any (t u : List (List Int)) (v y : Value) (w : World) (hv : Rows w v t) (hy : Rows w y u) :
    Calls Try.prog 37 #[.agg #[v, y]] w fun e w' => e = .returned (.bool (braceB t u)) ∧ Ext w w' := by
  obtain ⟨hlen, b, o, c, rfl, hc⟩ := id hv
  obtain ⟨hlen2, b2, o2, c2, rfl, hc2⟩ := id hy
  have hX := ext_boxB w (.slice (some ⟨b, o, none⟩) t.length c) (.slice (some ⟨b2, o2, none⟩) u.length c2) 24
  have k0 := cell_new2a w (.slice (some ⟨b, o, none⟩) t.length c) (.slice (some ⟨b2, o2, none⟩) u.length c2) 24
  have k1 := cell_new2b w (.slice (some ⟨b, o, none⟩) t.length c) (.slice (some ⟨b2, o2, none⟩) u.length c2) 24
  clear hc hc2
  cases hg : groupB t with
  | false =>
    have h2 : twoB t u = false := twoB_1 hg
    rw [braceB_1 h2]
    go_enter Try.func37, Try.ntmps37
    go_wp2_with fail
    refine (l10Is_any t _ _ (hv.ext hX)).mono ?_
    rintro e wn ⟨rfl, hx⟩
    replace hX := hX.trans hx
    replace k0 := hx.cell k0
    replace k1 := hx.cell k1
    clear hx
    rw [hg]
    go_wp2
    go_ret
    exact ⟨rfl, hX⟩
  | true =>
    cases hg2 : groupB u with
    | false =>
      have h2 : twoB t u = false := twoB_2 hg2
      rw [braceB_1 h2]
      go_enter Try.func37, Try.ntmps37
      go_wp2_with fail
      refine (l10Is_any t _ _ (hv.ext hX)).mono ?_
      rintro e wn ⟨rfl, hx⟩
      replace hX := hX.trans hx
      replace k0 := hx.cell k0
      replace k1 := hx.cell k1
      clear hx
      rw [hg]
      go_wp2_with fail
      refine (l10Is_any u _ _ (hy.ext hX)).mono ?_
      rintro e wn ⟨rfl, hx⟩
      replace hX := hX.trans hx
      replace k0 := hx.cell k0
      replace k1 := hx.cell k1
      clear hx
      rw [hg2]
      go_wp2
      go_ret
      exact ⟨rfl, hX⟩
    | true =>
      cases hl : ((t.length : Int) == (u.length : Int)) with
      | false =>
        have h2 : twoB t u = false := twoB_3 (fun h => by rw [h] at hl; simp at hl)
        have hln : ((t.length : Int) != (u.length : Int)) = true := by rw [bne, hl]; rfl
        rw [braceB_1 h2]
        go_enter Try.func37, Try.ntmps37
        go_wp2_with fail
        refine (l10Is_any t _ _ (hv.ext hX)).mono ?_
        rintro e wn ⟨rfl, hx⟩
        replace hX := hX.trans hx
        replace k0 := hx.cell k0
        replace k1 := hx.cell k1
        clear hx
        rw [hg]
        go_wp2_with fail
        refine (l10Is_any u _ _ (hy.ext hX)).mono ?_
        rintro e wn ⟨rfl, hx⟩
        replace hX := hX.trans hx
        replace k0 := hx.cell k0
        replace k1 := hx.cell k1
        clear hx
        rw [hg2]
        go_wp2
        go_ret
        exact ⟨rfl, hX⟩
      | true =>
        have h2 : twoB t u = true := twoB_yes hg hg2 (by have := eq_of_beq hl; omega)
        obtain ⟨hG, hU, hL⟩ := twoB_iff.1 h2
        have HL := Lib.hid hL
        clear hL
        have hln : ((t.length : Int) != (u.length : Int)) = false := by rw [bne, hl]; rfl
        by_cases hf : faultL t u = []
        · rw [braceB_yes h2 hf]
          have HF := Lib.hid hf
          have hz : (((faultL t u).length : Int) == 0) = true := by rw [hf]; rfl
          clear hf
          go_enter Try.func37, Try.ntmps37
          go_wp2_with fail
          refine (l10Is_any t _ _ (hv.ext hX)).mono ?_
          rintro e wn ⟨rfl, hx⟩
          replace hX := hX.trans hx
          replace k0 := hx.cell k0
          replace k1 := hx.cell k1
          clear hx
          rw [hg]
          go_wp2_with fail
          refine (l10Is_any u _ _ (hy.ext hX)).mono ?_
          rintro e wn ⟨rfl, hx⟩
          replace hX := hX.trans hx
          replace k0 := hx.cell k0
          replace k1 := hx.cell k1
          clear hx
          rw [hg2]
          go_wp2_with fail
          refine (l11Fault_any t u _ _ _ (hv.ext hX) (hy.ext hX) hG hU HL.out).mono ?_
          rintro e wn ⟨r, rfl, ⟨ra, rc, rfl⟩, hr, hx⟩
          replace hX := hX.trans hx
          replace k0 := hx.cell k0
          replace k1 := hx.cell k1
          clear hx
          go_wp2
          go_ret
          exact ⟨rfl, hX⟩
        · rw [braceB_2 hf]
          have HF := Lib.hid hf
          have hz := len_fault hf
          clear hf
          go_enter Try.func37, Try.ntmps37
          go_wp2_with fail
          refine (l10Is_any t _ _ (hv.ext hX)).mono ?_
          rintro e wn ⟨rfl, hx⟩
          replace hX := hX.trans hx
          replace k0 := hx.cell k0
          replace k1 := hx.cell k1
          clear hx
          rw [hg]
          go_wp2_with fail
          refine (l10Is_any u _ _ (hy.ext hX)).mono ?_
          rintro e wn ⟨rfl, hx⟩
          replace hX := hX.trans hx
          replace k0 := hx.cell k0
          replace k1 := hx.cell k1
          clear hx
          rw [hg2]
          go_wp2_with fail
          refine (l11Fault_any t u _ _ _ (hv.ext hX) (hy.ext hX) hG hU HL.out).mono ?_
          rintro e wn ⟨r, rfl, ⟨ra, rc, rfl⟩, hr, hx⟩
          replace hX := hX.trans hx
          replace k0 := hx.cell k0
          replace k1 := hx.cell k1
          clear hx
          go_wp2
          go_ret
          exact ⟨rfl, hX⟩

end Go.Proofs.Ytjhfieegkgndfaa

/-
  Contracts of the laws' own helpers at racks (the same as at groups).
-/
namespace Go.Proofs.Ytjhfieegkgndfaa
set_option linter.unusedVariables false
set_option linter.unusedSimpArgs false
open Go.RowKit

end Go.Proofs.Ytjhfieegkgndfaa

/-
  The laws' own helpers at lists of groups.
-/
namespace Go.Proofs.Ytjhfieegkgndfaa
set_option linter.unusedVariables false
set_option linter.unusedSimpArgs false
open Go.RowKit

/-- where table i begins -/
def startD (ts : List (List (List Int))) (k : Int) : Nat → Int
  | 0 => k
  | i + 1 => startD ts k i + total (tab ts i)
def totalD (ts : List (List (List Int))) : Int := startD ts 0 ts.length
theorem startD_add (ts : List (List (List Int))) (k : Int) : ∀ i : Nat, startD ts k i = k + startD ts 0 i
  | 0 => by simp [startD]
  | i + 1 => by simp only [startD]; rw [startD_add ts k i]; omega
def markD (ts : List (List (List Int))) (k : Int) (m : Nat) : List (List (List Int)) := (List.range ts.length).map fun i => if i < m then markTo (tab ts i) (startD ts k i) (tab ts i).length else tab ts i
@[simp] theorem length_markD (ts : List (List (List Int))) (k : Int) (m : Nat) : (markD ts k m).length = ts.length := by simp [markD]
theorem tab_markD (ts : List (List (List Int))) (k : Int) (m i : Nat) (h : i < ts.length) : tab (markD ts k m) i = if i < m then markTo (tab ts i) (startD ts k i) (tab ts i).length else tab ts i := by
  rw [tab_eq]; simp [markD, List.getD, h]
/-- few tables, all small -/
def SmallD (ts : List (List (List Int))) : Prop := ts.length ≤ 16 ∧ ∀ i, Small (tab ts i)
theorem startD_le {ts : List (List (List Int))} (hs : ∀ i, Small (tab ts i)) (k : Int) : ∀ i : Nat, k ≤ startD ts k i ∧ startD ts k i ≤ k + i * 1099511627776
  | 0 => by simp [startD]
  | i + 1 => by
    have h1 := startD_le hs k i
    have h2 := total_nonneg (tab ts i)
    have h3 := total_le (tab ts i) (hs i)
    simp only [startD]
    omega
theorem totalD_le {ts : List (List (List Int))} (h : SmallD ts) : 0 ≤ totalD ts ∧ totalD ts ≤ 17592186044416 := by
  have := startD_le h.2 0 ts.length
  have h1 := h.1
  unfold totalD
  omega

/-- v is a list of the tables ts (nil perhaps) -/
def TabsR (w : World) (v : Value) (ts : List (List (List Int))) : Prop :=
  ∃ a c, v = .slice a ts.length c ∧ (ts ≠ [] → ∃ b o, a = some ⟨b, o, none⟩ ∧ ∀ i, i < ts.length → ∃ r, w.cell? ⟨b, o + i, none⟩ = some r ∧ RowsR w r (tab ts i))
theorem TabsR.ext {w w' : World} {v : Value} {ts : List (List (List Int))} (h : TabsR w v ts) (hx : Ext w w') : TabsR w' v ts := by
  obtain ⟨a, c, rfl, h⟩ := h
  refine ⟨a, c, rfl, fun hl => ?_⟩
  obtain ⟨b, o, rfl, hc⟩ := h hl
  exact ⟨b, o, rfl, fun i hi => by obtain ⟨r, h1, h2⟩ := hc i hi; exact ⟨r, hx.cell h1, h2.ext hx⟩⟩
/-- .. in memory of the call's own, each table in blocks apart -/
def OwnDs (lo hi : Nat) (w : World) (v : Value) (ts : List (List (List Int))) : Prop :=
  ∃ a c, v = .slice a ts.length c ∧ (ts ≠ [] → ∃ b, a = some ⟨b, 0, none⟩ ∧ lo ≤ b ∧ b < hi ∧ ∃ L H : Nat → Nat,
    (∀ i, i < ts.length → lo ≤ L i ∧ H i ≤ hi ∧ (b < L i ∨ H i ≤ b) ∧ ∃ r, w.cell? ⟨b, i, none⟩ = some r ∧ OwnV (L i) (H i) w r (tab ts i)) ∧
    ∀ i j, i < ts.length → j < ts.length → i ≠ j → H i ≤ L j ∨ H j ≤ L i)
theorem OwnDs.nil (lo hi : Nat) (w : World) : OwnDs lo hi w (.slice none 0 0) [] := ⟨none, 0, rfl, fun h => absurd rfl h⟩
theorem OwnDs.toR {lo hi : Nat} {w : World} {v : Value} {ts : List (List (List Int))} (h : OwnDs lo hi w v ts) : TabsR w v ts := by
  obtain ⟨a, c, rfl, h⟩ := h
  refine ⟨a, c, rfl, fun hl => ?_⟩
  obtain ⟨b, rfl, -, -, L, H, hc, -⟩ := h hl
  exact ⟨b, 0, rfl, fun i hi => by obtain ⟨-, -, -, r, h1, h2⟩ := hc i hi; exact ⟨r, by rw [Nat.zero_add]; exact h1, h2.toR⟩⟩
theorem OwnDs.ext {lo hi : Nat} {w w' : World} {v : Value} {ts : List (List (List Int))} (h : OwnDs lo hi w v ts) (hx : Ext w w') (hh : hi ≤ w.heap.size) : OwnDs lo hi w' v ts := by
  obtain ⟨a, c, rfl, h⟩ := h
  refine ⟨a, c, rfl, fun hl => ?_⟩
  obtain ⟨b, rfl, h1, h2, L, H, hc, hd⟩ := h hl
  exact ⟨b, rfl, h1, h2, L, H, fun i hi => by obtain ⟨g1, g2, g3, r, g4, g5⟩ := hc i hi; exact ⟨g1, g2, g3, r, hx.cell g4, g5.ext hx (by omega)⟩, hd⟩
theorem OwnDs.mono {lo hi lo' hi' : Nat} {w : World} {v : Value} {ts : List (List (List Int))} (h : OwnDs lo hi w v ts) (k1 : lo' ≤ lo) (k2 : hi ≤ hi') : OwnDs lo' hi' w v ts := by
  obtain ⟨a, c, rfl, h⟩ := h
  refine ⟨a, c, rfl, fun hl => ?_⟩
  obtain ⟨b, rfl, h1, h2, L, H, hc, hd⟩ := h hl
  exact ⟨b, rfl, by omega, by omega, L, H, fun i hi => by obtain ⟨g1, g2, g3, r⟩ := hc i hi; exact ⟨by omega, by omega, g3, r⟩, hd⟩
theorem OwnDs.touch {lo hi lo' hi' : Nat} {w w' : World} {v : Value} {ts : List (List (List Int))} (h : OwnDs lo hi w v ts) (m : Touch lo' hi' w w') (hd : hi ≤ lo' ∨ hi' ≤ lo) (hw : hi ≤ w.heap.size) : OwnDs lo hi w' v ts := by
  obtain ⟨a, c, rfl, h⟩ := h
  refine ⟨a, c, rfl, fun hl => ?_⟩
  obtain ⟨b, rfl, h1, h2, L, H, hc, hd2⟩ := h hl
  exact ⟨b, rfl, h1, h2, L, H, fun i hi => by obtain ⟨g1, g2, g3, r, g4, g5⟩ := hc i hi; exact ⟨g1, g2, g3, r, m.cell g4 (by simp only []; omega), g5.touch m (by omega) (by omega)⟩, hd2⟩

set_option maxRecDepth 100000 in
theorem eqGroupS_yes (ts : List (List (List Int))) (v u : Value) (w : World) (hv : TabsR w v ts) (hu : TabsR w u ts) (hs : SmallD ts) :
    Calls Try.prog 28 #[v, u] w fun e w' => e = .returned (.bool true) ∧ Ext w w' := by
  obtain ⟨a1, c1, rfl, h1⟩ := hv
  obtain ⟨a2, c2, rfl, h2⟩ := hu
  have H1 := Lib.hid h1
  have H2 := Lib.hid h2
  have hs0 := hs.1
  have HS := Lib.hid hs.2
  clear h1 h2 hs
  go_enter Try.func28, Try.ntmps28
  go_wp2
  go_loopw [5] (fun i wr => ∃ m : Nat, m ≤ ts.length ∧ i = .int .i64 m ∧ Ext w wr) (fun i _ => ts.length - (intOf i).toNat)
  case atStart => exact ⟨0, Nat.zero_le _, rfl, Ext.refl _⟩
  case round =>
    obtain ⟨m, hm, rfl, hx⟩ := hrel
    by_cases hlt : m < ts.length
    · obtain ⟨b1, o1, rfl, k1⟩ := H1.out (ne_nil_of_lt hlt)
      obtain ⟨b2, o2, rfl, k2⟩ := H2.out (ne_nil_of_lt hlt)
      obtain ⟨r1, e1, i1⟩ := k1 m hlt
      obtain ⟨r2, e2, i2⟩ := k2 m hlt
      clear k1 k2
      have i1 := i1.ext hx
      have i2 := i2.ext hx
      have e1 := hx.cell e1
      have e2 := hx.cell e2
      obtain ⟨a1, c1, rfl, -⟩ := id i1
      obtain ⟨a2, c2, rfl, -⟩ := id i2
      have HE := eqTB_yes (rfl : tab ts m = tab ts m)
      go_wp2_with fail
      go_region_with ((go_at_call 21; refine (eqGroup_any (tab ts m) (tab ts m) _ _ _ (i1.ext (by (repeat first | (with_reducible exact Ext.refl _) | (with_reducible assumption) | (with_reducible apply Ext.drew) | (with_reducible apply kx_drewN) | (with_reducible apply kx_alloc) | ((with_reducible refine kx_set ?_ ?_); (first | (simp only []; omega) | (simp; omega) | (focus (simp; done)))) ))) (i2.ext (by (repeat first | (with_reducible exact Ext.refl _) | (with_reducible assumption) | (with_reducible apply Ext.drew) | (with_reducible apply kx_drewN) | (with_reducible apply kx_alloc) | ((with_reducible refine kx_set ?_ ?_); (first | (simp only []; omega) | (simp; omega) | (focus (simp; done)))) ))) (HS.out m)).mono ?_; rintro e w1 ⟨rfl, hx1⟩; rw [HE]))
      all_goals
        go_wp2
        go_roundw
        case rel => exact ⟨m + 1, by omega, by go_num, hx.trans (by (repeat first | (with_reducible exact Ext.refl _) | (with_reducible assumption) | (with_reducible apply Ext.drew) | (with_reducible apply kx_drewN) | (with_reducible apply kx_alloc) | ((with_reducible refine kx_set ?_ ?_); (first | (simp only []; omega) | (simp; omega) | (focus (simp; done)))) | (with_reducible refine Ext.trans ?_ hx1) ))⟩
        case measure => simp [intOf]; omega
    · go_wp2
      go_ret
      exact ⟨rfl, hx⟩

set_option maxRecDepth 100000 in
set_option maxHeartbeats 1000000 in
theorem markGroupS_any (lo hi : Nat) (ts : List (List (List Int))) (v : Value) (k : Int) (w : World) (hv : OwnDs lo hi w v ts) (hh : hi ≤ w.heap.size) (hs : SmallD ts) (h0 : 0 ≤ k) (h1 : k ≤ 281474976710656) :
    Calls Try.prog 29 #[v, .int .i64 k] w fun e w' => e = .returned (.int .i64 (k + totalD ts)) ∧ OwnDs lo hi w' v (markD ts k ts.length) ∧ Touch lo hi w w' := by
  obtain ⟨a, c, rfl, hc⟩ := hv
  have hs0 := hs.1
  have HB := Lib.hid (fun i => startD_le hs.2 k i)
  have HS := Lib.hid hs.2
  clear hs
  by_cases hne : ts = []
  · subst hne
    go_enter Try.func29, Try.ntmps29
    go_wp2
    go_loopw [1, 5] (fun q i wr => i = .int .i64 0 ∧ q = .int .i64 k ∧ w = wr) (fun _ i _ => 0)
    case atStart => exact ⟨rfl, rfl, rfl⟩
    case round =>
      obtain ⟨rfl, rfl, rfl⟩ := hrel
      go_wp2
      go_ret
      exact ⟨ret_int (by simp [totalD, startD]), ⟨a, c, by simp, fun h => absurd rfl h⟩, Touch.of_ext (Ext.refl _)⟩
  · obtain ⟨b, rfl, hb1, hb2, L, H, hc, hd⟩ := hc hne
    have HC := Lib.hid (fun i hi => (hc i hi).1)
    have HCH := Lib.hid (fun i hi => (hc i hi).2.1)
    have HCB := Lib.hid (fun i hi => (hc i hi).2.2.1)
    have HI := Lib.hid (show ∀ i, i < ts.length → ∃ r, w.cell? ⟨b, i, none⟩ = some r ∧ OwnV (L i) (H i) w r (tab (markD ts k 0) i) from fun i hi => by rw [tab_markD _ _ _ _ hi, if_neg (by omega)]; exact (hc i hi).2.2.2)
    have HD := Lib.hid hd
    clear hc hd
    go_enter Try.func29, Try.ntmps29
    go_wp2
    go_loopw [1, 5] (fun q i wr => ∃ m : Nat, m ≤ ts.length ∧ i = .int .i64 m ∧ q = .int .i64 (startD ts k m) ∧ (∀ i, i < ts.length → ∃ r, wr.cell? ⟨b, i, none⟩ = some r ∧ OwnV (L i) (H i) wr r (tab (markD ts k m) i)) ∧ Touch lo hi w wr) (fun _ i _ => ts.length - (intOf i).toNat)
    case atStart => exact ⟨0, Nat.zero_le _, rfl, by rfl, HI.out, Touch.of_ext (Ext.refl _)⟩
    case round =>
      clear HI
      obtain ⟨m, hm, rfl, rfl, hI, hT⟩ := hrel
      have HI := Lib.hid hI
      have HT := Lib.hid hT
      clear hI hT
      by_cases hlt : m < ts.length
      · obtain ⟨r, e1, o1⟩ := HI.out m hlt
        rw [tab_markD _ _ _ _ hlt, if_neg (by omega)] at o1
        obtain ⟨-, a1, c1, rfl, -⟩ := id o1
        have hbd := HB.out m
        have hbd' := HB.out (m + 1)
        have HST := Lib.hid (show startD ts k (m + 1) = startD ts k m + total (tab ts m) from rfl)
        go_wp2_with fail
        refine (markInt64SS_any (L m) (H m) (tab ts m) _ _ _ o1 (by omega) (by omega)).mono ?_
        rintro e w1 ⟨rfl, hO1, hM1⟩
        rw [← HST.out]
        have HM1 := Lib.hid hM1
        have HO1 := Lib.hid hO1
        have hz1 := hM1.size
        have hz := HT.out.size
        clear hM1 hO1 o1
        go_wp2
        go_roundw
        case rel =>
          refine ⟨m + 1, by omega, by go_num, rfl, fun i hi => ?_, HT.out.trans (Touch.of_marked (HM1.out.mono (HC.out m hlt) (HCH.out m hlt)))⟩
          by_cases ei : i = m
          · subst ei
            rw [tab_markD _ _ _ _ hi, if_pos (by omega)]
            exact ⟨_, (Touch.of_marked HM1.out).cell e1 (HCB.out i hi), HO1.out⟩
          · obtain ⟨r, e2, o2⟩ := HI.out i hi
            refine ⟨r, (Touch.of_marked HM1.out).cell e2 (HCB.out m hlt), ?_⟩
            have := o2.marked HM1.out (HD.out i m hi hlt ei)
            rw [tab_markD _ _ _ _ hi] at this ⊢
            by_cases h : i < m
            · rw [if_pos h] at this; rw [if_pos (by omega)]; exact this
            · rw [if_neg h] at this; rw [if_neg (by omega)]; exact this
        case measure => simp [intOf]; omega
      · have hmm : m = ts.length := by omega
        subst hmm
        go_wp2
        go_ret
        exact ⟨ret_int (startD_add ts k _), ⟨some ⟨b, 0, none⟩, c, by simp, fun _ => ⟨b, rfl, hb1, hb2, L, H, fun i hi => ⟨HC.out i (by simpa using hi), HCH.out i (by simpa using hi), HCB.out i (by simpa using hi), HI.out i (by simpa using hi)⟩, fun i j hi hj h => HD.out i j (by simpa using hi) (by simpa using hj) h⟩⟩, HT.out⟩

set_option maxRecDepth 100000 in
set_option maxHeartbeats 1000000 in
theorem heldGroupS_any (ts : List (List (List Int))) (v : Value) (k : Int) (w : World) (hv : TabsR w v (markD ts k ts.length)) (hs : SmallD ts) (h0 : 0 ≤ k) (h1 : k ≤ 281474976710656) :
    Calls Try.prog 30 #[v, .int .i64 k] w fun e w' => e = .returned (.int .i64 (k + totalD ts)) ∧ Ext w w' := by
  obtain ⟨a, c, rfl, hc⟩ := hv
  rw [length_markD] at *
  have hs0 := hs.1
  have HB := Lib.hid (fun i => startD_le hs.2 k i)
  have HS := Lib.hid hs.2
  have HC := Lib.hid hc
  clear hs hc
  go_enter Try.func30, Try.ntmps30
  go_wp2
  go_loopw [1, 5] (fun q i wr => ∃ m : Nat, m ≤ ts.length ∧ i = .int .i64 m ∧ q = .int .i64 (startD ts k m) ∧ Ext w wr) (fun _ i _ => ts.length - (intOf i).toNat)
  case atStart => exact ⟨0, Nat.zero_le _, rfl, by rfl, Ext.refl _⟩
  case round =>
    obtain ⟨m, hm, rfl, rfl, hx⟩ := hrel
    have HX := Lib.hid hx
    clear hx
    by_cases hlt : m < ts.length
    · obtain ⟨b, o, rfl, hc⟩ := HC.out (ne_nil_of_lt (k := m) (by simpa using hlt))
      obtain ⟨r, e1, i1⟩ := hc m hlt
      rw [tab_markD _ _ _ _ hlt, if_pos hlt] at i1
      replace e1 := HX.out.cell e1
      replace i1 := i1.ext HX.out
      obtain ⟨a1, c1, rfl, -⟩ := id i1
      rw [length_markTo] at e1 i1
      clear hc
      have hbd := HB.out m
      have hbd' := HB.out (m + 1)
      have ht := total_nonneg (tab ts m)
      have HST := Lib.hid (show startD ts k (m + 1) = startD ts k m + total (tab ts m) from rfl)
      have hnn : ¬ startD ts k (m + 1) < 0 := by omega
      go_wp2_with fail
      refine (heldInt64SS_any (tab ts m) _ _ _ i1 (HS.out m) (by omega) (by omega)).mono ?_
      rintro e w1 ⟨rfl, hd⟩
      rw [← HST.out]
      have HX1 := Lib.hid (HX.out.trans hd.ext)
      clear hd i1 e1
      go_wp2
      go_roundw
      case rel => exact ⟨m + 1, by omega, by go_num, rfl, HX1.out⟩
      case measure => simp [intOf]; omega
    · have hmm : m = ts.length := by omega
      subst hmm
      go_wp2
      go_ret
      exact ⟨ret_int (startD_add ts k _), HX.out⟩
end Go.Proofs.Ytjhfieegkgndfaa
