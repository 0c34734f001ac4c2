/-
  Lists of tables in memory; contract of l01Less.
-/
import Derived.Test.YtbfhecckapgpnaaProg
import Derived.Deep.DeepCutAuto
import Derived.Deep.RegionWith
import Derived.Deep.RegionHeld3
import Derived.Deep.DrawnRows
import Derived.Test.YtbfhecckapgpnaaKx0
import Derived.Test.YtbfhecckapgpnaaKx1
import Derived.Test.YtbfhecckapgpnaaKx2
import Derived.Test.YtbfhecckapgpnaaKx8
import Derived.Test.YtbfhecckapgpnaaKx9
import Derived.Test.YtbfhecckapgpnaaKx7
import Derived.Test.YtbfhecckapgpnaaKx5
import Derived.Test.YtbfhecckapgpnaaKx6
import Derived.Test.YtbfhecckapgpnaaKx12
import Derived.Test.YtbfhecckapgpnaaKx3
import Derived.Test.YtbfhecckapgpnaaKx31
namespace Go.Proofs.Ytbfhecckapgpnaa
set_option linter.unusedVariables false
set_option linter.unusedSimpArgs false
open Go.RowKit
attribute [local go_sem ↓] Go.wp_at_zero Go.wp_at_succ

/-- from ⟨b, o⟩ on lie slices that hold the tables ts -/
def TabsAt (w : World) (b o : Nat) (ts : List (List (List Int))) : Prop := ∀ k, k < ts.length → ∃ r, w.cell? ⟨b, o + k, none⟩ = some r ∧ Rows w r (tab ts k)

/-- v is a slice that holds the tables ts -/
def Tabs (w : World) (v : Value) (ts : List (List (List Int))) : Prop := ts.length ≤ 1048576 ∧ ∃ b o c, v = .slice (some ⟨b, o, none⟩) ts.length c ∧ TabsAt w b o ts
theorem TabsAt.ext {w w' : World} {b o : Nat} {ts : List (List (List Int))} (h : TabsAt w b o ts) (hx : Ext w w') : TabsAt w' b o ts := fun k hk => by
  obtain ⟨r, h1, h2⟩ := h k hk
  exact ⟨r, hx.cell h1, h2.ext hx⟩
theorem Tabs.ext {w w' : World} {v : Value} {ts : List (List (List Int))} (h : Tabs w v ts) (hx : Ext w w') : Tabs w' v ts := by
  obtain ⟨hl, b, o, c, rfl, hc⟩ := h
  exact ⟨hl, b, o, c, rfl, hc.ext hx⟩
theorem TabsAt.get {w : World} {b o : Nat} {ts : List (List (List Int))} (h : TabsAt w b o ts) {k : Nat} (hk : k < ts.length) :
    ∃ b1 o1 c1, w.cell? ⟨b, o + k, none⟩ = some (.slice (some ⟨b1, o1, none⟩) (tab ts k).length c1) ∧ RowsAt w b1 o1 (tab ts k) := by
  obtain ⟨r, h1, _, b1, o1, c1, rfl, h2⟩ := h k hk
  exact ⟨b1, o1, c1, h1, h2⟩

/-- an entry of table k: the three cells on the way to it -/
theorem TabsAt.read {w : World} {b o n : Nat} {ts : List (List (List Int))} (h : TabsAt w b o ts) (hT : TabsOk n ts) {k : Nat} (hk : k < ts.length) :
    ∃ b1 o1 c1, w.cell? ⟨b, o + k, none⟩ = some (.slice (some ⟨b1, o1, none⟩) n c1) ∧ ∀ x, x < n → ∃ b2 o2 c2, w.cell? ⟨b1, o1 + x, none⟩ = some (.slice (some ⟨b2, o2, none⟩) n c2) ∧ ∀ y, y < n → w.cell? ⟨b2, o2 + y, none⟩ = some (.int .i64 (ent (tab ts k) x y)) := by
  obtain ⟨b1, o1, c1, h1, h2⟩ := h.get hk
  obtain ⟨t1, t2⟩ := hT k hk
  rw [t2] at h1
  refine ⟨b1, o1, c1, h1, fun x hx => ?_⟩
  obtain ⟨b2, o2, c2, g1, g2, _⟩ := h2.get (i := x) (by omega)
  have hl := t1.len (x := x) (by omega)
  rw [hl, t2] at g1
  exact ⟨b2, o2, c2, g1, fun y hy => g2.ent (by rw [hl, t2]) hy⟩

set_option maxHeartbeats 400000 in
theorem l01Less_any (l m : List Int) (v u : Value) (w : World) (hv : Ints w v l) (hu : Ints w u m) :
    Calls Try.prog 129 #[v, u] w fun e w' => e = .returned (.bool (lessB l m)) ∧ Drawn w w' := by
  obtain ⟨hlen, b, o, c, rfl, hc⟩ := hv
  obtain ⟨hlen2, b2, o2, c2, rfl, hc2⟩ := hu
  go_enter Try.func129, Try.ntmps129
  go_wp2
  go_loopw [5] (fun i wr => ∃ k : Nat, k ≤ l.length ∧ k ≤ m.length ∧ i = .int .i64 k ∧ lessB l m = lessB (l.drop k) (m.drop k) ∧ Drawn w wr) (fun i _ => l.length - (intOf i).toNat)
  case atStart => exact ⟨0, Nat.zero_le _, Nat.zero_le _, rfl, rfl, Drawn.refl w⟩
  case round =>
    obtain ⟨k, hk, hk2, rfl, he, hd⟩ := hrel
    have HE := Lib.hid he
    clear he
    by_cases h1 : k < l.length
    · by_cases h2 : k < m.length
      · have e1 := (hc.ext hd.ext) k h1
        have e2 := (hc2.ext hd.ext) k h2
        have HA := Lib.hid (lessB_at l m k h1 h2)
        by_cases hne : ix l k = ix m k
        · have hb : (ix l k != ix m k) = false := by simp [hne]
          have HN := Lib.hid hne
          clear hne
          go_wp2
          go_quiet (fail)
          go_wp2
          go_roundw
          case rel => exact ⟨k + 1, by omega, by omega, by go_num, by rw [HE.out, HA.out, if_pos HN.out], hd.drewN _⟩
          case measure => simp [intOf]; omega
        · have hb : (ix l k != ix m k) = true := by simp [hne]
          have HN := Lib.hid hne
          clear hne
          go_wp2
          go_quiet (fail)
          go_wp2
          go_quiet (fail)
          go_wp2
          go_ret
          exact ⟨ret_bool (by rw [HE.out, HA.out, if_neg HN.out]), (hd.drewN _).drewN _⟩
      · have HA := Lib.hid (lessB_end l m k hk hk2 (by omega))
        go_wp2
        go_ret
        exact ⟨ret_bool (by rw [HE.out, HA.out]), hd⟩
    · have HA := Lib.hid (lessB_end l m k hk hk2 (by omega))
      go_wp2
      go_ret
      exact ⟨ret_bool (by rw [HE.out, HA.out]), hd⟩

end Go.Proofs.Ytbfhecckapgpnaa

/-
  Contracts of IsNormalIn: reference and program.
-/
namespace Go.Proofs.Ytbfhecckapgpnaa
set_option linter.unusedVariables false
set_option linter.unusedSimpArgs false
open Go.RowKit
attribute [local go_sem ↓] Go.wp_at_zero Go.wp_at_succ

set_option maxRecDepth 100000 in
set_option maxHeartbeats 1000000 in
theorem isNormal_any (t : List (List Int)) (v : Value) (m : Nat) (w : World) (hv : Rows w v t) (hG : GroupOk t) (hm : m < 2 ^ t.length) :
    Calls Try.prog 72 #[v, .int .i64 m] w fun e w' => e = .returned (.bool (normB t m)) ∧ Ext w w' := by
  obtain ⟨hlen, b, o, c, rfl, hc⟩ := id hv
  have h12 := hG.1.2.1
  have H62 := Lib.hid (lt62 h12 hm)
  have HG := Lib.hid hG
  have HM := Lib.hid hm
  have HB := Lib.hid (fun x (hx : x < t.length) => backF_ok hG hx)
  have HE := Lib.hid (fun i (h : i < (elemsL m).length) => elemsL_get (k := t.length) HM.out (by omega) h)
  have hlL := elemsL_len m
  clear hG hm
  go_enter Try.func72, Try.ntmps72
  go_wp2_with fail
  refine (groupInverses_any t _ _ hv).mono ?_
  rintro e w1 ⟨b1, c1, rfl, hi1, hx1⟩
  have hcw := hc.ext hx1
  clear hc
  have HI := Lib.hid hi1
  clear hi1
  go_wp2
  go_loopw [13] (fun i wr => ∃ k : Nat, k ≤ t.length ∧ i = .int .i64 k ∧ NormTo t m t.length k ∧ Ext w1 wr) (fun i _ => t.length - (intOf i).toNat)
  case atStart => exact ⟨0, Nat.zero_le _, rfl, NormTo.zero _ _ _, Ext.refl _⟩
  case round =>
    obtain ⟨k, hk, rfl, hct, hx⟩ := hrel
    by_cases hkl : k < t.length
    case neg =>
      go_wp2
      go_ret
      have hkk : k = t.length := by omega
      subst hkk
      exact ⟨ret_bool (normB_yes hct).symm, hx1.trans hx⟩
    case pos =>
      have hp := HB.out k hkl
      have i5 : backF t k < (t.length : Int) := by omega
      have HCT := Lib.hid hct
      clear hct
      obtain ⟨w2, rfl⟩ : ∃ z : World, z = wr := ⟨_, rfl⟩
      go_wp2_with fail
      refine (elementsOf_any m _ H62.out).mono ?_
      rintro e w3 ⟨v3, rfl, hr3, hx3⟩
      obtain ⟨a3, c3, rfl, hr⟩ := hr3
      have HR := Lib.hid hr
      clear hr
      replace hx := hx.trans hx3
      obtain ⟨d1, s1, m1, r1, l1⟩ := (hcw.ext hx).read HG.out.1 rfl hkl
      have ib := (HI.out.ext hx) k (by rw [length_backs]; exact hkl)
      rw [ix_backs _ _ hkl, Nat.zero_add] at ib
      have L1 := Lib.hid l1
      clear l1 hx3
      go_wp2
      go_loopw [19] (fun i wr => ∃ j : Nat, j ≤ (elemsL m).length ∧ i = .int .i64 j ∧ NormL t m k j ∧ Ext w3 wr) (fun i _ => (elemsL m).length - (intOf i).toNat)
      case atStart => exact ⟨0, Nat.zero_le _, rfl, NormL.zero _ _ _, Ext.refl _⟩
      case round =>
        obtain ⟨j, hj, rfl, hnl, hx4⟩ := hrel
        have HNL := Lib.hid hnl
        clear hnl
        by_cases hjl : j < (elemsL m).length
        case neg =>
          have hjj : j = (elemsL m).length := by omega
          subst hjj
          go_wp2
          go_roundw
          case rel => exact ⟨k + 1, by omega, by go_num, HCT.out.succ (HNL.out.row HM.out h12), hx.trans hx4⟩
          case measure => simp [intOf]; omega
        case pos =>
          obtain ⟨gb, go', rfl, hgi⟩ := HR.out (ne_nil_of_lt hjl)
          obtain ⟨y, hy, bY, ey⟩ := HE.out j hjl
          have e3 := (hgi.ext hx4) j hjl
          rw [ey] at e3
          have EY := Lib.hid ey
          obtain ⟨e1, i1, i2⟩ := L1.out y hy
          obtain ⟨d2, s2, m2, r2, l2⟩ := (hcw.ext hx).read HG.out.1 rfl (x := (ent t k y).toNat) (by omega)
          obtain ⟨e2, i3, i4⟩ := l2 (backF t k).toNat (by omega)
          rw [conjF_def] at e2 i3 i4
          have p1 := hx4.cell r1
          have p2 := hx4.cell r2
          have p3 := hx4.cell e1
          have p4 := hx4.cell e2
          have p5 := hx4.cell ib
          have HBY := Lib.hid bY
          clear l2 ey hgi bY
          cases hb : bitB m (conjF t k y).toNat with
          | false =>
            go_wp2
            go_quiet ((go_at_call 94; exact Calls.quiet_of_same ((hasBit_ent m (conjF t k y) _ (by omega) (by omega)).mono fun _ _ ⟨h1, h2⟩ => ⟨by rw [hb] at h1; exact h1, h2.symm⟩)))
            go_wp2
            go_ret
            exact ⟨ret_bool (normB_no hkl hy HBY.out hb).symm, hx1.trans (hx.trans (hx4.drewN _))⟩
          | true =>
            go_wp2
            go_quiet ((go_at_call 94; exact Calls.quiet_of_same ((hasBit_ent m (conjF t k y) _ (by omega) (by omega)).mono fun _ _ ⟨h1, h2⟩ => ⟨by rw [hb] at h1; exact h1, h2.symm⟩)))
            go_wp2
            go_roundw
            case rel => exact ⟨j + 1, by omega, by go_num, HNL.out.succ (by rw [EY.out, Int.toNat_natCast]; exact hb), hx4.drewN _⟩
            case measure => simp [intOf]; omega

end Go.Proofs.Ytbfhecckapgpnaa

/-
  Contracts of ClassesOf: reference and program; numbering, orbits.
-/
namespace Go.Proofs.Ytbfhecckapgpnaa
set_option linter.unusedVariables false
set_option linter.unusedSimpArgs false
open Go.RowKit
attribute [local go_sem ↓] Go.wp_at_zero Go.wp_at_succ

/-- the numbers below n -/
@[irreducible] def idL (n : Nat) : List Int := mkL n (fun i => (i : Int))
theorem length_idL (n : Nat) : (idL n).length = n := by unfold idL; exact length_mkL _ _
theorem ix_idL (n i : Nat) (h : i < n) : ix (idL n) i = (i : Int) := by unfold idL; exact ix_mkL _ _ _ h

theorem slicesIndex_r (l : List Int) (v : Value) (n : Int) (w : World) (hv : IntsR w v l) (hlen : l.length ≤ 1048576) :
    Calls Try.prog 101 #[v, .int .i64 n] w fun e w' => e = .returned (.int .i64 (indexOf l n)) ∧ w = w' := by
  obtain ⟨a, c, rfl, hr⟩ := hv
  have HR := Lib.hid hr
  clear hr
  go_enter Try.func101, Try.ntmps101
  go_wp2
  go_loop [8] (fun i => ∃ k : Nat, k ≤ l.length ∧ i = .int .i64 k ∧ indexOf l n = indexFrom n (l.drop k) k) (fun i => l.length - (intOf i).toNat)
  case atStart => exact ⟨0, Nat.zero_le _, rfl, by unfold indexOf; rfl⟩
  case round =>
    obtain ⟨k, hk, rfl, hr⟩ := hrel
    have Hr := Lib.hid hr
    clear hr
    by_cases hlt : k < l.length
    · obtain ⟨b, o, rfl, hc⟩ := HR.out (ne_nil_of_lt hlt)
      have hcell := hc k hlt
      clear hc
      by_cases he : (n == ix l k) = true
      · go_wp2
        go_ret
        exact ⟨ret_int (by rw [Hr.out, indexFrom_hit l n k hlt (eq_of_beq he).symm]), rfl⟩
      · have he' : (n == ix l k) = false := by simpa using he
        have hne : ¬ ix l k = n := fun h => he (by rw [h]; exact beq_self_eq_true n)
        have HN := Lib.hid hne
        clear he hne
        go_wp2
        go_round
        case rel => exact ⟨k + 1, by omega, by go_num, by rw [Hr.out, indexFrom_miss l n k hlt HN.out]⟩
        case measure => simp [intOf]; omega
    · go_wp2
      go_ret
      exact ⟨ret_int (by rw [Hr.out, indexFrom_end l n k (by omega)]), rfl⟩

set_option maxRecDepth 100000 in
theorem numbered_any (l : List Int) (v : Value) (w : World) (hv : Ints w v l) :
    Calls Try.prog 96 #[v] w fun e w' => ∃ b c, e = .returned (.slice (some ⟨b, 0, none⟩) l.length c) ∧ OwnI w.heap.size w'.heap.size w' b 0 (numL l) ∧ Ext w w' := by
  obtain ⟨hlen, b, o, c, rfl, hc⟩ := id hv
  have hmk := run_make_row' (P := Try.prog) 45 2 (.int .i64 0) 8 Try.underlying45 infoInt rfl .i64 .i64 l.length (by omega) (by omega)
  go_enter Try.func96, Try.ntmps96
  go_wp2_with fail
  clear hmk
  have hx0 : Ext w (w.alloc (.cells (madeCells #[Value.int .i64 0] l.length) 2)) := (Ext.refl _).alloc _
  have hr0 := World.rowIs_made w (.int .i64 0) l.length 2
  have hz0 : w.heap.size + 1 = (w.alloc (.cells (madeCells #[Value.int .i64 0] l.length) 2)).heap.size := by simp
  go_loopw [3, 13] (fun s i wr => ∃ k : Nat, k ≤ l.length ∧ i = .int .i64 k ∧ GrowI 2 (w.heap.size + 1) wr s (seenTo l k) ∧ wr.rowIs w.heap.size 2 l.length (fun i => .int .i64 (copyTo (numL l) k i)) ∧ Ext w wr ∧ w.heap.size + 1 ≤ wr.heap.size) (fun _ i _ => l.length - (intOf i).toNat)
  case atStart => exact ⟨0, Nat.zero_le _, rfl, GrowI.nil _ _ _, hr0.congr (fun i hi => by rw [copyTo_zero]), hx0, by omega⟩
  case round =>
    clear hx0 hr0 hz0
    obtain ⟨k, hk, rfl, hs, hrow, hx, hz⟩ := hrel
    have hsl := seenTo_len l k
    by_cases hlt : k < l.length
    case neg =>
      go_wp2
      go_ret
      have hkk : k = l.length := by omega
      subst hkk
      exact ⟨w.heap.size, l.length, rfl, ownI_of_row hrow (by rw [length_numL]; omega) (fun i hi => by rw [length_numL] at hi; rw [copyTo_all _ _ _ hi]) (Nat.le_refl _) hrow.lt, hx⟩
    case pos =>
      have hsr := Lib.hid ((hs.ownIV (hi := wr.heap.size) (by omega) (Nat.le_refl _)).toR)
      have e1 := (hc.ext hx) k hlt
      have e2 := hrow.cell hlt
      have e3 := hrow.frozen k
      obtain ⟨sa, sc, rfl⟩ := hs.slice
      cases hb : hasB (seenTo l k) (ix l k) with
      | true =>
        have hpos := hasB_iff.1 hb
        have HO := Lib.hid (numF_old hb)
        have HS := Lib.hid (seenTo_old hb)
        go_wp2_with (go_at_call 101; refine (slicesIndex_r (seenTo l k) _ _ _ hsr.out (by omega)).mono ?_; rintro e w' ⟨rfl, rfl⟩)
        go_roundw
        case rel => exact ⟨k + 1, by omega, by go_num, by rw [HS.out]; exact ⟨hs.1, by
            rcases hs.2 with h1 | ⟨g, cap, cur, h1, h2, h3, h4⟩
            · exact .inl h1
            · exact .inr ⟨g, cap, cur, h1, h2, by rw [Below.heap_setCell _ _ _ _ (by simp only []; omega)]; exact h3, h4⟩⟩, (hrow.set k (.int .i64 (indexOf (seenTo l k) (ix l k)))).congr (fun i hi => by rw [copyTo_succ, ix_numL _ _ hlt, HO.out]; split <;> rfl), hx.setNew (Nat.le_refl _) _, by simpa using hz⟩
        case measure => simp [intOf]; omega
      | false =>
        have hneg : indexOf (seenTo l k) (ix l k) < 0 := by have := hasB_no.1 hb; omega
        have HO := Lib.hid (numF_new hb)
        have HS := Lib.hid (seenTo_new hb)
        have hlt2 : w.heap.size < wr.heap.size := by omega
        go_wp2_with (first | (go_at_call 101; refine (slicesIndex_r (seenTo l k) _ _ _ hsr.out (by omega)).mono ?_; rintro e w' ⟨rfl, rfl⟩) | (at_builtin; refine wpList_append_int rfl _ _ 45 2 rfl Try.underlying45 infoInt (w.heap.size + 1) _ _ rfl (hs.alloc _) _ _ rfl (cell_new _ _ _) (by omega) (by simp; omega) ?_))
        intro v' w3 hi3 hgr hv3
        have hrow3 : w3.rowIs w.heap.size 2 l.length (fun i => .int .i64 (copyTo (numL l) k i)) := hrow.of_block (by
          rw [hgr.block w.heap.size (by simp; omega) (fun e => by have := (World.ownsRow.lt hs _ e.symm).1; omega)]
          exact (ext_box wr _ _).block _ hlt2)
        have hx3 : Ext w w3 := Ext.grown (hx.trans (ext_box _ _ _)) hgr (hs.alloc _) (by omega)
        have hz3 := hgr.size
        have e4 := hrow3.cell hlt
        have e5 := hrow3.frozen k
        clear hgr hs hrow e2 e3
        go_wp2
        go_roundw
        case rel => exact ⟨k + 1, by omega, by go_num, by rw [HS.out]; exact ⟨hi3.1, by
            rcases hi3.2 with h1 | ⟨g, cap, cur, h1, h2, h3, h4⟩
            · exact .inl h1
            · exact .inr ⟨g, cap, cur, h1, h2, by rw [Below.heap_setCell _ _ _ _ (by simp only []; omega)]; exact h3, h4⟩⟩, (hrow3.set k (.int .i64 ((seenTo l k).length : Int))).congr (fun i hi => by rw [copyTo_succ, ix_numL _ _ hlt, HO.out]; split <;> rfl), hx3.setNew (Nat.le_refl _) _, by simp at hz3 ⊢; omega⟩
        case measure => simp [intOf]; omega

end Go.Proofs.Ytbfhecckapgpnaa

/-
  Contracts: products of tables, reference and program.
-/
namespace Go.Proofs.Ytbfhecckapgpnaa
set_option linter.unusedVariables false
set_option linter.unusedSimpArgs false
open Go.RowKit
attribute [local go_sem ↓] Go.wp_at_zero Go.wp_at_succ

set_option maxRecDepth 100000 in
set_option maxHeartbeats 1000000 in
theorem l04Product_any (t u : List (List Int)) (v y : Value) (w : World) (N : Nat) (hN : N = t.length * u.length) (hN12 : N ≤ 12) (hv : Rows w v t) (hy : Rows w y u) (hT : TableOk t) (hU : TableOk u) :
    Calls Try.prog 117 #[v, y] w fun e w' => ∃ v, e = .returned v ∧ Rows w' v (mkT N (prodF t u)) ∧ Ext w w' := by
  obtain ⟨hlen, b, o, c, rfl, hc⟩ := id hv
  obtain ⟨hlen2, b2, o2, c2, rfl, hc2⟩ := id hy
  have ha12 := hT.2.1
  have hb12 := hU.2.1
  have HA := Lib.hid hT
  have HB := Lib.hid hU
  have HK := Lib.hid (show ∀ k, k < N → k < t.length * u.length by intro k hk; rw [← hN]; exact hk)
  have hnm := cast_mul' t.length u.length N hN
  have hm0 : ((u.length : Int) == 0) = false := by have := hU.1; rw [beq_eq_false_iff_ne]; omega
  have hm1 : ¬ (u.length : Int) = 0 := by have := hU.1; omega
  have hm2 : ¬ u.length = 0 := by have := hU.1; omega
  have hm3 : ¬ u = [] := fun e => by have := hU.1; rw [e] at this; simp at this
  clear hT hU hN
  have HLT := Lib.hid (length_mkT N (prodF t u))
  go_enter Try.func117, Try.ntmps117
  go_wp2
  have hX := Ext.refl w
  have hx0 : Ext w (w.alloc (.cells #[] 45)) := (Ext.refl _).alloc _
  have hg0 := GrowT.lit (e := 45) (base := w.heap.size) (w := w) (Nat.le_refl _)
  go_loopw [7, 8] (fun v x wr => ∃ k : Nat, k ≤ N ∧ x = .int .i64 k ∧ GrowT 45 w.heap.size wr v ((mkT N (prodF t u)).take k) ∧ v ≠ .slice none 0 0 ∧ Ext w wr) (fun _ x _ => N - (intOf x).toNat)
  case atStart => exact ⟨0, Nat.zero_le _, rfl, hg0, by simp, hx0⟩
  case round =>
    clear hx0 hg0
    obtain ⟨k, hk, rfl, hg, hv', hx⟩ := hrel
    have HV := Lib.hid hv'
    clear hv'
    by_cases hkl : k < N
    case neg =>
      go_wp2
      go_ret
      refine ⟨u7, rfl, ?_, hX.trans hx⟩
      have : (mkT N (prodF t u)).take k = (mkT N (prodF t u)) := List.take_of_length_le (by rw [HLT.out]; omega)
      rw [this] at hg
      exact hg.rows (by rw [HLT.out]; omega) HV.out
    case pos =>
      obtain ⟨w2, rfl⟩ : ∃ w2 : World, w2 = wr := ⟨_, rfl⟩
      have hxa : Ext w2 (w2.alloc (.cells #[] 2)) := (Ext.refl _).alloc _
      have hi0 := GrowI.lit (e := 2) (base := w2.heap.size) (w := w2) (Nat.le_refl _)
      go_wp2
      have HRL := Lib.hid (show (row (mkT N (prodF t u)) k).length = N by rw [row_mkT _ _ _ hkl, length_partRow])
      have HO := Lib.hid hg.lt
      go_loopw [9, 10] (fun v y wr => ∃ j : Nat, j ≤ N ∧ y = .int .i64 j ∧ GrowI 2 w2.heap.size wr v ((row (mkT N (prodF t u)) k).take j) ∧ v ≠ .slice none 0 0 ∧ Ext w2 wr) (fun _ y _ => N - (intOf y).toNat)
      case atStart => exact ⟨0, Nat.zero_le _, rfl, hi0, by simp, hxa⟩
      case round =>
        clear hxa hi0
        obtain ⟨j, hj, rfl, hi, hvr, hx2⟩ := hrel
        have HVR := Lib.hid hvr
        clear hvr
        by_cases hjl : j < N
        case neg =>
          have hta : (row (mkT N (prodF t u)) k).take j = row (mkT N (prodF t u)) k := List.take_of_length_le (by rw [HRL.out]; omega)
          rw [hta] at hi
          obtain ⟨br, cr, rfl, hri, hrb, hrb2⟩ := hi.row HVR.out
          have hgw := hg.ext hx2
          have hne : some br ≠ u7.ownBlock := fun e => by have := HO.out br e.symm; omega
          have HTL := Lib.hid (show ((mkT N (prodF t u)).take k).length = k by rw [List.length_take, HLT.out]; omega)
          clear hg
          go_wp2_with (at_builtin; refine wpList_append_row rfl _ _ 25 45 rfl Try.underlying25 infoSl w.heap.size _ _ rfl (hgw.ext (ext_box _ _ _)) _ br cr _ rfl (cell_new _ _ _) (hri.ext (ext_box _ _ _)) (by rw [HRL.out]; omega) hne (by rw [HTL.out]; omega) (by have := hx.size; have := hx2.size; simp; omega) ?_)
          intro v' w3 hg3 hgr hv3
          have hx3 : Ext w w3 := (hx.trans (hx2.trans (ext_box _ _ _))).grown hgr (hgw.ext (ext_box _ _ _)).own.choose_spec (Nat.le_refl _)
          clear hgr hne hgw
          go_wp2
          go_roundw
          case rel => exact ⟨k + 1, by omega, by go_num, by rw [take_row _ _ (by rw [HLT.out]; exact hkl)]; exact hg3, hv3, hx3⟩
          case measure => simp [intOf]; omega
        case pos =>
          obtain ⟨q1, z1, hq1, hz1, lq1, lz1, dq1, dz1⟩ := divs (HK.out k hkl)
          obtain ⟨q2, z2, hq2, hz2, lq2, lz2, dq2, dz2⟩ := divs (HK.out j hjl)
          obtain ⟨tq1, tz1⟩ := tdivs hq1 hz1
          obtain ⟨tq2, tz2⟩ := tdivs hq2 hz2
          have wq1 : IntKind.i64.wrap (q1 : Int) = (q1 : Int) := IntWalk.i64_in _ (by omega)
          have wq2 : IntKind.i64.wrap (q2 : Int) = (q2 : Int) := IntWalk.i64_in _ (by omega)
          have wz1 : IntKind.i64.wrap (z1 : Int) = (z1 : Int) := IntWalk.i64_in _ (by omega)
          have wz2 : IntKind.i64.wrap (z2 : Int) = (z2 : Int) := IntWalk.i64_in _ (by omega)
          obtain ⟨d1, s1, m1, r1, l1⟩ := (hc.ext hx).read HA.out rfl lq1
          obtain ⟨e1, i1, i2⟩ := l1 q2 lq2
          obtain ⟨d2, s2, m2, r2, l2⟩ := (hc2.ext hx).read HB.out rfl lz1
          obtain ⟨e2, i3, i4⟩ := l2 z2 lz2
          have hmb := mul_bd i1 (by omega) (show (0 : Int) ≤ (u.length : Int) by omega) (by omega)
          have hw1 : IntKind.i64.wrap (ent t q1 q2 * (u.length : Int)) = ent t q1 q2 * (u.length : Int) := IntWalk.i64_in _ (by omega)
          have hpf : ent t q1 q2 * (u.length : Int) + ent u z1 z2 = prodF t u k j := by rw [← prodF_def, dq1, dz1, dq2, dz2]
          have hw2 : IntKind.i64.wrap (ent t q1 q2 * (u.length : Int) + ent u z1 z2) = prodF t u k j := by rw [← hpf]; exact IntWalk.i64_in _ (by omega)
          have p1 := hx2.cell r1
          have p2 := hx2.cell r2
          have p3 := hx2.cell e1
          have p4 := hx2.cell e2
          have b1 : (q1 : Int) < (t.length : Int) := by omega
          have b2' : (q2 : Int) < (t.length : Int) := by omega
          have b3 : (z1 : Int) < (u.length : Int) := by omega
          have b4 : (z2 : Int) < (u.length : Int) := by omega
          clear l1 l2 dq1 dz1 dq2 dz2 hpf
          have HLJ := Lib.hid (show ((row (mkT N (prodF t u)) k).take j).length = j by rw [List.length_take, HRL.out]; omega)
          go_wp2_with fail
          go_region_held3 (fun w' => w'.cell? ⟨b, o + q1, none⟩ = some (.slice (some ⟨d1, s1, none⟩) t.length m1) ∧ w'.cell? ⟨b2, o2 + z1, none⟩ = some (.slice (some ⟨d2, s2, none⟩) u.length m2) ∧ w'.cell? ⟨d1, s1 + q2, none⟩ = some (.int .i64 (ent t q1 q2)) ∧ w'.cell? ⟨d2, s2 + z2, none⟩ = some (.int .i64 (ent u z1 z2)))
            ((refine ⟨?_, ?_, ?_, ?_⟩ <;> (repeat first | (with_reducible assumption) | (with_reducible refine Ext.cell hx3 ?_) |  (with_reducible exact kc_new) | ((with_reducible refine kc_newE ?_); (simp; done)) | ((with_reducible refine kc_newEa ?_); (simp; done)) | ((with_reducible refine kc_newEb ?_); (simp; done)) | (with_reducible apply kc_alloc) | (with_reducible apply kc_drewN) | (with_reducible apply kc_drew) | ((with_reducible refine kc_set ?_ ?_); (first | (simp only []; omega) | (simp; omega) | (focus (simp; done)))) | ((with_reducible refine kc_set2 ?_ ?_); (focus (simp; done))) | (with_reducible refine kc_same (v := .slice none 0 0) ?_))))
            ((refine step_append_int (by rfl) _ _ 45 2 (by rfl) Try.underlying45 infoInt w2.heap.size _ _ (by rfl) (hi.ext (by (repeat first | (with_reducible exact Ext.refl _) | (with_reducible assumption) | (with_reducible apply Ext.drew) | (with_reducible apply kx_drewN) | (with_reducible apply kx_alloc) | ((with_reducible refine kx_set ?_ ?_); (first | (simp only []; omega) | (simp; omega) | (focus (simp; done)))) ))) _ _ (by rfl) (by (repeat first | (with_reducible assumption) |  (with_reducible exact kc_new) | ((with_reducible refine kc_newE ?_); (simp; done)) | ((with_reducible refine kc_newEa ?_); (simp; done)) | ((with_reducible refine kc_newEb ?_); (simp; done)) | (with_reducible apply kc_alloc) | (with_reducible apply kc_drewN) | (with_reducible apply kc_drew) | ((with_reducible refine kc_set ?_ ?_); (first | (simp only []; omega) | (simp; omega) | (focus (simp; done)))) | ((with_reducible refine kc_set2 ?_ ?_); (focus (simp; done))) | (with_reducible refine kc_same (v := .slice none 0 0) ?_))) (by rw [HLJ.out]; omega) (by have := hx2.size; simp; omega) ?_; intro v' w3 hi3 hgr hv3; have hx3 : Ext w2 w3 := Ext.grown (hx2.trans (by (repeat first | (with_reducible exact Ext.refl _) | (with_reducible assumption) | (with_reducible apply Ext.drew) | (with_reducible apply kx_drewN) | (with_reducible apply kx_alloc) | ((with_reducible refine kx_set ?_ ?_); (first | (simp only []; omega) | (simp; omega) | (focus (simp; done)))) ))) hgr (hi.ext (by (repeat first | (with_reducible exact Ext.refl _) | (with_reducible assumption) | (with_reducible apply Ext.drew) | (with_reducible apply kx_drewN) | (with_reducible apply kx_alloc) | ((with_reducible refine kx_set ?_ ?_); (first | (simp only []; omega) | (simp; omega) | (focus (simp; done)))) ))) (Nat.le_refl _)))
          all_goals
            go_wp2
            go_roundw
            case rel => exact ⟨j + 1, by omega, by go_num, by
              rw [take_ix _ _ (by rw [HRL.out]; exact hjl), row_mkT _ _ _ hkl, ix_partRow _ _ _ _ _ hjl, if_pos hjl]
              rw [row_mkT _ _ _ hkl] at hi3
              exact hi3, hv3, hx3⟩
            case measure => simp [intOf]; omega

end Go.Proofs.Ytbfhecckapgpnaa
