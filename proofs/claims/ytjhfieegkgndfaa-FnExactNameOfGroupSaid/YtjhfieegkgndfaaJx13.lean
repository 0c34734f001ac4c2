/-
  Lists of tables in memory; contract of l01Less.
-/
import Derived.Test.YtjhfieegkgndfaaProg
import Derived.Deep.DeepCutAuto
import Derived.Deep.RegionWith
import Derived.Deep.RegionHeld3
import Derived.Deep.DrawnRows
import Derived.Test.YtjhfieegkgndfaaJx0
import Derived.Test.YtjhfieegkgndfaaJx1
import Derived.Test.YtjhfieegkgndfaaJx3
import Derived.Test.YtjhfieegkgndfaaJx8
import Derived.Test.YtjhfieegkgndfaaJx2
import Derived.Test.YtjhfieegkgndfaaJx4
import Derived.Test.YtjhfieegkgndfaaJx5
import Derived.Test.YtjhfieegkgndfaaJx6
import Derived.Test.YtjhfieegkgndfaaJx7
import Derived.Test.YtjhfieegkgndfaaJx11
import Derived.Test.YtjhfieegkgndfaaJx14
import Derived.Test.YtjhfieegkgndfaaJx15
import Derived.Test.YtjhfieegkgndfaaJx32
namespace Go.Proofs.Ytjhfieegkgndfaa
set_option linter.unusedVariables false
set_option linter.unusedSimpArgs false
open Go.RowKit
attribute [local go_sem ↓] Go.wp_at_zero Go.wp_at_succ

/-- from ⟨b, o⟩ on lie slices that hold the tables ts -/
def TabsAt (w : World) (b o : Nat) (ts : List (List (List Int))) : Prop := ∀ k, k < ts.length → ∃ r, w.cell? ⟨b, o + k, none⟩ = some r ∧ Rows w r (tab ts k)

/-- v is a slice that holds the tables ts -/
def Tabs (w : World) (v : Value) (ts : List (List (List Int))) : Prop := ts.length ≤ 1048576 ∧ ∃ b o c, v = .slice (some ⟨b, o, none⟩) ts.length c ∧ TabsAt w b o ts
theorem TabsAt.ext {w w' : World} {b o : Nat} {ts : List (List (List Int))} (h : TabsAt w b o ts) (hx : Ext w w') : TabsAt w' b o ts := fun k hk => by
  obtain ⟨r, h1, h2⟩ := h k hk
  exact ⟨r, hx.cell h1, h2.ext hx⟩
theorem Tabs.ext {w w' : World} {v : Value} {ts : List (List (List Int))} (h : Tabs w v ts) (hx : Ext w w') : Tabs w' v ts := by
  obtain ⟨hl, b, o, c, rfl, hc⟩ := h
  exact ⟨hl, b, o, c, rfl, hc.ext hx⟩
theorem TabsAt.get {w : World} {b o : Nat} {ts : List (List (List Int))} (h : TabsAt w b o ts) {k : Nat} (hk : k < ts.length) :
    ∃ b1 o1 c1, w.cell? ⟨b, o + k, none⟩ = some (.slice (some ⟨b1, o1, none⟩) (tab ts k).length c1) ∧ RowsAt w b1 o1 (tab ts k) := by
  obtain ⟨r, h1, _, b1, o1, c1, rfl, h2⟩ := h k hk
  exact ⟨b1, o1, c1, h1, h2⟩

/-- an entry of table k: the three cells on the way to it -/
theorem TabsAt.read {w : World} {b o n : Nat} {ts : List (List (List Int))} (h : TabsAt w b o ts) (hT : TabsOk n ts) {k : Nat} (hk : k < ts.length) :
    ∃ b1 o1 c1, w.cell? ⟨b, o + k, none⟩ = some (.slice (some ⟨b1, o1, none⟩) n c1) ∧ ∀ x, x < n → ∃ b2 o2 c2, w.cell? ⟨b1, o1 + x, none⟩ = some (.slice (some ⟨b2, o2, none⟩) n c2) ∧ ∀ y, y < n → w.cell? ⟨b2, o2 + y, none⟩ = some (.int .i64 (ent (tab ts k) x y)) := by
  obtain ⟨b1, o1, c1, h1, h2⟩ := h.get hk
  obtain ⟨t1, t2⟩ := hT k hk
  rw [t2] at h1
  refine ⟨b1, o1, c1, h1, fun x hx => ?_⟩
  obtain ⟨b2, o2, c2, g1, g2, _⟩ := h2.get (i := x) (by omega)
  have hl := t1.len (x := x) (by omega)
  rw [hl, t2] at g1
  exact ⟨b2, o2, c2, g1, fun y hy => g2.ent (by rw [hl, t2]) hy⟩

set_option maxHeartbeats 400000 in
theorem l01Less_any (l m : List Int) (v u : Value) (w : World) (hv : Ints w v l) (hu : Ints w u m) :
    Calls Try.prog 77 #[v, u] w fun e w' => e = .returned (.bool (lessB l m)) ∧ Drawn w w' := by
  obtain ⟨hlen, b, o, c, rfl, hc⟩ := hv
  obtain ⟨hlen2, b2, o2, c2, rfl, hc2⟩ := hu
  go_enter Try.func77, Try.ntmps77
  go_wp2
  go_loopw [5] (fun i wr => ∃ k : Nat, k ≤ l.length ∧ k ≤ m.length ∧ i = .int .i64 k ∧ lessB l m = lessB (l.drop k) (m.drop k) ∧ Drawn w wr) (fun i _ => l.length - (intOf i).toNat)
  case atStart => exact ⟨0, Nat.zero_le _, Nat.zero_le _, rfl, rfl, Drawn.refl w⟩
  case round =>
    obtain ⟨k, hk, hk2, rfl, he, hd⟩ := hrel
    have HE := Lib.hid he
    clear he
    by_cases h1 : k < l.length
    · by_cases h2 : k < m.length
      · have e1 := (hc.ext hd.ext) k h1
        have e2 := (hc2.ext hd.ext) k h2
        have HA := Lib.hid (lessB_at l m k h1 h2)
        by_cases hne : ix l k = ix m k
        · have hb : (ix l k != ix m k) = false := by simp [hne]
          have HN := Lib.hid hne
          clear hne
          go_wp2
          go_quiet (fail)
          go_wp2
          go_roundw
          case rel => exact ⟨k + 1, by omega, by omega, by go_num, by rw [HE.out, HA.out, if_pos HN.out], hd.drewN _⟩
          case measure => simp [intOf]; omega
        · have hb : (ix l k != ix m k) = true := by simp [hne]
          have HN := Lib.hid hne
          clear hne
          go_wp2
          go_quiet (fail)
          go_wp2
          go_quiet (fail)
          go_wp2
          go_ret
          exact ⟨ret_bool (by rw [HE.out, HA.out, if_neg HN.out]), (hd.drewN _).drewN _⟩
      · have HA := Lib.hid (lessB_end l m k hk hk2 (by omega))
        go_wp2
        go_ret
        exact ⟨ret_bool (by rw [HE.out, HA.out]), hd⟩
    · have HA := Lib.hid (lessB_end l m k hk hk2 (by omega))
      go_wp2
      go_ret
      exact ⟨ret_bool (by rw [HE.out, HA.out]), hd⟩

end Go.Proofs.Ytjhfieegkgndfaa

/-
  Contracts of IsNormalIn: reference and program.
-/
namespace Go.Proofs.Ytjhfieegkgndfaa
set_option linter.unusedVariables false
set_option linter.unusedSimpArgs false
open Go.RowKit
attribute [local go_sem ↓] Go.wp_at_zero Go.wp_at_succ

end Go.Proofs.Ytjhfieegkgndfaa

/-
  Contracts of ClassesOf: reference and program; numbering, orbits.
-/
namespace Go.Proofs.Ytjhfieegkgndfaa
set_option linter.unusedVariables false
set_option linter.unusedSimpArgs false
open Go.RowKit
attribute [local go_sem ↓] Go.wp_at_zero Go.wp_at_succ

/-- the numbers below n -/
@[irreducible] def idL (n : Nat) : List Int := mkL n (fun i => (i : Int))
theorem length_idL (n : Nat) : (idL n).length = n := by unfold idL; exact length_mkL _ _
theorem ix_idL (n i : Nat) (h : i < n) : ix (idL n) i = (i : Int) := by unfold idL; exact ix_mkL _ _ _ h

theorem identity_any (n : Nat) (w : World) (hn : n ≤ 1048576) :
    Calls Try.prog 105 #[.int .i64 n] w fun e w' => ∃ b c, e = .returned (.slice (some ⟨b, 0, none⟩) n c) ∧ OwnI w.heap.size w'.heap.size w' b 0 (idL n) ∧ Ext w w' := by
  have hmk := run_make_row' (P := Try.prog) 65 2 (.int .i64 0) 8 Try.underlying65 infoInt rfl .i64 .i64 n (by omega) (by omega)
  go_enter Try.func105, Try.ntmps105
  go_wp2_with fail
  clear hmk
  have hx0 : Ext w (w.alloc (.cells (madeCells #[Value.int .i64 0] n) 2)) := (Ext.refl _).alloc _
  have hr0 := World.rowIs_made w (.int .i64 0) n 2
  go_loopw [9] (fun i wr => ∃ k : Nat, k ≤ n ∧ i = .int .i64 k ∧ wr.rowIs w.heap.size 2 n (fun i => .int .i64 (copyTo (idL n) k i)) ∧ Ext w wr) (fun i _ => n - (intOf i).toNat)
  case atStart => exact ⟨0, Nat.zero_le _, rfl, hr0.congr (fun i hi => by rw [copyTo_zero]), hx0⟩
  case round =>
    clear hx0 hr0
    obtain ⟨k, hk, rfl, hrow, hx⟩ := hrel
    by_cases hlt : k < n
    · have e2 := hrow.cell hlt
      have e3 := hrow.frozen k
      go_wp2
      go_roundw
      case rel => exact ⟨k + 1, by omega, by go_num, (hrow.set k (.int .i64 k)).congr (fun i hi => by rw [copyTo_succ, ix_idL _ _ hlt]; split <;> rfl), hx.setNew (Nat.le_refl _) _⟩
      case measure => simp [intOf]; omega
    · go_wp2
      go_ret
      have hkk : k = n := by omega
      subst hkk
      exact ⟨w.heap.size, k, rfl, ownI_of_row hrow (by rw [length_idL]; omega) (fun i hi => by rw [length_idL] at hi; rw [copyTo_all _ _ _ hi]) (Nat.le_refl _) hrow.lt, hx⟩

theorem slicesIndex_r (l : List Int) (v : Value) (n : Int) (w : World) (hv : IntsR w v l) (hlen : l.length ≤ 1048576) :
    Calls Try.prog 126 #[v, .int .i64 n] w fun e w' => e = .returned (.int .i64 (indexOf l n)) ∧ w = w' := by
  obtain ⟨a, c, rfl, hr⟩ := hv
  have HR := Lib.hid hr
  clear hr
  go_enter Try.func126, Try.ntmps126
  go_wp2
  go_loop [8] (fun i => ∃ k : Nat, k ≤ l.length ∧ i = .int .i64 k ∧ indexOf l n = indexFrom n (l.drop k) k) (fun i => l.length - (intOf i).toNat)
  case atStart => exact ⟨0, Nat.zero_le _, rfl, by unfold indexOf; rfl⟩
  case round =>
    obtain ⟨k, hk, rfl, hr⟩ := hrel
    have Hr := Lib.hid hr
    clear hr
    by_cases hlt : k < l.length
    · obtain ⟨b, o, rfl, hc⟩ := HR.out (ne_nil_of_lt hlt)
      have hcell := hc k hlt
      clear hc
      by_cases he : (n == ix l k) = true
      · go_wp2
        go_ret
        exact ⟨ret_int (by rw [Hr.out, indexFrom_hit l n k hlt (eq_of_beq he).symm]), rfl⟩
      · have he' : (n == ix l k) = false := by simpa using he
        have hne : ¬ ix l k = n := fun h => he (by rw [h]; exact beq_self_eq_true n)
        have HN := Lib.hid hne
        clear he hne
        go_wp2
        go_round
        case rel => exact ⟨k + 1, by omega, by go_num, by rw [Hr.out, indexFrom_miss l n k hlt HN.out]⟩
        case measure => simp [intOf]; omega
    · go_wp2
      go_ret
      exact ⟨ret_int (by rw [Hr.out, indexFrom_end l n k (by omega)]), rfl⟩

end Go.Proofs.Ytjhfieegkgndfaa

/-
  Contracts: products of tables, reference and program.
-/
namespace Go.Proofs.Ytjhfieegkgndfaa
set_option linter.unusedVariables false
set_option linter.unusedSimpArgs false
open Go.RowKit
attribute [local go_sem ↓] Go.wp_at_zero Go.wp_at_succ

set_option maxRecDepth 100000 in
set_option maxHeartbeats 1000000 in
theorem l04Product_any (t u : List (List Int)) (v y : Value) (w : World) (N : Nat) (hN : N = t.length * u.length) (hN12 : N ≤ 12) (hv : Rows w v t) (hy : Rows w y u) (hT : TableOk t) (hU : TableOk u) :
    Calls Try.prog 87 #[v, y] w fun e w' => ∃ v, e = .returned v ∧ Rows w' v (mkT N (prodF t u)) ∧ Ext w w' := by
  obtain ⟨hlen, b, o, c, rfl, hc⟩ := id hv
  obtain ⟨hlen2, b2, o2, c2, rfl, hc2⟩ := id hy
  have ha12 := hT.2.1
  have hb12 := hU.2.1
  have HA := Lib.hid hT
  have HB := Lib.hid hU
  have HK := Lib.hid (show ∀ k, k < N → k < t.length * u.length by intro k hk; rw [← hN]; exact hk)
  have hnm := cast_mul' t.length u.length N hN
  have hm0 : ((u.length : Int) == 0) = false := by have := hU.1; rw [beq_eq_false_iff_ne]; omega
  have hm1 : ¬ (u.length : Int) = 0 := by have := hU.1; omega
  have hm2 : ¬ u.length = 0 := by have := hU.1; omega
  have hm3 : ¬ u = [] := fun e => by have := hU.1; rw [e] at this; simp at this
  clear hT hU hN
  have HLT := Lib.hid (length_mkT N (prodF t u))
  go_enter Try.func87, Try.ntmps87
  go_wp2
  have hX := Ext.refl w
  have hx0 : Ext w (w.alloc (.cells #[] 65)) := (Ext.refl _).alloc _
  have hg0 := GrowT.lit (e := 65) (base := w.heap.size) (w := w) (Nat.le_refl _)
  go_loopw [7, 8] (fun v x wr => ∃ k : Nat, k ≤ N ∧ x = .int .i64 k ∧ GrowT 65 w.heap.size wr v ((mkT N (prodF t u)).take k) ∧ v ≠ .slice none 0 0 ∧ Ext w wr) (fun _ x _ => N - (intOf x).toNat)
  case atStart => exact ⟨0, Nat.zero_le _, rfl, hg0, by simp, hx0⟩
  case round =>
    clear hx0 hg0
    obtain ⟨k, hk, rfl, hg, hv', hx⟩ := hrel
    have HV := Lib.hid hv'
    clear hv'
    by_cases hkl : k < N
    case neg =>
      go_wp2
      go_ret
      refine ⟨u7, rfl, ?_, hX.trans hx⟩
      have : (mkT N (prodF t u)).take k = (mkT N (prodF t u)) := List.take_of_length_le (by rw [HLT.out]; omega)
      rw [this] at hg
      exact hg.rows (by rw [HLT.out]; omega) HV.out
    case pos =>
      obtain ⟨w2, rfl⟩ : ∃ w2 : World, w2 = wr := ⟨_, rfl⟩
      have hxa : Ext w2 (w2.alloc (.cells #[] 2)) := (Ext.refl _).alloc _
      have hi0 := GrowI.lit (e := 2) (base := w2.heap.size) (w := w2) (Nat.le_refl _)
      go_wp2
      have HRL := Lib.hid (show (row (mkT N (prodF t u)) k).length = N by rw [row_mkT _ _ _ hkl, length_partRow])
      have HO := Lib.hid hg.lt
      go_loopw [9, 10] (fun v y wr => ∃ j : Nat, j ≤ N ∧ y = .int .i64 j ∧ GrowI 2 w2.heap.size wr v ((row (mkT N (prodF t u)) k).take j) ∧ v ≠ .slice none 0 0 ∧ Ext w2 wr) (fun _ y _ => N - (intOf y).toNat)
      case atStart => exact ⟨0, Nat.zero_le _, rfl, hi0, by simp, hxa⟩
      case round =>
        clear hxa hi0
        obtain ⟨j, hj, rfl, hi, hvr, hx2⟩ := hrel
        have HVR := Lib.hid hvr
        clear hvr
        by_cases hjl : j < N
        case neg =>
          have hta : (row (mkT N (prodF t u)) k).take j = row (mkT N (prodF t u)) k := List.take_of_length_le (by rw [HRL.out]; omega)
          rw [hta] at hi
          obtain ⟨br, cr, rfl, hri, hrb, hrb2⟩ := hi.row HVR.out
          have hgw := hg.ext hx2
          have hne : some br ≠ u7.ownBlock := fun e => by have := HO.out br e.symm; omega
          have HTL := Lib.hid (show ((mkT N (prodF t u)).take k).length = k by rw [List.length_take, HLT.out]; omega)
          clear hg
          go_wp2_with (at_builtin; refine wpList_append_row rfl _ _ 22 65 rfl Try.underlying22 infoSl w.heap.size _ _ rfl (hgw.ext (ext_box _ _ _)) _ br cr _ rfl (cell_new _ _ _) (hri.ext (ext_box _ _ _)) (by rw [HRL.out]; omega) hne (by rw [HTL.out]; omega) (by have := hx.size; have := hx2.size; simp; omega) ?_)
          intro v' w3 hg3 hgr hv3
          have hx3 : Ext w w3 := (hx.trans (hx2.trans (ext_box _ _ _))).grown hgr (hgw.ext (ext_box _ _ _)).own.choose_spec (Nat.le_refl _)
          clear hgr hne hgw
          go_wp2
          go_roundw
          case rel => exact ⟨k + 1, by omega, by go_num, by rw [take_row _ _ (by rw [HLT.out]; exact hkl)]; exact hg3, hv3, hx3⟩
          case measure => simp [intOf]; omega
        case pos =>
          obtain ⟨q1, z1, hq1, hz1, lq1, lz1, dq1, dz1⟩ := divs (HK.out k hkl)
          obtain ⟨q2, z2, hq2, hz2, lq2, lz2, dq2, dz2⟩ := divs (HK.out j hjl)
          obtain ⟨tq1, tz1⟩ := tdivs hq1 hz1
          obtain ⟨tq2, tz2⟩ := tdivs hq2 hz2
          have wq1 : IntKind.i64.wrap (q1 : Int) = (q1 : Int) := IntWalk.i64_in _ (by omega)
          have wq2 : IntKind.i64.wrap (q2 : Int) = (q2 : Int) := IntWalk.i64_in _ (by omega)
          have wz1 : IntKind.i64.wrap (z1 : Int) = (z1 : Int) := IntWalk.i64_in _ (by omega)
          have wz2 : IntKind.i64.wrap (z2 : Int) = (z2 : Int) := IntWalk.i64_in _ (by omega)
          obtain ⟨d1, s1, m1, r1, l1⟩ := (hc.ext hx).read HA.out rfl lq1
          obtain ⟨e1, i1, i2⟩ := l1 q2 lq2
          obtain ⟨d2, s2, m2, r2, l2⟩ := (hc2.ext hx).read HB.out rfl lz1
          obtain ⟨e2, i3, i4⟩ := l2 z2 lz2
          have hmb := mul_bd i1 (by omega) (show (0 : Int) ≤ (u.length : Int) by omega) (by omega)
          have hw1 : IntKind.i64.wrap (ent t q1 q2 * (u.length : Int)) = ent t q1 q2 * (u.length : Int) := IntWalk.i64_in _ (by omega)
          have hpf : ent t q1 q2 * (u.length : Int) + ent u z1 z2 = prodF t u k j := by rw [← prodF_def, dq1, dz1, dq2, dz2]
          have hw2 : IntKind.i64.wrap (ent t q1 q2 * (u.length : Int) + ent u z1 z2) = prodF t u k j := by rw [← hpf]; exact IntWalk.i64_in _ (by omega)
          have p1 := hx2.cell r1
          have p2 := hx2.cell r2
          have p3 := hx2.cell e1
          have p4 := hx2.cell e2
          have b1 : (q1 : Int) < (t.length : Int) := by omega
          have b2' : (q2 : Int) < (t.length : Int) := by omega
          have b3 : (z1 : Int) < (u.length : Int) := by omega
          have b4 : (z2 : Int) < (u.length : Int) := by omega
          clear l1 l2 dq1 dz1 dq2 dz2 hpf
          have HLJ := Lib.hid (show ((row (mkT N (prodF t u)) k).take j).length = j by rw [List.length_take, HRL.out]; omega)
          go_wp2_with fail
          go_region_held3 (fun w' => w'.cell? ⟨b, o + q1, none⟩ = some (.slice (some ⟨d1, s1, none⟩) t.length m1) ∧ w'.cell? ⟨b2, o2 + z1, none⟩ = some (.slice (some ⟨d2, s2, none⟩) u.length m2) ∧ w'.cell? ⟨d1, s1 + q2, none⟩ = some (.int .i64 (ent t q1 q2)) ∧ w'.cell? ⟨d2, s2 + z2, none⟩ = some (.int .i64 (ent u z1 z2)))
            ((refine ⟨?_, ?_, ?_, ?_⟩ <;> (repeat first | (with_reducible assumption) | (with_reducible refine Ext.cell hx3 ?_) |  (with_reducible exact kc_new) | ((with_reducible refine kc_newE ?_); (simp; done)) | ((with_reducible refine kc_newEa ?_); (simp; done)) | ((with_reducible refine kc_newEb ?_); (simp; done)) | (with_reducible apply kc_alloc) | (with_reducible apply kc_drewN) | (with_reducible apply kc_drew) | ((with_reducible refine kc_set ?_ ?_); (first | (simp only []; omega) | (simp; omega) | (focus (simp; done)))) | ((with_reducible refine kc_set2 ?_ ?_); (focus (simp; done))) | (with_reducible refine kc_same (v := .slice none 0 0) ?_))))
            ((refine step_append_int (by rfl) _ _ 65 2 (by rfl) Try.underlying65 infoInt w2.heap.size _ _ (by rfl) (hi.ext (by (repeat first | (with_reducible exact Ext.refl _) | (with_reducible assumption) | (with_reducible apply Ext.drew) | (with_reducible apply kx_drewN) | (with_reducible apply kx_alloc) | ((with_reducible refine kx_set ?_ ?_); (first | (simp only []; omega) | (simp; omega) | (focus (simp; done)))) ))) _ _ (by rfl) (by (repeat first | (with_reducible assumption) |  (with_reducible exact kc_new) | ((with_reducible refine kc_newE ?_); (simp; done)) | ((with_reducible refine kc_newEa ?_); (simp; done)) | ((with_reducible refine kc_newEb ?_); (simp; done)) | (with_reducible apply kc_alloc) | (with_reducible apply kc_drewN) | (with_reducible apply kc_drew) | ((with_reducible refine kc_set ?_ ?_); (first | (simp only []; omega) | (simp; omega) | (focus (simp; done)))) | ((with_reducible refine kc_set2 ?_ ?_); (focus (simp; done))) | (with_reducible refine kc_same (v := .slice none 0 0) ?_))) (by rw [HLJ.out]; omega) (by have := hx2.size; simp; omega) ?_; intro v' w3 hi3 hgr hv3; have hx3 : Ext w2 w3 := Ext.grown (hx2.trans (by (repeat first | (with_reducible exact Ext.refl _) | (with_reducible assumption) | (with_reducible apply Ext.drew) | (with_reducible apply kx_drewN) | (with_reducible apply kx_alloc) | ((with_reducible refine kx_set ?_ ?_); (first | (simp only []; omega) | (simp; omega) | (focus (simp; done)))) ))) hgr (hi.ext (by (repeat first | (with_reducible exact Ext.refl _) | (with_reducible assumption) | (with_reducible apply Ext.drew) | (with_reducible apply kx_drewN) | (with_reducible apply kx_alloc) | ((with_reducible refine kx_set ?_ ?_); (first | (simp only []; omega) | (simp; omega) | (focus (simp; done)))) ))) (Nat.le_refl _)))
          all_goals
            go_wp2
            go_roundw
            case rel => exact ⟨j + 1, by omega, by go_num, by
              rw [take_ix _ _ (by rw [HRL.out]; exact hjl), row_mkT _ _ _ hkl, ix_partRow _ _ _ _ _ hjl, if_pos hjl]
              rw [row_mkT _ _ _ hkl] at hi3
              exact hi3, hv3, hx3⟩
            case measure => simp [intOf]; omega

theorem productTable1_any (t u : List (List Int)) (v y : Value) (N i j B C D : Nat) (w : World) (hN : N = t.length * u.length) (hB : w.cell? ⟨B, 0, none⟩ = some v) (hC : w.cell? ⟨C, 0, none⟩ = some (.int .i64 u.length)) (hD : w.cell? ⟨D, 0, none⟩ = some y) (hv : Rows w v t) (hy : Rows w y u) (hT : TableOk t) (hU : TableOk u) (hx : i < N) (hj : j < N) :
    Calls Try.prog 119 #[.int .i64 i, .int .i64 j, .pointer (some ⟨B, 0, none⟩), .pointer (some ⟨C, 0, none⟩), .pointer (some ⟨D, 0, none⟩)] w fun e w' => e = .returned (.int .i64 (prodF t u i j)) ∧ Ext w w' := by
  obtain ⟨hlen, b, o, c, rfl, hc⟩ := id hv
  obtain ⟨hlen2, b2, o2, c2, rfl, hc2⟩ := id hy
  have ha12 := hT.2.1
  have hb12 := hU.2.1
  have HA := Lib.hid hT
  have HB := Lib.hid hU
  have hm0 : ((u.length : Int) == 0) = false := by have := hU.1; rw [beq_eq_false_iff_ne]; omega
  have hm1 : ¬ (u.length : Int) = 0 := by have := hU.1; omega
  have hm2 : ¬ u.length = 0 := by have := hU.1; omega
  have hm3 : ¬ u = [] := fun e => by have := hU.1; rw [e] at this; simp at this
  obtain ⟨q1, z1, hq1, hz1, lq1, lz1, dq1, dz1⟩ := divs (show i < t.length * u.length by rw [← hN]; exact hx)
  obtain ⟨q2, z2, hq2, hz2, lq2, lz2, dq2, dz2⟩ := divs (show j < t.length * u.length by rw [← hN]; exact hj)
  obtain ⟨tq1, tz1⟩ := tdivs hq1 hz1
  obtain ⟨tq2, tz2⟩ := tdivs hq2 hz2
  have wq1 : IntKind.i64.wrap (q1 : Int) = (q1 : Int) := IntWalk.i64_in _ (by omega)
  have wq2 : IntKind.i64.wrap (q2 : Int) = (q2 : Int) := IntWalk.i64_in _ (by omega)
  have wz1 : IntKind.i64.wrap (z1 : Int) = (z1 : Int) := IntWalk.i64_in _ (by omega)
  have wz2 : IntKind.i64.wrap (z2 : Int) = (z2 : Int) := IntWalk.i64_in _ (by omega)
  obtain ⟨d1, s1, m1, r1, l1⟩ := hc.read HA.out rfl lq1
  obtain ⟨e1, i1, i2⟩ := l1 q2 lq2
  obtain ⟨d2, s2, m2, r2, l2⟩ := hc2.read HB.out rfl lz1
  obtain ⟨e2, i3, i4⟩ := l2 z2 lz2
  have hmb := mul_bd i1 (by omega) (show (0 : Int) ≤ (u.length : Int) by omega) (by omega)
  have hw1 : IntKind.i64.wrap (ent t q1 q2 * (u.length : Int)) = ent t q1 q2 * (u.length : Int) := IntWalk.i64_in _ (by omega)
  have hpf : ent t q1 q2 * (u.length : Int) + ent u z1 z2 = prodF t u i j := by rw [← prodF_def, dq1, dz1, dq2, dz2]
  have hw2 : IntKind.i64.wrap (ent t q1 q2 * (u.length : Int) + ent u z1 z2) = prodF t u i j := by rw [← hpf]; exact IntWalk.i64_in _ (by omega)
  have b1 : (q1 : Int) < (t.length : Int) := by omega
  have b2' : (q2 : Int) < (t.length : Int) := by omega
  have b3 : (z1 : Int) < (u.length : Int) := by omega
  have b4 : (z2 : Int) < (u.length : Int) := by omega
  clear l1 l2 dq1 dz1 dq2 dz2 hpf hT hU hN
  go_enter Try.func119, Try.ntmps119
  go_wp2
  go_quiet (fail)
  go_wp2
  go_ret
  exact ⟨rfl, (Ext.refl _).drewN _⟩

theorem callProductTable1 (args : Array Value) (w : World) : (callFunc 119 args).run Try.prog w = .ok (.enter 119 args) w :=
  callFunc_enter Try.func119 (by kernel_rfl) rfl args w

end Go.Proofs.Ytjhfieegkgndfaa
