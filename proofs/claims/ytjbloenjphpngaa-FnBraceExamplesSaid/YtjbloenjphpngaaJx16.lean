/-
  Lists of tables in memory; contract of l01Less.
-/
import Derived.Test.YtjbloenjphpngaaProg
import Derived.Deep.DeepCutAuto
import Derived.Deep.RegionWith
import Derived.Deep.RegionHeld3
import Derived.Deep.DrawnRows
import Derived.Test.YtjbloenjphpngaaJx0
import Derived.Test.YtjbloenjphpngaaJx1
import Derived.Test.YtjbloenjphpngaaJx5
import Derived.Test.YtjbloenjphpngaaJx8
import Derived.Test.YtjbloenjphpngaaJx9
import Derived.Test.YtjbloenjphpngaaJx2
import Derived.Test.YtjbloenjphpngaaJx14
import Derived.Test.YtjbloenjphpngaaJx10
import Derived.Test.YtjbloenjphpngaaJx3
import Derived.Test.YtjbloenjphpngaaJx4
import Derived.Test.YtjbloenjphpngaaJx12
import Derived.Test.YtjbloenjphpngaaJx7
import Derived.Test.YtjbloenjphpngaaJx6
import Derived.Test.YtjbloenjphpngaaJx15
import Derived.Test.YtjbloenjphpngaaJx17
import Derived.Test.YtjbloenjphpngaaJx11
import Derived.Test.YtjbloenjphpngaaJx13
namespace Go.Proofs.Ytjbloenjphpngaa
set_option linter.unusedVariables false
set_option linter.unusedSimpArgs false
open Go.RowKit
attribute [local go_sem ↓] Go.wp_at_zero Go.wp_at_succ

/-- from ⟨b, o⟩ on lie slices that hold the tables ts -/
def TabsAt (w : World) (b o : Nat) (ts : List (List (List Int))) : Prop := ∀ k, k < ts.length → ∃ r, w.cell? ⟨b, o + k, none⟩ = some r ∧ Rows w r (tab ts k)

/-- v is a slice that holds the tables ts -/
def Tabs (w : World) (v : Value) (ts : List (List (List Int))) : Prop := ts.length ≤ 1048576 ∧ ∃ b o c, v = .slice (some ⟨b, o, none⟩) ts.length c ∧ TabsAt w b o ts
theorem TabsAt.ext {w w' : World} {b o : Nat} {ts : List (List (List Int))} (h : TabsAt w b o ts) (hx : Ext w w') : TabsAt w' b o ts := fun k hk => by
  obtain ⟨r, h1, h2⟩ := h k hk
  exact ⟨r, hx.cell h1, h2.ext hx⟩
theorem Tabs.ext {w w' : World} {v : Value} {ts : List (List (List Int))} (h : Tabs w v ts) (hx : Ext w w') : Tabs w' v ts := by
  obtain ⟨hl, b, o, c, rfl, hc⟩ := h
  exact ⟨hl, b, o, c, rfl, hc.ext hx⟩
theorem TabsAt.get {w : World} {b o : Nat} {ts : List (List (List Int))} (h : TabsAt w b o ts) {k : Nat} (hk : k < ts.length) :
    ∃ b1 o1 c1, w.cell? ⟨b, o + k, none⟩ = some (.slice (some ⟨b1, o1, none⟩) (tab ts k).length c1) ∧ RowsAt w b1 o1 (tab ts k) := by
  obtain ⟨r, h1, _, b1, o1, c1, rfl, h2⟩ := h k hk
  exact ⟨b1, o1, c1, h1, h2⟩

/-- an entry of table k: the three cells on the way to it -/
theorem TabsAt.read {w : World} {b o n : Nat} {ts : List (List (List Int))} (h : TabsAt w b o ts) (hT : TabsOk n ts) {k : Nat} (hk : k < ts.length) :
    ∃ b1 o1 c1, w.cell? ⟨b, o + k, none⟩ = some (.slice (some ⟨b1, o1, none⟩) n c1) ∧ ∀ x, x < n → ∃ b2 o2 c2, w.cell? ⟨b1, o1 + x, none⟩ = some (.slice (some ⟨b2, o2, none⟩) n c2) ∧ ∀ y, y < n → w.cell? ⟨b2, o2 + y, none⟩ = some (.int .i64 (ent (tab ts k) x y)) := by
  obtain ⟨b1, o1, c1, h1, h2⟩ := h.get hk
  obtain ⟨t1, t2⟩ := hT k hk
  rw [t2] at h1
  refine ⟨b1, o1, c1, h1, fun x hx => ?_⟩
  obtain ⟨b2, o2, c2, g1, g2, _⟩ := h2.get (i := x) (by omega)
  have hl := t1.len (x := x) (by omega)
  rw [hl, t2] at g1
  exact ⟨b2, o2, c2, g1, fun y hy => g2.ent (by rw [hl, t2]) hy⟩

set_option maxHeartbeats 400000 in
theorem l01Less_any (l m : List Int) (v u : Value) (w : World) (hv : Ints w v l) (hu : Ints w u m) :
    Calls Try.prog 96 #[v, u] w fun e w' => e = .returned (.bool (lessB l m)) ∧ Drawn w w' := by
  obtain ⟨hlen, b, o, c, rfl, hc⟩ := hv
  obtain ⟨hlen2, b2, o2, c2, rfl, hc2⟩ := hu
  go_enter Try.func96, Try.ntmps96
  go_wp2
  go_loopw [5] (fun i wr => ∃ k : Nat, k ≤ l.length ∧ k ≤ m.length ∧ i = .int .i64 k ∧ lessB l m = lessB (l.drop k) (m.drop k) ∧ Drawn w wr) (fun i _ => l.length - (intOf i).toNat)
  case atStart => exact ⟨0, Nat.zero_le _, Nat.zero_le _, rfl, rfl, Drawn.refl w⟩
  case round =>
    obtain ⟨k, hk, hk2, rfl, he, hd⟩ := hrel
    have HE := Lib.hid he
    clear he
    by_cases h1 : k < l.length
    · by_cases h2 : k < m.length
      · have e1 := (hc.ext hd.ext) k h1
        have e2 := (hc2.ext hd.ext) k h2
        have HA := Lib.hid (lessB_at l m k h1 h2)
        by_cases hne : ix l k = ix m k
        · have hb : (ix l k != ix m k) = false := by simp [hne]
          have HN := Lib.hid hne
          clear hne
          go_wp2
          go_quiet (fail)
          go_wp2
          go_roundw
          case rel => exact ⟨k + 1, by omega, by omega, by go_num, by rw [HE.out, HA.out, if_pos HN.out], hd.drewN _⟩
          case measure => simp [intOf]; omega
        · have hb : (ix l k != ix m k) = true := by simp [hne]
          have HN := Lib.hid hne
          clear hne
          go_wp2
          go_quiet (fail)
          go_wp2
          go_quiet (fail)
          go_wp2
          go_ret
          exact ⟨ret_bool (by rw [HE.out, HA.out, if_neg HN.out]), (hd.drewN _).drewN _⟩
      · have HA := Lib.hid (lessB_end l m k hk hk2 (by omega))
        go_wp2
        go_ret
        exact ⟨ret_bool (by rw [HE.out, HA.out]), hd⟩
    · have HA := Lib.hid (lessB_end l m k hk hk2 (by omega))
      go_wp2
      go_ret
      exact ⟨ret_bool (by rw [HE.out, HA.out]), hd⟩

end Go.Proofs.Ytjbloenjphpngaa

/-
  Contracts: equality (reference), the socle, trivial and classical braces, the annihilator.
-/
namespace Go.Proofs.Ytjbloenjphpngaa
set_option linter.unusedVariables false
set_option linter.unusedSimpArgs false
open Go.RowKit
attribute [local go_sem ↓] Go.wp_at_zero Go.wp_at_succ

theorem l01Same_any (l m : List Int) (v u : Value) (w : World) (hv : IntsR w v l) (hu : IntsR w u m) (hs : l.length ≤ 1048576) :
    Calls Try.prog 95 #[v, u] w fun e w' => e = .returned (.bool (eqIB l m)) ∧ Drawn w w' := by
  obtain ⟨a1, c1, rfl, h1⟩ := hv
  obtain ⟨a2, c2, rfl, h2⟩ := hu
  have H1 := Lib.hid h1
  have H2 := Lib.hid h2
  clear h1 h2
  by_cases hl : l.length = m.length
  case neg =>
    have hb : ((l.length : Int) != (m.length : Int)) = true := by simp; omega
    go_enter Try.func95, Try.ntmps95
    go_wp2
    go_ret
    exact ⟨ret_bool (eqIB_no (fun e => hl (by rw [e]))).symm, Drawn.refl _⟩
  case pos =>
    rw [← hl]
    have Hl := Lib.hid hl
    clear hl
    go_enter Try.func95, Try.ntmps95
    go_wp2
    go_loopw [5] (fun i wr => ∃ k : Nat, k ≤ l.length ∧ i = .int .i64 k ∧ SameTo l m k ∧ Drawn w wr) (fun i _ => l.length - (intOf i).toNat)
    case atStart => exact ⟨0, Nat.zero_le _, rfl, fun i hi => by omega, Drawn.refl _⟩
    case round =>
      obtain ⟨k, hk, rfl, hto, hx⟩ := hrel
      by_cases hlt : k < l.length
      · obtain ⟨b1, o1, rfl, hc1⟩ := H1.out (ne_nil_of_lt hlt)
        obtain ⟨b2, o2, rfl, hc2⟩ := H2.out (ne_nil_of_lt (k := k) (by have := Hl.out; omega))
        have e1 := hc1.ext hx.ext k hlt
        have e2 := hc2.ext hx.ext k (by have := Hl.out; omega)
        cases he : (ix l k != ix m k) with
        | true =>
          go_wp2
          go_quiet (fail)
          go_wp2
          go_ret
          exact ⟨ret_bool (eqIB_no (fun e => by rw [e] at he; simp at he)).symm, hx.drewN _⟩
        | false =>
          go_wp2
          go_quiet (fail)
          go_wp2
          go_roundw
          case rel => exact ⟨k + 1, by omega, by go_num, fun i hi => by
            by_cases e : i = k
            · rw [e]; simpa using he
            · exact hto i (by omega), hx.drewN _⟩
          case measure => simp [intOf]; omega
      · go_wp2
        go_ret
        exact ⟨ret_bool (eqIB_yes (ix_ext Hl.out (fun i hi => hto i (by omega)))).symm, hx⟩

set_option maxRecDepth 100000 in
theorem IsTrivialBrace_impl (t u : List (List Int)) (v y : Value) (w : World) (hv : Rows w v t) (hy : Rows w y u) :
    Calls Try.prog 21 #[.agg #[v, y]] w (RetBI (ifB t u (eqTB t u) false) (codeB t u) w) := by
  obtain ⟨hlen, b, o, c, rfl, hc⟩ := id hv
  obtain ⟨hlen2, b2, o2, c2, rfl, hc2⟩ := id hy
  have hX := ext_boxB w (.slice (some ⟨b, o, none⟩) t.length c) (.slice (some ⟨b2, o2, none⟩) u.length c2) 26
  have k0 := cell_new2a w (.slice (some ⟨b, o, none⟩) t.length c) (.slice (some ⟨b2, o2, none⟩) u.length c2) 26
  have k1 := cell_new2b w (.slice (some ⟨b, o, none⟩) t.length c) (.slice (some ⟨b2, o2, none⟩) u.length c2) 26
  cases hb : braceB t u with
  | false =>
    rw [ifB_no hb, codeB_no hb]
    clear hc hc2
    go_enter Try.func21, Try.ntmps21
    go_wp2_with fail
    refine (IsBrace_impl t u _ _ _ (hv.ext hX) (hy.ext hX)).mono ?_
    rintro e wn ⟨rfl, hx⟩
    replace hX := hX.trans hx
    replace k0 := hx.cell k0
    replace k1 := hx.cell k1
    clear hx
    rw [hb]
    go_wp2
    go_ret2
    exact ⟨rfl, hX⟩
  | true =>
    rw [ifB_yes hb, codeB_yes hb]
    obtain ⟨hG, hU, hL⟩ := braceB_ok hb
    have HL := Lib.hid hL
    have HG := Lib.hid hG
    have HU := Lib.hid hU
    have h12 := hG.1.2.1
    have HBR := Lib.hid hb
    clear hL hG hU
    go_enter Try.func21, Try.ntmps21
    go_wp2_with fail
    refine (IsBrace_impl t u _ _ _ (hv.ext hX) (hy.ext hX)).mono ?_
    rintro e wn ⟨rfl, hx⟩
    replace hX := hX.trans hx
    replace k0 := hx.cell k0
    replace k1 := hx.cell k1
    clear hx
    rw [hb]
    clear hb
    have hs1 := hv.small
    go_wp2_with fail
    refine (equalTables_any t u _ _ _ (hv.ext hX) (hy.ext hX)).mono ?_
    rintro e w3 ⟨rfl, rfl⟩
    go_wp2
    go_ret2
    exact ⟨rfl, hX⟩

set_option maxRecDepth 100000 in
theorem IsClassicalBrace_impl (t u : List (List Int)) (v y : Value) (w : World) (hv : Rows w v t) (hy : Rows w y u) :
    Calls Try.prog 25 #[.agg #[v, y]] w (RetBI (ifB t u (abelB t) false) (codeB t u) w) := by
  obtain ⟨hlen, b, o, c, rfl, hc⟩ := id hv
  obtain ⟨hlen2, b2, o2, c2, rfl, hc2⟩ := id hy
  have hX := ext_boxB w (.slice (some ⟨b, o, none⟩) t.length c) (.slice (some ⟨b2, o2, none⟩) u.length c2) 26
  have k0 := cell_new2a w (.slice (some ⟨b, o, none⟩) t.length c) (.slice (some ⟨b2, o2, none⟩) u.length c2) 26
  have k1 := cell_new2b w (.slice (some ⟨b, o, none⟩) t.length c) (.slice (some ⟨b2, o2, none⟩) u.length c2) 26
  cases hb : braceB t u with
  | false =>
    rw [ifB_no hb, codeB_no hb]
    clear hc hc2
    go_enter Try.func25, Try.ntmps25
    go_wp2_with fail
    refine (IsBrace_impl t u _ _ _ (hv.ext hX) (hy.ext hX)).mono ?_
    rintro e wn ⟨rfl, hx⟩
    replace hX := hX.trans hx
    replace k0 := hx.cell k0
    replace k1 := hx.cell k1
    clear hx
    rw [hb]
    go_wp2
    go_ret2
    exact ⟨rfl, hX⟩
  | true =>
    rw [ifB_yes hb, codeB_yes hb]
    obtain ⟨hG, hU, hL⟩ := braceB_ok hb
    have HL := Lib.hid hL
    have HG := Lib.hid hG
    have HU := Lib.hid hU
    have h12 := hG.1.2.1
    have HBR := Lib.hid hb
    clear hL hG hU
    go_enter Try.func25, Try.ntmps25
    go_wp2_with fail
    refine (IsBrace_impl t u _ _ _ (hv.ext hX) (hy.ext hX)).mono ?_
    rintro e wn ⟨rfl, hx⟩
    replace hX := hX.trans hx
    replace k0 := hx.cell k0
    replace k1 := hx.cell k1
    clear hx
    rw [hb]
    clear hb
    have hab := abelB_def t
    have hsl := hX.size
    obtain ⟨w1, rfl⟩ : ∃ z : World, z = wn := ⟨_, rfl⟩
    go_wp2
    go_region_with (first
      | (go_at_call 44; refine (transposed_any t _ _ (hv.ext hX.drew) HG.out.1).mono ?_; rintro e w2 ⟨rb, rc, rfl, ho, hx2⟩; have d2 := hx2.cell (show w1.drew.cell? _ = some _ from k0))
      | (go_at_call 47; refine (equalTables_any t (turnT t) _ _ _ (hv.ext (hX.drew.trans hx2)) ((ho.rowsAt (small_turnT (by omega))).rows (by rw [length_turnT]; omega) rc)).mono ?_; rintro e w3 ⟨rfl, rfl⟩; rw [hab]))
    all_goals
      go_wp2
      go_ret2
      exact ⟨rfl, hX.drew.trans hx2⟩

end Go.Proofs.Ytjbloenjphpngaa

/-
  Contracts: then, systems of permutations, searches: reference and program.
-/
namespace Go.Proofs.Ytjbloenjphpngaa
set_option linter.unusedVariables false
set_option linter.unusedSimpArgs false
open Go.RowKit
attribute [local go_sem ↓] Go.wp_at_zero Go.wp_at_succ
open Go.Deep

theorem take_ixL (l : List Int) (k : Nat) (h : k < l.length) : l.take (k + 1) = l.take k ++ [ix l k] := by
  rw [List.take_succ_eq_append_getElem h, ix_eq]; simp [List.getD, h]

set_option maxRecDepth 100000 in
set_option maxHeartbeats 1000000 in
theorem l01Then_any (n : Nat) (p q : List Int) (v u : Value) (w : World) (hv : Ints w v p) (hu : Ints w u q) (hp : IsoOk n [] [] p) (hq : q.length = n) (h12 : n ≤ 12) :
    Calls Try.prog 94 #[v, u] w (NewI (thenL p q) w) := by
  obtain ⟨-, b, o, c, rfl, hc⟩ := id hv
  obtain ⟨-, b2, o2, c2, rfl, hc2⟩ := id hu
  have HP := Lib.hid hp
  have HPL := Lib.hid hp.1
  have HQL := Lib.hid hq
  rw [hp.1, hq]
  clear hp hq hv hu
  have HLT := Lib.hid (show (thenL p q).length = n by rw [length_thenL, HPL.out])
  go_enter Try.func94, Try.ntmps94
  go_wp2_with fail
  have hx0 : Ext w (w.alloc (.cells #[] 2)) := (Ext.refl _).alloc _
  have hi0 := GrowI.lit (e := 2) (base := w.heap.size) (w := w) (Nat.le_refl _)
  go_loopw [5, 6] (fun v x wr => ∃ k : Nat, k ≤ n ∧ x = .int .i64 k ∧ GrowI 2 w.heap.size wr v ((thenL p q).take k) ∧ v ≠ .slice none 0 0 ∧ Ext w wr) (fun _ x _ => n - (intOf x).toNat)
  case atStart => exact ⟨0, Nat.zero_le _, rfl, hi0, by simp, hx0⟩
  case round =>
    clear hx0 hi0
    obtain ⟨k, hk, rfl, hg, hv, hx⟩ := hrel
    have HG := Lib.hid hg
    have HV := Lib.hid hv
    have HX := Lib.hid hx
    by_cases hlt : k < n
    · have hb := HP.out.bd hlt
      obtain ⟨z, hz⟩ : ∃ z : Nat, ix p k = (z : Int) := ⟨_, (Int.toNat_of_nonneg hb.1).symm⟩
      have hzn : z < n := by omega
      have e1 := (hc.ext hx) k (by rw [HPL.out]; exact hlt)
      rw [hz] at e1
      have e4 := (hc2.ext hx) z (by rw [HQL.out]; exact hzn)
      have HE := Lib.hid (show (thenL p q).take (k + 1) = (thenL p q).take k ++ [ix q z] by rw [take_ixL _ _ (by rw [HLT.out]; exact hlt), ix_thenL _ _ (by rw [HPL.out]; exact hlt), hz, Int.toNat_natCast])
      have HL := Lib.hid (show ((thenL p q).take k).length ≤ 1048576 by rw [List.length_take, HLT.out]; omega)
      have zx := hx.size
      clear hb hz hg hv hx
      go_wp2_with (at_builtin; refine wpList_append_int rfl _ _ 28 2 rfl Try.underlying28 infoInt w.heap.size _ _ rfl (HG.out.alloc _) _ _ rfl (cell_new _ _ _) HL.out (by simp; omega) ?_)
      intro v' w3 hi3 hgr hv3
      have HX3 := Lib.hid (Ext.grown (HX.out.trans (ext_box _ _ _)) hgr (HG.out.alloc _) (Nat.le_refl _))
      clear hgr
      go_wp2_with fail
      go_roundw
      case rel => exact ⟨k + 1, by omega, by go_num, by rw [HE.out]; exact hi3, hv3, HX3.out⟩
      case measure => simp [intOf]; omega
    · have hta : (thenL p q).take k = thenL p q := List.take_of_length_le (by rw [HLT.out]; omega)
      rw [hta] at hg
      obtain ⟨b3, c3, rfl, ho⟩ := hg.own hv
      clear hg hv hx HG
      go_wp2_with fail
      go_ret
      exact ⟨b3, c3, rfl, ho, HX.out⟩

set_option maxRecDepth 100000 in
set_option maxHeartbeats 1000000 in
theorem l01System_any (n : Int) (gens : List (List Int)) (v : Value) (w : World) (hv : Rows w v gens) :
    Calls Try.prog 80 #[.int .i64 n, v] w fun e w' => e = .returned (.bool (sysB n gens)) ∧ Ext w w' := by
  obtain ⟨hlen, b, o, c, rfl, hc⟩ := id hv
  cases hin : inR n 1 12 with
  | false =>
    have HN := Lib.hid (sysB_no1 (gens := gens) hin)
    go_enter Try.func80, Try.ntmps80
    go_wp2_with fail
    refine (l01In_any n 1 12 w).mono ?_
    rintro e w1 ⟨rfl, rfl⟩
    rw [hin]
    go_wp2_with fail
    go_ret
    exact ⟨by rw [HN.out]; rfl, Ext.refl _⟩
  | true =>
    have hb := inR_iff.1 hin
    by_cases hl : gens.length ≤ 16
    case neg =>
      have HN := Lib.hid (sysB_no2 (n := n) hl)
      have hl' : (16 : Int) < (gens.length : Int) := by omega
      go_enter Try.func80, Try.ntmps80
      go_wp2_with fail
      refine (l01In_any n 1 12 w).mono ?_
      rintro e w1 ⟨rfl, rfl⟩
      rw [hin]
      go_wp2_with fail
      go_ret
      exact ⟨by rw [HN.out]; rfl, Ext.refl _⟩
    case pos =>
      have hl' : ¬ (16 : Int) < (gens.length : Int) := by omega
      have HIN := Lib.hid hin
      go_enter Try.func80, Try.ntmps80
      go_wp2_with fail
      refine (l01In_any n 1 12 w).mono ?_
      rintro e w1 ⟨rfl, rfl⟩
      rw [hin]
      clear hin
      go_wp2_with fail
      go_loopw [5] (fun i wr => ∃ k : Nat, k ≤ gens.length ∧ i = .int .i64 k ∧ (∀ j, j < k → sysBad n (row gens j) = false) ∧ Ext w wr) (fun i _ => gens.length - (intOf i).toNat)
      case atStart => exact ⟨0, Nat.zero_le _, rfl, fun j hj => by omega, Ext.refl _⟩
      case round =>
        obtain ⟨k, hk, rfl, hno, hx⟩ := hrel
        have HNO := Lib.hid hno
        have HX := Lib.hid hx
        clear hno
        by_cases hkl : k < gens.length
        case neg =>
          have HY := Lib.hid (sysB_yes HIN.out hl (fun j hj => HNO.out j (by omega)))
          go_wp2_with fail
          go_ret
          exact ⟨by rw [HY.out]; rfl, HX.out⟩
        case pos =>
          obtain ⟨b1, o1, c1, r1, i1, l1⟩ := (hc.ext hx).get hkl
          have I1 := Lib.hid (i1.ints l1 c1)
          clear i1 hx
          cases hne : (((row gens k).length : Int) != n) with
          | true =>
            have hbad : sysBad n (row gens k) = true := by unfold sysBad; simp at hne; simp [hne]
            have HN := Lib.hid (sysB_no3 hkl hbad)
            clear hbad
            go_wp2_with fail
            go_ret
            exact ⟨by rw [HN.out]; rfl, HX.out⟩
          | false =>
            have hle : ((row gens k).length : Int) = n := by simpa using hne
            cases hpb : permB (row gens k) with
            | false =>
              have hbad : sysBad n (row gens k) = true := by unfold sysBad; simp [hpb]
              have HN := Lib.hid (sysB_no3 hkl hbad)
              clear hbad hle
              go_wp2_with fail
              refine (l01Perm_any (row gens k) _ _ I1.out (by simp at hne; omega) (by simp at hne; omega)).mono ?_
              rintro e w2 ⟨rfl, rfl⟩
              rw [hpb]
              go_wp2_with fail
              go_ret
              exact ⟨by rw [HN.out]; rfl, HX.out⟩
            | true =>
              have HG := Lib.hid (sysBad_no.2 ⟨hle, hpb⟩)
              clear hle
              go_wp2_with fail
              refine (l01Perm_any (row gens k) _ _ I1.out (by simp at hne; omega) (by simp at hne; omega)).mono ?_
              rintro e w2 ⟨rfl, rfl⟩
              rw [hpb]
              go_wp2_with fail
              go_roundw
              case rel => exact ⟨k + 1, by omega, by go_num, fun j hj => by
                by_cases e : j = k
                · subst e; exact HG.out
                · exact HNO.out j (by omega), HX.out⟩
              case measure => simp [intOf]; omega
end Go.Proofs.Ytjbloenjphpngaa

/-
  Contracts: systems of permutations of the program; searches.
-/
namespace Go.Proofs.Ytjbloenjphpngaa
set_option linter.unusedVariables false
set_option linter.unusedSimpArgs false
open Go.RowKit
attribute [local go_sem ↓] Go.wp_at_zero Go.wp_at_succ
open Go.Deep

set_option maxRecDepth 100000 in
theorem l04Find_any (S : List (List Int)) (p : List Int) (v u : Value) (w : World) (hv : Rows w v S) (hu : Ints w u p) :
    Calls Try.prog 97 #[v, u] w fun e w' => e = .returned (.int .i64 (findL S p)) ∧ Drawn w w' := by
  obtain ⟨hlen, b, o, c, rfl, hc⟩ := id hv
  obtain ⟨hlen2, b2, o2, c2, rfl, -⟩ := id hu
  have HU := Lib.hid hu
  have HF0 := Lib.hid (show findL S p = findFrom (fun r => eqIB r p) (S.drop 0) 0 by unfold findL findIx; rfl)
  clear hu hv
  go_enter Try.func97, Try.ntmps97
  go_wp2_with fail
  go_loopw [5] (fun i wr => ∃ k : Nat, k ≤ S.length ∧ i = .int .i64 k ∧ findL S p = findFrom (fun r => eqIB r p) (S.drop k) k ∧ Drawn w wr) (fun i _ => S.length - (intOf i).toNat)
  case atStart => exact ⟨0, Nat.zero_le _, rfl, HF0.out, Drawn.refl _⟩
  case round =>
    obtain ⟨k, hk, rfl, hr, hd⟩ := hrel
    have HR := Lib.hid hr
    have HD := Lib.hid hd
    clear hr hd
    by_cases hlt : k < S.length
    · obtain ⟨b1, o1, c1, r1, i1, l1⟩ := (hc.ext HD.out.ext).get hlt
      have I1 := Lib.hid (i1.ints l1 c1)
      clear i1
      cases hp : eqIB (row S k) p with
      | true =>
        have HH := Lib.hid (findFrom_hit (fun r => eqIB r p) S k hlt hp)
        go_wp2_with fail
        refine (l01Same_any (row S k) p _ _ _ I1.out.toR (HU.out.ext HD.out.ext).toR l1).mono ?_
        rintro e w1 ⟨rfl, hd1⟩
        rw [hp]
        have HD1 := Lib.hid (HD.out.trans hd1)
        clear hd1
        go_wp2_with fail
        go_ret
        exact ⟨ret_int (by rw [HR.out, HH.out]), HD1.out⟩
      | false =>
        have HH := Lib.hid (findFrom_miss (fun r => eqIB r p) S k hlt hp)
        go_wp2_with fail
        refine (l01Same_any (row S k) p _ _ _ I1.out.toR (HU.out.ext HD.out.ext).toR l1).mono ?_
        rintro e w1 ⟨rfl, hd1⟩
        rw [hp]
        have HD1 := Lib.hid (HD.out.trans hd1)
        clear hd1
        go_wp2_with fail
        go_roundw
        case rel => exact ⟨k + 1, by omega, by go_num, by rw [HR.out, HH.out], HD1.out⟩
        case measure => simp [intOf]; omega
    · have HH := Lib.hid (findFrom_end (fun r => eqIB r p) S k (by omega))
      go_wp2_with fail
      go_ret
      exact ⟨ret_int (by rw [HR.out, HH.out]), HD.out⟩

set_option maxRecDepth 100000 in
theorem l03Search_any (S : List (List Int)) (p : List Int) (v u : Value) (w : World) (hv : Rows w v S) (hu : Ints w u p) (hs : S.Pairwise (· < ·)) :
    Calls Try.prog 82 #[v, u] w fun e w' => (∃ k : Nat, e = .returned (.int .i64 k) ∧ k ≤ S.length ∧ (∀ i, i < k → row S i < p) ∧ ∀ i, k ≤ i → i < S.length → ¬ row S i < p) ∧ Drawn w w' := by
  obtain ⟨hlen, b, o, c, rfl, hc⟩ := id hv
  obtain ⟨hlen2, b2, o2, c2, rfl, -⟩ := id hu
  have HU := Lib.hid hu
  have HS := Lib.hid hs
  clear hu hv hs
  go_enter Try.func82, Try.ntmps82
  go_wp2_with fail
  go_loopw [5, 6] (fun x y wr => ∃ l h : Nat, l ≤ h ∧ h ≤ S.length ∧ x = .int .i64 l ∧ y = .int .i64 h ∧ (∀ i, i < l → row S i < p) ∧ (∀ i, h ≤ i → i < S.length → ¬ row S i < p) ∧ Drawn w wr) (fun x y _ => (intOf y).toNat - (intOf x).toNat)
  case atStart => exact ⟨0, S.length, Nat.zero_le _, Nat.le_refl _, rfl, rfl, fun i hi => by omega, fun i h1 h2 => by omega, Drawn.refl _⟩
  case round =>
    obtain ⟨l, h, hlh, hhs, rfl, rfl, h1, h2, hd⟩ := hrel
    have H1 := Lib.hid h1
    have H2 := Lib.hid h2
    have HD := Lib.hid hd
    clear h1 h2 hd
    by_cases hlt : l < h
    case neg =>
      have hll : l = h := by omega
      subst hll
      go_wp2_with fail
      go_ret
      exact ⟨⟨l, rfl, hhs, H1.out, H2.out⟩, HD.out⟩
    case pos =>
      have hm1 : l ≤ (l + h) / 2 := by omega
      have hm2 : (l + h) / 2 < h := by omega
      obtain ⟨m, hm⟩ : ∃ m, m = (l + h) / 2 := ⟨_, rfl⟩
      have hmi : ((l : Int) + (h : Int)).tdiv 2 = (m : Int) := by
        rw [hm, Int.tdiv_eq_ediv_of_nonneg (by omega)]; omega
      rw [← hm] at hm1 hm2
      clear hm
      obtain ⟨b1, o1, c1, r1, i1, l1⟩ := (hc.ext HD.out.ext).get (i := m) (by omega)
      have I1 := Lib.hid (i1.ints l1 c1)
      clear i1
      cases hp : lessB (row S m) p with
      | true =>
        have HH := Lib.hid (lessB_iff.1 hp)
        go_wp2_with fail
        refine (l01Less_any (row S m) p _ _ _ I1.out (HU.out.ext HD.out.ext)).mono ?_
        rintro e w1 ⟨rfl, hd1⟩
        rw [hp]
        have HD1 := Lib.hid (HD.out.trans hd1)
        clear hd1
        go_wp2_with fail
        go_roundw
        case rel => exact ⟨m + 1, h, by omega, hhs, by go_num, rfl, fun i hi => by
          by_cases e : i = m
          · subst e; exact HH.out
          · exact less_trans (sorted_row HS.out (by omega) (by omega)) HH.out, H2.out, HD1.out⟩
        case measure => simp [intOf]; omega
      | false =>
        have HH := Lib.hid (lessB_no.1 hp)
        go_wp2_with fail
        refine (l01Less_any (row S m) p _ _ _ I1.out (HU.out.ext HD.out.ext)).mono ?_
        rintro e w1 ⟨rfl, hd1⟩
        rw [hp]
        have HD1 := Lib.hid (HD.out.trans hd1)
        clear hd1
        go_wp2_with fail
        go_roundw
        case rel => exact ⟨l, m, by omega, by omega, rfl, rfl, H1.out, fun i hi hi2 => by
          by_cases e : i = m
          · subst e; exact HH.out
          · exact fun hlt => HH.out (less_trans (sorted_row HS.out (show m < i by omega) hi2) hlt), HD1.out⟩
        case measure => simp [intOf]; omega

end Go.Proofs.Ytjbloenjphpngaa

/-
  Contract of the reference's l03Before: which list of tables stands ahead.
-/
namespace Go.Proofs.Ytjbloenjphpngaa
set_option linter.unusedVariables false
set_option linter.unusedSimpArgs false
open Go.RowKit
attribute [local go_sem ↓] Go.wp_at_zero Go.wp_at_succ
open Go.Deep

set_option maxRecDepth 100000 in
set_option maxHeartbeats 2000000 in
theorem l03Before_any (az bz : List (List (List Int))) (v u : Value) (n : Nat) (w : World) (hv : Tabs w v az) (hu : Tabs w u bz) (hA : TabsOk n az) (hB : TabsOk n bz) (hab : az.length = bz.length) (h12 : n ≤ 12) (hts : az.length ≤ 2) :
    Calls Try.prog 104 #[v, u] w fun e w' => e = .returned (.bool (befG az bz az.length 0)) ∧ Drawn w w' := by
  obtain ⟨hla, b, o, c, rfl, hc⟩ := id hv
  obtain ⟨hlb, b2, o2, c2, rfl, hc2⟩ := id hu
  have HA := Lib.hid hA
  have HB := Lib.hid hB
  have HAB := Lib.hid hab
  rw [← hab]
  clear hA hB hab hv hu hlb
  go_enter Try.func104, Try.ntmps104
  go_wp2_with fail
  go_loopw [5] (fun x wr => ∃ k : Nat, k ≤ az.length ∧ x = .int .i64 k ∧ befG az bz az.length 0 = befG az bz (az.length - k) k ∧ Drawn w wr) (fun x _ => az.length - (intOf x).toNat)
  case atStart => exact ⟨0, Nat.zero_le _, rfl, rfl, Drawn.refl _⟩
  case round =>
    obtain ⟨k, hk, rfl, he, hd⟩ := hrel
    have HE := Lib.hid he
    have HD := Lib.hid hd
    clear he hd
    by_cases hkl : k < az.length
    case neg =>
      have hkk : k = az.length := by omega
      subst hkk
      go_wp2
      go_ret
      exact ⟨by rw [HE.out, Nat.sub_self, befG_zero]; rfl, HD.out⟩
    case pos =>
      obtain ⟨t1, t2, t3, q1, r1⟩ := (hc.ext HD.out.ext).get hkl
      obtain ⟨u1, u2, u3, q2, r2⟩ := (hc2.ext HD.out.ext).get (k := k) (by have := HAB.out; omega)
      have hla1 := (HA.out k hkl).2
      have hlb1 := (HB.out k (by have := HAB.out; omega)).2
      have hta := (HA.out k hkl).1
      have htb := (HB.out k (by have := HAB.out; omega)).1
      rw [hla1] at q1
      rw [hlb1] at q2
      have HE2 := Lib.hid (show befG az bz az.length 0 = befR az bz (az.length - (k + 1)) k 0 by rw [HE.out, show az.length - k = (az.length - (k + 1)) + 1 by omega, befG_row])
      have HTA := Lib.hid hta
      have HTB := Lib.hid htb
      have HLA := Lib.hid hla1
      have HLB := Lib.hid hlb1
      clear hta htb hla1 hlb1
      go_wp2_with fail
      go_loopw [6] (fun x wr2 => ∃ j : Nat, j ≤ n ∧ x = .int .i64 j ∧ befG az bz az.length 0 = befR az bz (az.length - (k + 1)) k j ∧ Drawn wr wr2) (fun x _ => n - (intOf x).toNat)
      case atStart => exact ⟨0, Nat.zero_le _, rfl, HE2.out, Drawn.refl _⟩
      case round =>
        obtain ⟨j, hj, rfl, he, hd⟩ := hrel
        have HE3 := Lib.hid he
        have HD2 := Lib.hid hd
        clear he hd
        have q1' := HD2.out.ext.cell q1
        have q2' := HD2.out.ext.cell q2
        by_cases hjn : j < n
        case neg =>
          have hjj : j = n := by omega
          subst hjj
          have HEE := Lib.hid (befR_end (az := az) (bz := bz) (d := az.length - (k + 1)) (k := k) (x := j) (by rw [HLA.out]; exact Nat.le_refl _) (by rw [HLB.out]; exact Nat.le_refl _))
          go_wp2_with fail
          go_roundw
          case rel => exact ⟨k + 1, by omega, by go_num, by rw [HE3.out, HEE.out], HD.out.trans HD2.out⟩
          case measure => simp [intOf]; omega
        case pos =>
          obtain ⟨d1, s1, m1, p1, i1, l1⟩ := (r1.ext HD2.out.ext).get (i := j) (by rw [HLA.out]; exact hjn)
          obtain ⟨d2, s2, m2, p2, i2, l2⟩ := (r2.ext HD2.out.ext).get (i := j) (by rw [HLB.out]; exact hjn)
          have I1 := Lib.hid (i1.ints l1 m1)
          have I2 := Lib.hid (i2.ints l2 m2)
          clear i1 i2
          cases hs : eqIB (row (tab az k) j) (row (tab bz k) j) with
          | true =>
            have HN := Lib.hid (befR_same (az := az) (bz := bz) (d := az.length - (k + 1)) (k := k) (x := j) (by rw [HLA.out]; exact hjn) (by rw [HLB.out]; exact hjn) hs)
            go_wp2_with fail
            go_quiet ((go_at_call 95; exact Calls.quiet_of ((l01Same_any (row (tab az k) j) (row (tab bz k) j) _ _ _ (I1.out.ext ((Ext.refl _).drewN _)).toR (I2.out.ext ((Ext.refl _).drewN _)).toR l1).mono fun _ _ ⟨h1, h2⟩ => ⟨by rw [hs] at h1; exact h1, h2⟩)))
            go_wp2_with fail
            go_roundw
            case rel => exact ⟨j + 1, by omega, by go_num, by rw [HE3.out, HN.out], HD2.out.trans ((Drawn.refl _).drewN _)⟩
            case measure => simp [intOf]; omega
          | false =>
            have HN := Lib.hid (befR_diff (az := az) (bz := bz) (d := az.length - (k + 1)) (k := k) (x := j) (by rw [HLA.out]; exact hjn) (by rw [HLB.out]; exact hjn) hs)
            go_wp2_with fail
            go_quiet ((go_at_call 95; exact Calls.quiet_of ((l01Same_any (row (tab az k) j) (row (tab bz k) j) _ _ _ (I1.out.ext ((Ext.refl _).drewN _)).toR (I2.out.ext ((Ext.refl _).drewN _)).toR l1).mono fun _ _ ⟨h1, h2⟩ => ⟨by rw [hs] at h1; exact h1, h2⟩)))
            go_wp2_with fail
            generalize hw7 : World.drewN _ _ = w7
            have hd7 : Drawn wr w7 := ⟨_, hw7.symm⟩
            have HD7 := Lib.hid hd7
            replace q1' := hd7.ext.cell q1'
            replace q2' := hd7.ext.cell q2'
            replace p1 := hd7.ext.cell p1
            replace p2 := hd7.ext.cell p2
            clear hw7 hd7 q1 q2
            go_quiet ((go_at_call 96; exact Calls.quiet_of ((l01Less_any (row (tab az k) j) (row (tab bz k) j) _ _ _ (I1.out.ext (HD7.out.ext.trans ((Ext.refl _).drewN _))) (I2.out.ext (HD7.out.ext.trans ((Ext.refl _).drewN _)))).mono fun _ _ ⟨h1, h2⟩ => ⟨h1, h2⟩)))
            go_wp2_with fail
            go_ret
            exact ⟨by rw [HE3.out, HN.out]; rfl, ((HD.out.trans HD2.out).trans HD7.out).trans ((Drawn.refl _).drewN _)⟩
end Go.Proofs.Ytjbloenjphpngaa
