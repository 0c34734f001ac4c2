/-
  Contract of NamedGroups: reference and program.
-/
import Derived.Test.YtbfhecckapgpnaaGreatProg
import Derived.Deep.DeepCutAuto
import Derived.Deep.RegionWith
import Derived.Maps.AppendAt
import Derived.Test.YtbfhecckapgpnaaGreatKx0
import Derived.Test.YtbfhecckapgpnaaGreatKx1
import Derived.Test.YtbfhecckapgpnaaGreatKx2
import Derived.Test.YtbfhecckapgpnaaGreatKx8
import Derived.Test.YtbfhecckapgpnaaGreatKx9
import Derived.Test.YtbfhecckapgpnaaGreatKx7
import Derived.Test.YtbfhecckapgpnaaGreatKx22
import Derived.Test.YtbfhecckapgpnaaGreatKx31
import Derived.Test.YtbfhecckapgpnaaGreatKx5
import Derived.Test.YtbfhecckapgpnaaGreatKx10
import Derived.Test.YtbfhecckapgpnaaGreatKx6
import Derived.Test.YtbfhecckapgpnaaGreatKx12
import Derived.Test.YtbfhecckapgpnaaGreatKx32
import Derived.Test.YtbfhecckapgpnaaGreatKx14
import Derived.Test.YtbfhecckapgpnaaGreatKx18
import Derived.Test.YtbfhecckapgpnaaGreatKx19
import Derived.Test.YtbfhecckapgpnaaGreatKx28
import Derived.Test.YtbfhecckapgpnaaGreatKx29
import Derived.Test.YtbfhecckapgpnaaGreatKx35
import Derived.Test.YtbfhecckapgpnaaGreatKx33
import Derived.Test.YtbfhecckapgpnaaGreatKx34
import Derived.Test.YtbfhecckapgpnaaGreatKx36
import Derived.Test.YtbfhecckapgpnaaGreatKx49
namespace Go.Proofs.YtbfhecckapgpnaaGreat
set_option linter.unusedVariables false
set_option linter.unusedSimpArgs false
open Go.RowKit
attribute [local go_sem ↓] Go.wp_at_zero Go.wp_at_succ
open Go.Deep

/-- what NamedGroups gives -/
noncomputable def namedV (a : Int) : List (List (List Int)) := if 1 ≤ a ∧ a ≤ 12 then namedL a.toNat else []
def namedC (a : Int) : Int := if 1 ≤ a ∧ a ≤ 12 then 0 else 2
theorem named_in {n : Nat} (h0 : 1 ≤ n) (h1 : n ≤ 12) : namedV n = namedL n ∧ namedC n = 0 := by
  unfold namedV namedC
  rw [if_pos ⟨by omega, by omega⟩, if_pos ⟨by omega, by omega⟩, Int.toNat_natCast]
  exact ⟨rfl, rfl⟩
theorem named_out {a : Int} (h : ¬ (1 ≤ a ∧ a ≤ 12)) : namedV a = [] ∧ namedC a = 2 := by
  unfold namedV namedC
  rw [if_neg h, if_neg h]
  exact ⟨rfl, rfl⟩
/-- a list of tables and a code (reference; program: in new memory) -/
def RetD (ts : List (List (List Int))) (c : Int) (w : World) (e : Ending) (w' : World) : Prop := ∃ v, e = .returned (.tuple #[v, .int .i64 c]) ∧ TabsR w' v ts ∧ Ext w w'
def NewDC (ts : List (List (List Int))) (c : Int) (w : World) (e : Ending) (w' : World) : Prop := ∃ v, e = .returned (.tuple #[v, .int .i64 c]) ∧ OwnDs w.heap.size w'.heap.size w' v ts ∧ Ext w w'
theorem TabsR.nil (w : World) : TabsR w (.slice none 0 0) [] := ⟨none, 0, rfl, fun h => absurd rfl h⟩
theorem namedL_len (n : Nat) : 1 ≤ (namedL n).length ∧ (namedL n).length ≤ 5 := by
  unfold namedL
  split <;> simp
theorem namedL_small {n : Nat} (h12 : n ≤ 12) (i : Nat) : Small (tab (namedL n) i) := by
  rw [tab_eq, List.getD_eq_getElem?_getD]
  have key : ∀ t ∈ namedL n, Small t := by
    unfold namedL
    split <;> intro t ht <;> simp at ht
    all_goals (try (rcases ht with rfl | rfl | rfl | rfl | rfl)) <;> (try (rcases ht with rfl | rfl)) <;> (try subst ht)
    all_goals first
      | exact small_cyT (by omega)
      | exact small_dbT (by omega)
      | exact small_even
      | exact small_prodT (by simp [length_prodT, length_cyT])
  cases h : (namedL n)[i]? with
  | none => exact small_nil
  | some t => exact key t (List.mem_of_getElem? h)
theorem namedV_small (a : Int) : SmallD (namedV a) := by
  by_cases h : 1 ≤ a ∧ a ≤ 12
  · obtain ⟨n, rfl⟩ := Int.eq_ofNat_of_zero_le (a := a) (by omega)
    rw [(named_in (n := n) (by omega) (by omega)).1]
    exact ⟨by have := namedL_len n; omega, namedL_small (by omega)⟩
  · rw [(named_out h).1]
    exact ⟨by simp, fun i => by rw [tab_eq]; simp; exact small_nil⟩

theorem namedGroups_any (n : Nat) (h1 : 1 ≤ n) (h12 : n ≤ 12) (w : World) : Calls Tryz.prog 50 #[.int .i64 n] w (NewDG (namedL n) w) := by
  have h : (n = 1 ∨ n = 2 ∨ n = 3 ∨ n = 5 ∨ n = 7 ∨ n = 11) ∨ n = 4 ∨ n = 6 ∨ n = 8 ∨ n = 9 ∨ n = 10 ∨ n = 12 := by omega
  rcases h with h | rfl | rfl | rfl | rfl | rfl | rfl
  · exact namedGroups_plain n w h
  · exact namedGroups_four w
  · exact namedGroups_six w
  · exact namedGroups_eight w
  · exact namedGroups_nine w
  · exact namedGroups_ten w
  · exact namedGroups_twelve w

theorem NamedGroups_impl (a : Int) (w : World) : Calls Tryz.prog 21 #[.int .i64 a] w (NewDC (namedV a) (namedC a) w) := by
  cases hin : inR a 1 12 with
  | false =>
    obtain ⟨eT, eC⟩ := named_out (inR_false.1 hin)
    rw [eT, eC]
    go_enter Tryz.func21, Tryz.ntmps21
    go_wp2_with (go_at_call 55; refine (within_any _ _ _ _).mono ?_; rintro e w' ⟨rfl, rfl⟩)
    exact bodyPost_ret (v := .tuple #[.slice none 0 0, .int .i64 2]) (by simp [results, Tryz.results21, go_sem]) rfl ⟨_, rfl, OwnDs.nil _ _ _, Ext.refl _⟩
  | true =>
    have hb := inR_iff.1 hin
    obtain ⟨n, rfl⟩ := Int.eq_ofNat_of_zero_le (a := a) (by omega)
    obtain ⟨eT, eC⟩ := named_in (n := n) (by omega) (by omega)
    rw [eT, eC]
    have HC := Lib.hid (fun w => namedGroups_any n (by omega) (by omega) w)
    go_enter Tryz.func21, Tryz.ntmps21
    go_wp2_with (go_at_call 55; refine (within_any _ _ _ _).mono ?_; rintro e w' ⟨rfl, rfl⟩)
    refine (HC.out _).mono ?_
    rintro e w1 ⟨v, rfl, hg, hx⟩
    have HG := Lib.hid hg.ds
    have HX := Lib.hid hx
    clear hg hx
    go_wp2
    exact bodyPost_ret (v := .tuple #[v, .int .i64 0]) (by simp [results, Tryz.results21, go_sem]) rfl ⟨_, rfl, HG.out, HX.out⟩

set_option maxRecDepth 100000 in
set_option maxHeartbeats 1000000 in
theorem NamedGroups_spec (a : Int) (w : World) : Calls Tryz.prog 25 #[.int .i64 a] w (RetD (namedV a) (namedC a) w) := by
  cases hin : inR a 1 12 with
  | false =>
    obtain ⟨eT, eC⟩ := named_out (inR_false.1 hin)
    rw [eT, eC]
    go_enter Tryz.func25, Tryz.ntmps25
    go_wp2_with (go_at_call 43; refine (l01In_any _ _ _ _).mono ?_; rintro e w' ⟨rfl, rfl⟩)
    exact bodyPost_ret (v := .tuple #[.slice none 0 0, .int .i64 2]) (by simp [results, Tryz.results25, go_sem]) rfl ⟨_, rfl, TabsR.nil _, Ext.refl _⟩
  | true =>
    have hb := inR_iff.1 hin
    obtain ⟨n, rfl⟩ := Int.eq_ofNat_of_zero_le (a := a) (by omega)
    obtain ⟨eT, eC⟩ := named_in (n := n) (by omega) (by omega)
    rw [eT, eC]
    have HC := Lib.hid (fun w => l10Named_any n (by omega) (by omega) w)
    have hlen := namedL_len n
    obtain ⟨ts, hts⟩ : ∃ ts, ts = namedL n := ⟨_, rfl⟩
    rw [← hts] at HC hlen ⊢
    clear hts eT eC
    go_enter Tryz.func25, Tryz.ntmps25
    go_wp2_with (go_at_call 43; refine (l01In_any _ _ _ _).mono ?_; rintro e w' ⟨rfl, rfl⟩)
    refine (HC.out _).mono ?_
    rintro e w1 ⟨v, rfl, hg, hx⟩
    obtain ⟨g, c, rfl⟩ := hg.slice (by omega)
    have HG := Lib.hid hg
    have HX := Lib.hid hx
    clear hg hx HC
    go_wp2_with fail
    have hl0 := GrowR2.lit (e := 26) (w := w1)
    have hxl : Ext w1 (w1.alloc (.cells #[] 26)) := (Ext.refl _).alloc _
    go_loopw [5, 6] (fun v i wr => ∃ m : Nat, m ≤ ts.length ∧ i = .int .i64 m ∧ GrowR2 26 w1 wr v (ts.take m) ∧ Ext w1 wr) (fun _ i _ => ts.length - (intOf i).toNat)
    case atStart => exact ⟨0, Nat.zero_le _, rfl, hl0, hxl⟩
    case round =>
      clear hl0 hxl
      obtain ⟨m, hm, rfl, hg, hx⟩ := hrel
      have HGR := Lib.hid hg
      have HX2 := Lib.hid hx
      clear hg hx
      by_cases hlt : m < ts.length
      · obtain ⟨b, d, p, e1, k1⟩ := HG.out.cell hlt
        have hr1 := Lib.hid k1.rows
        have e2 := HX2.out.cell e1
        have HT := Lib.hid (show ts.take m ++ [tab ts m] = ts.take (m + 1) by
          rw [List.take_add_one, tab_eq, List.getD_eq_getElem?_getD, List.getElem?_eq_getElem hlt]; rfl)
        have HL := Lib.hid (show (ts.take m).length ≤ 1048575 by rw [List.length_take]; omega)
        clear e1 k1
        go_wp2_with (at_builtin; refine wpList_append_rd rfl _ _ 43 26 rfl Tryz.underlying43 infoGr rfl _ _ rfl HGR.out HX2.out ((Ext.refl _).alloc _) _ _ (tab ts m) rfl (cell_new _ _ _) hr1.out HL.out ?_)
        intro v' w' hg' hx'
        rw [HT.out] at hg'
        have HGR2 := Lib.hid hg'
        have HX3 := Lib.hid hx'
        clear hg' hx'
        go_wp2
        go_roundw
        case rel => exact ⟨m + 1, by omega, by go_num, HGR2.out, HX3.out⟩
        case measure => simp [intOf]; omega
      · have hmm : m = ts.length := by omega
        subst hmm
        have HT := Lib.hid (show ts.take ts.length = ts from List.take_length)
        go_wp2
        exact bodyPost_ret (v := .tuple #[u5, .int .i64 0]) (by simp [results, Tryz.results25, go_sem]) rfl ⟨_, rfl, by have := HGR.out.tabsR HX2.out; rwa [HT.out] at this, HX.out.trans HX2.out⟩
end Go.Proofs.YtbfhecckapgpnaaGreat
