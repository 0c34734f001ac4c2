/-
  Contracts of l10Isomorphism, l10Automorphisms, l11Maps.
-/
import Derived.Test.YtbfhecckapgpnaaGreatProg
import Derived.Deep.DeepCutAuto
import Derived.Deep.RegionWith
import Derived.Deep.RegionHeld3
import Derived.Deep.DrawnRows
import Derived.Great.BuildSlice
import Derived.Test.YtbfhecckapgpnaaGreatKx0
import Derived.Test.YtbfhecckapgpnaaGreatKx1
import Derived.Test.YtbfhecckapgpnaaGreatKx2
import Derived.Test.YtbfhecckapgpnaaGreatKx8
import Derived.Test.YtbfhecckapgpnaaGreatKx9
import Derived.Test.YtbfhecckapgpnaaGreatKx7
import Derived.Test.YtbfhecckapgpnaaGreatKx5
import Derived.Test.YtbfhecckapgpnaaGreatKx10
import Derived.Test.YtbfhecckapgpnaaGreatKx6
import Derived.Test.YtbfhecckapgpnaaGreatKx12
import Derived.Test.YtbfhecckapgpnaaGreatKx14
import Derived.Test.YtbfhecckapgpnaaGreatKx16
import Derived.Test.YtbfhecckapgpnaaGreatKx17
import Derived.Test.YtbfhecckapgpnaaGreatKx18
import Derived.Test.YtbfhecckapgpnaaGreatKx19
import Derived.Test.YtbfhecckapgpnaaGreatKx48
namespace Go.Proofs.YtbfhecckapgpnaaGreat
set_option linter.unusedVariables false
set_option linter.unusedSimpArgs false
open Go.RowKit
attribute [local go_sem ↓] Go.wp_at_zero Go.wp_at_succ

theorem tabs_lit1 {w : World} {B : Nat} {x : Value} {t : List (List Int)} (hc : w.cell? ⟨B, 0, none⟩ = some x) (hv : Rows w x t) : Tabs w (.slice (some ⟨B, 0, none⟩) 1 1) [t] :=
  ⟨by simp, B, 0, 1, rfl, fun k hk => by
    have : k = 0 := by simpa using hk
    subst this
    exact ⟨x, hc, by rw [tab_one]; exact hv⟩⟩
theorem tabs_lit2 {w : World} {B : Nat} {x y : Value} {t u : List (List Int)} (hc : w.cell? ⟨B, 0, none⟩ = some x) (hd : w.cell? ⟨B, 1, none⟩ = some y) (hv : Rows w x t) (hu : Rows w y u) : Tabs w (.slice (some ⟨B, 0, none⟩) 2 2) [t, u] :=
  ⟨by simp, B, 0, 2, rfl, fun k hk => by
    have : k = 0 ∨ k = 1 := by have := hk; simp at this; omega
    rcases this with rfl | rfl
    · exact ⟨x, hc, by rw [tab_two0]; exact hv⟩
    · exact ⟨y, hd, by rw [tab_two1]; exact hu⟩⟩
theorem ints_lit0 {w : World} {B : Nat} (hc : w.cell? ⟨B, 0, none⟩ = some (.int .i64 0)) : Ints w (.slice (some ⟨B, 0, none⟩) 1 1) [0] :=
  ⟨by simp, B, 0, 1, rfl, fun k hk => by
    have : k = 0 := by simpa using hk
    subst this
    rw [ix_eq]; exact hc⟩
theorem infoTT : (Tryz.prog.info? 24).map (fun i => (i.zero, i.size, i.bytes)) = some (some (.slice none 0 0), 1, 24) := by kernel_rfl
theorem build_two (w : World) (p q : Option Addr) (n c m d : Nat) : (Instr.buildSlice 74 2 #[(0, .slice p n c), (1, .slice q m d)]).run Tryz.prog w = .ok (.slice (some ⟨w.heap.size, 0, none⟩) 2 2) (w.alloc (.cells #[.slice p n c, .slice q m d] 24)) := by
  obtain ⟨i0, hi, hz0, hz1, hz2⟩ := info_parts infoTT
  refine run_buildSlice w 74 24 2 _ #[.slice p n c, .slice q m d] i0 (.slice none 0 0) Tryz.underlying74 hi hz0 (by rw [hz1]; omega) (by rw [hz1]; omega) ?_
  rw [hz1]
  exact Great.fill_flat [.slice p n c, .slice q m d] _ (fun v hv => by simp at hv; rcases hv with rfl | rfl <;> rfl) (by simp)
theorem wp_two {o : Oper} {a : Act} {w : World} {K : Act → World → Prop} {Q : Exit → Act → World → Prop} (v1 v2 : Operand) (ho : o.op = .buildSlice 74 2 #[(0, v1), (1, v2)]) (p q : Option Addr) (n c m d : Nat) (h1 : a.eval v1 = .slice p n c) (h2 : a.eval v2 = .slice q m d)
    (h : K (a.put o.dst (.slice (some ⟨w.heap.size, 0, none⟩) 2 2)) (w.alloc (.cells #[.slice p n c, .slice q m d] 24))) : o.wp Tryz.prog a w K Q := by
  obtain ⟨i0, hi, hz0, hz1, hz2⟩ := info_parts infoTT
  refine wp_buildSlice 74 24 2 _ ho #[.slice p n c, .slice q m d] i0 (.slice none 0 0) Tryz.underlying74 hi hz0 (by rw [hz1]; omega) (by rw [hz1]; omega) ?_ h
  rw [hz1]
  simp only [List.map_toArray, List.map_cons, List.map_nil, h1, h2]
  exact Great.fill_flat [.slice p n c, .slice q m d] _ (fun v hv => by simp at hv; rcases hv with rfl | rfl <;> rfl) (by simp)
theorem grp_tabs {t : List (List Int)} (h : GroupOk t) : TabsOk t.length [t] := TabsOk.one h.1
theorem brace_tabs {t u : List (List Int)} (h : GroupOk t) (h2 : GroupOk u) (hl : t.length = u.length) : TabsOk t.length [t, u] := TabsOk.two h.1 h2.1 hl.symm
theorem extL_grp {n : Nat} {t u : List (List Int)} {a b : List (List (List Int))} (h : GroupOk t) (h2 : GroupOk u) (hl : t.length = n) (hl2 : u.length = n) : extL n (t :: a) (u :: b) [0] = isoL n (t :: a) (u :: b) :=
  extL_zero (by simp) (by rw [tab_eq]; exact h) (by rw [tab_eq]; exact h2) (by rw [tab_eq]; exact hl) (by rw [tab_eq]; exact hl2)
theorem take_grp {n : Nat} {t u : List (List Int)} {a b : List (List (List Int))} (h : GroupOk t) (h2 : GroupOk u) (hl : t.length = n) (hl2 : u.length = n) (h12 : n ≤ 12) : (extL n (t :: a) (u :: b) [0]).take 1000000 = isoL n (t :: a) (u :: b) :=
  take_iso (by simp) (by rw [tab_eq]; exact h) (by rw [tab_eq]; exact h2) (by rw [tab_eq]; exact hl) (by rw [tab_eq]; exact hl2) h12

set_option maxRecDepth 100000 in
set_option maxHeartbeats 2000000 in
theorem l10Isomorphism_any (t u : List (List Int)) (v y : Value) (w : World) (hv : Rows w v t) (hy : Rows w y u) (hG : GroupOk t) (hU : GroupOk u) :
    Calls Tryz.prog 54 #[v, y] w fun e w' => ∃ v', e = .returned v' ∧ IntsR w' v' (isoF [t] [u]) ∧ Ext w w' := by
  obtain ⟨hlen, b, o, c, rfl, hc⟩ := id hv
  obtain ⟨hlen2, b2, o2, c2, rfl, hc2⟩ := id hy
  clear hc hc2
  go_enter Tryz.func54, Tryz.ntmps54
  by_cases hl : t.length = u.length
  · have HTA := Lib.hid (grp_tabs hG)
    have HTB := Lib.hid (show TabsOk t.length [u] by rw [hl]; exact grp_tabs hU)
    have HN1 := Lib.hid hG.1.1
    have HN12 := Lib.hid hG.1.2.1
    have HG := Lib.hid hG
    have HU := Lib.hid hU
    have HL := Lib.hid hl
    have hl' : (t.length : Int) = (u.length : Int) := by omega
    clear hG hU hl
    have hX : Ext w (((w.alloc (.cells #[.slice (some ⟨b, o, none⟩) t.length c] 24)).alloc (.cells #[.slice (some ⟨b2, o2, none⟩) u.length c2] 24)).alloc (.cells #[.int .i64 0] 2)) := (((Ext.refl w).alloc _).alloc _).alloc _
    go_wp2_with fail
    refine (l03Maps_any [t] [u] _ _ _ t.length 1 _ (tabs_lit1 (by simp [go_sem]; done) (hv.ext hX)) (tabs_lit1 (by simp [go_sem]; done) (hy.ext hX)) (ints_lit0 (by simp [go_sem]; done)) HTA.out HTB.out (by simp) (by simp) HN1.out HN12.out (by simp) (by omega) (by omega)).mono ?_
    rintro e wn ⟨v', rfl, hg, hx⟩
    replace hX := hX.trans hx
    clear hx
    rw [extL_grp HG.out HU.out rfl HL.out.symm] at hg
    cases hi : isoL t.length [t] [u] with
    | nil =>
      have HQ := Lib.hid (show isoF [t] [u] = [] from isoF_nil (n := t.length) (by rw [tab_one]) hi)
      rw [hi] at hg
      obtain ⟨a1, c1, rfl⟩ := hg.slice
      clear hg
      go_wp2
      go_ret
      exact ⟨_, rfl, by rw [HQ.out]; exact IntsR.nil _ _, hX⟩
    | cons p r =>
      have HQ := Lib.hid (show isoF [t] [u] = p from isoF_cons (n := t.length) (by rw [tab_one]) (by rw [tab_one]; exact HL.out.symm) hi)
      rw [hi] at hg
      have hne := isoF_ne HN1.out hi
      obtain ⟨a1, c1, rfl, hcc⟩ := hg.toR
      obtain ⟨b3, o3, rfl, hc4⟩ := hcc (by simp)
      obtain ⟨x, k0, hix⟩ := hc4 0 (by simp)
      clear hg hcc hc4
      simp only [Nat.add_zero] at k0
      go_wp2
      go_ret
      exact ⟨_, rfl, by rw [HQ.out]; simpa [row_eq] using hix, hX⟩
  · have hl' : ¬ (t.length : Int) = (u.length : Int) := by omega
    rw [isoF_len (by rw [tab_one, tab_one]; exact hl)]
    go_wp2
    go_ret
    exact ⟨_, rfl, IntsR.nil _ _, Ext.refl _⟩

end Go.Proofs.YtbfhecckapgpnaaGreat
