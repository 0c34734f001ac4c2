/-
  Contracts of l10Isomorphism, l10Automorphisms, l11Maps.
-/
import Derived.Test.YtjbloenjphpngaaProg
import Derived.Deep.DeepCutAuto
import Derived.Deep.RegionWith
import Derived.Deep.RegionHeld3
import Derived.Deep.DrawnRows
import Derived.Great.BuildSlice
import Derived.Test.YtjbloenjphpngaaJx0
import Derived.Test.YtjbloenjphpngaaJx1
import Derived.Test.YtjbloenjphpngaaJx5
import Derived.Test.YtjbloenjphpngaaJx8
import Derived.Test.YtjbloenjphpngaaJx9
import Derived.Test.YtjbloenjphpngaaJx2
import Derived.Test.YtjbloenjphpngaaJx14
import Derived.Test.YtjbloenjphpngaaJx10
import Derived.Test.YtjbloenjphpngaaJx6
import Derived.Test.YtjbloenjphpngaaJx3
import Derived.Test.YtjbloenjphpngaaJx4
import Derived.Test.YtjbloenjphpngaaJx12
import Derived.Test.YtjbloenjphpngaaJx16
import Derived.Test.YtjbloenjphpngaaJx21
import Derived.Test.YtjbloenjphpngaaJx22
import Derived.Test.YtjbloenjphpngaaJx23
import Derived.Test.YtjbloenjphpngaaJx24
import Derived.Test.YtjbloenjphpngaaJx37
namespace Go.Proofs.Ytjbloenjphpngaa
set_option linter.unusedVariables false
set_option linter.unusedSimpArgs false
open Go.RowKit
attribute [local go_sem ↓] Go.wp_at_zero Go.wp_at_succ

theorem tabs_lit1 {w : World} {B : Nat} {x : Value} {t : List (List Int)} (hc : w.cell? ⟨B, 0, none⟩ = some x) (hv : Rows w x t) : Tabs w (.slice (some ⟨B, 0, none⟩) 1 1) [t] :=
  ⟨by simp, B, 0, 1, rfl, fun k hk => by
    have : k = 0 := by simpa using hk
    subst this
    exact ⟨x, hc, by rw [tab_one]; exact hv⟩⟩
theorem tabs_lit2 {w : World} {B : Nat} {x y : Value} {t u : List (List Int)} (hc : w.cell? ⟨B, 0, none⟩ = some x) (hd : w.cell? ⟨B, 1, none⟩ = some y) (hv : Rows w x t) (hu : Rows w y u) : Tabs w (.slice (some ⟨B, 0, none⟩) 2 2) [t, u] :=
  ⟨by simp, B, 0, 2, rfl, fun k hk => by
    have : k = 0 ∨ k = 1 := by have := hk; simp at this; omega
    rcases this with rfl | rfl
    · exact ⟨x, hc, by rw [tab_two0]; exact hv⟩
    · exact ⟨y, hd, by rw [tab_two1]; exact hu⟩⟩
theorem ints_lit0 {w : World} {B : Nat} (hc : w.cell? ⟨B, 0, none⟩ = some (.int .i64 0)) : Ints w (.slice (some ⟨B, 0, none⟩) 1 1) [0] :=
  ⟨by simp, B, 0, 1, rfl, fun k hk => by
    have : k = 0 := by simpa using hk
    subst this
    rw [ix_eq]; exact hc⟩
theorem infoTT : (Try.prog.info? 24).map (fun i => (i.zero, i.size, i.bytes)) = some (some (.slice none 0 0), 1, 24) := by kernel_rfl
theorem build_two (w : World) (p q : Option Addr) (n c m d : Nat) : (Instr.buildSlice 53 2 #[(0, .slice p n c), (1, .slice q m d)]).run Try.prog w = .ok (.slice (some ⟨w.heap.size, 0, none⟩) 2 2) (w.alloc (.cells #[.slice p n c, .slice q m d] 24)) := by
  obtain ⟨i0, hi, hz0, hz1, hz2⟩ := info_parts infoTT
  refine run_buildSlice w 53 24 2 _ #[.slice p n c, .slice q m d] i0 (.slice none 0 0) Try.underlying53 hi hz0 (by rw [hz1]; omega) (by rw [hz1]; omega) ?_
  rw [hz1]
  exact Great.fill_flat [.slice p n c, .slice q m d] _ (fun v hv => by simp at hv; rcases hv with rfl | rfl <;> rfl) (by simp)
theorem wp_two {o : Oper} {a : Act} {w : World} {K : Act → World → Prop} {Q : Exit → Act → World → Prop} (v1 v2 : Operand) (ho : o.op = .buildSlice 53 2 #[(0, v1), (1, v2)]) (p q : Option Addr) (n c m d : Nat) (h1 : a.eval v1 = .slice p n c) (h2 : a.eval v2 = .slice q m d)
    (h : K (a.put o.dst (.slice (some ⟨w.heap.size, 0, none⟩) 2 2)) (w.alloc (.cells #[.slice p n c, .slice q m d] 24))) : o.wp Try.prog a w K Q := by
  obtain ⟨i0, hi, hz0, hz1, hz2⟩ := info_parts infoTT
  refine wp_buildSlice 53 24 2 _ ho #[.slice p n c, .slice q m d] i0 (.slice none 0 0) Try.underlying53 hi hz0 (by rw [hz1]; omega) (by rw [hz1]; omega) ?_ h
  rw [hz1]
  simp only [List.map_toArray, List.map_cons, List.map_nil, h1, h2]
  exact Great.fill_flat [.slice p n c, .slice q m d] _ (fun v hv => by simp at hv; rcases hv with rfl | rfl <;> rfl) (by simp)
theorem grp_tabs {t : List (List Int)} (h : GroupOk t) : TabsOk t.length [t] := TabsOk.one h.1
theorem brace_tabs {t u : List (List Int)} (h : GroupOk t) (h2 : GroupOk u) (hl : t.length = u.length) : TabsOk t.length [t, u] := TabsOk.two h.1 h2.1 hl.symm
theorem extL_grp {n : Nat} {t u : List (List Int)} {a b : List (List (List Int))} (h : GroupOk t) (h2 : GroupOk u) (hl : t.length = n) (hl2 : u.length = n) : extL n (t :: a) (u :: b) [0] = isoL n (t :: a) (u :: b) :=
  extL_zero (by simp) (by rw [tab_eq]; exact h) (by rw [tab_eq]; exact h2) (by rw [tab_eq]; exact hl) (by rw [tab_eq]; exact hl2)
theorem take_grp {n : Nat} {t u : List (List Int)} {a b : List (List (List Int))} (h : GroupOk t) (h2 : GroupOk u) (hl : t.length = n) (hl2 : u.length = n) (h12 : n ≤ 12) : (extL n (t :: a) (u :: b) [0]).take 1000000 = isoL n (t :: a) (u :: b) :=
  take_iso (by simp) (by rw [tab_eq]; exact h) (by rw [tab_eq]; exact h2) (by rw [tab_eq]; exact hl) (by rw [tab_eq]; exact hl2) h12

set_option maxRecDepth 100000 in
set_option maxHeartbeats 2000000 in
theorem l10Automorphisms_any (t : List (List Int)) (v : Value) (w : World) (hv : Rows w v t) (hG : GroupOk t) :
    Calls Try.prog 93 #[v] w fun e w' => ∃ v', e = .returned v' ∧ RowsR w' v' (isoL t.length [t] [t]) ∧ Ext w w' := by
  obtain ⟨hlen, b, o, c, rfl, hc⟩ := id hv
  clear hc
  have HTA := Lib.hid (grp_tabs hG)
  have HN1 := Lib.hid hG.1.1
  have HN12 := Lib.hid hG.1.2.1
  have HG := Lib.hid hG
  clear hG
  have hX : Ext w (((w.alloc (.cells #[.slice (some ⟨b, o, none⟩) t.length c] 24)).alloc (.cells #[.slice (some ⟨b, o, none⟩) t.length c] 24)).alloc (.cells #[.int .i64 0] 2)) := (((Ext.refl w).alloc _).alloc _).alloc _
  go_enter Try.func93, Try.ntmps93
  go_wp2_with fail
  refine (l03Maps_any [t] [t] _ _ _ t.length 1000000 _ (tabs_lit1 (by simp [go_sem]; done) (hv.ext hX)) (tabs_lit1 (by simp [go_sem]; done) (hv.ext hX)) (ints_lit0 (by simp [go_sem]; done)) HTA.out HTA.out rfl (by simp) HN1.out HN12.out (by simp) (by omega) (by omega)).mono ?_
  rintro e wn ⟨v', rfl, hg, hx⟩
  replace hX := hX.trans hx
  clear hx
  rw [take_grp HG.out HG.out rfl rfl HN12.out] at hg
  have hr := Lib.hid hg.toR
  clear hg
  go_wp2
  go_ret
  exact ⟨_, rfl, hr.out, hX⟩

end Go.Proofs.Ytjbloenjphpngaa
