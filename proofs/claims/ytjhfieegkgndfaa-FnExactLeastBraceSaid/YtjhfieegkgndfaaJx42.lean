/-
  Contract of the program's LeastBrace.
-/
import Derived.Test.YtjhfieegkgndfaaProg
import Derived.Deep.DeepCutAuto
import Derived.Deep.RegionWith
import Derived.Deep.RegionHeld3
import Derived.Deep.DrawnRows
import Derived.Test.YtjhfieegkgndfaaJx0
import Derived.Test.YtjhfieegkgndfaaJx1
import Derived.Test.YtjhfieegkgndfaaJx3
import Derived.Test.YtjhfieegkgndfaaJx8
import Derived.Test.YtjhfieegkgndfaaJx2
import Derived.Test.YtjhfieegkgndfaaJx4
import Derived.Test.YtjhfieegkgndfaaJx5
import Derived.Test.YtjhfieegkgndfaaJx15
import Derived.Test.YtjhfieegkgndfaaJx23
import Derived.Test.YtjhfieegkgndfaaJx6
import Derived.Test.YtjhfieegkgndfaaJx11
import Derived.Test.YtjhfieegkgndfaaJx9
import Derived.Test.YtjhfieegkgndfaaJx7
import Derived.Test.YtjhfieegkgndfaaJx12
import Derived.Test.YtjhfieegkgndfaaJx24
import Derived.Test.YtjhfieegkgndfaaJx22
import Derived.Test.YtjhfieegkgndfaaJx26
import Derived.Test.YtjhfieegkgndfaaJx27
import Derived.Test.YtjhfieegkgndfaaJx28
import Derived.Test.YtjhfieegkgndfaaJx29
import Derived.Test.YtjhfieegkgndfaaJx40
import Derived.Test.YtjhfieegkgndfaaJx34
import Derived.Test.YtjhfieegkgndfaaJx41
namespace Go.Proofs.Ytjhfieegkgndfaa
set_option linter.unusedVariables false
set_option linter.unusedSimpArgs false
open Go.RowKit
attribute [local go_sem ↓] Go.wp_at_zero Go.wp_at_succ

theorem OwnB.set2 {lo hi lo' : Nat} {w : World} {v y : Value} {t u : List (List Int)} (h : OwnB lo hi w v y t u) {B : Nat} (hB : B < lo) (hl : lo' ≤ lo) (p q : Value) : OwnB lo' ((w.setCell ⟨B, 0, none⟩ p).setCell ⟨B, 1, none⟩ q).heap.size ((w.setCell ⟨B, 0, none⟩ p).setCell ⟨B, 1, none⟩ q) v y t u ∨ ¬ hi ≤ w.heap.size := by
  obtain ⟨a, b, c, d, h1, h2, h3, h4, h5, h6, h7⟩ := h
  by_cases hh : hi ≤ w.heap.size
  · exact .inl ⟨a, b, c, d, by omega, by simp; omega, by omega, by simp; omega, h5, h6.set2 (by omega) _ _, h7.set2 (by omega) _ _⟩
  · exact .inr hh

set_option maxRecDepth 100000 in
set_option maxHeartbeats 2000000 in
theorem LeastBrace_impl (t u : List (List Int)) (v y : Value) (w : World) (hv : Rows w v t) (hy : Rows w y u) :
    Calls Try.prog 16 #[.agg #[v, y]] w (NewBC (lbA t u) (lbB t u) (lbC t u) w) := by
  obtain ⟨hlen, b, o, c, rfl, -⟩ := id hv
  obtain ⟨hlen2, b2, o2, c2, rfl, -⟩ := id hy
  have hX : Ext w ((w.alloc (.cells #[.slice (some ⟨b, o, none⟩) t.length c, .slice (some ⟨b2, o2, none⟩) u.length c2] 24)).alloc (.cells #[.slice none 0 0, .slice none 0 0] 24)) := ((Ext.refl _).alloc _).alloc _
  have k0 : ((w.alloc (.cells #[.slice (some ⟨b, o, none⟩) t.length c, .slice (some ⟨b2, o2, none⟩) u.length c2] 24)).alloc (.cells #[.slice none 0 0, .slice none 0 0] 24)).cell? ⟨w.heap.size, 0, none⟩ = some (.slice (some ⟨b, o, none⟩) t.length c) := by simp [go_sem]
  have k1 : ((w.alloc (.cells #[.slice (some ⟨b, o, none⟩) t.length c, .slice (some ⟨b2, o2, none⟩) u.length c2] 24)).alloc (.cells #[.slice none 0 0, .slice none 0 0] 24)).cell? ⟨w.heap.size, 1, none⟩ = some (.slice (some ⟨b2, o2, none⟩) u.length c2) := by simp [go_sem]
  have r0 : ((w.alloc (.cells #[.slice (some ⟨b, o, none⟩) t.length c, .slice (some ⟨b2, o2, none⟩) u.length c2] 24)).alloc (.cells #[.slice none 0 0, .slice none 0 0] 24)).cell? ⟨w.heap.size + 1, 0, none⟩ = some (.slice none 0 0) := by simp [go_sem]
  have r1 : ((w.alloc (.cells #[.slice (some ⟨b, o, none⟩) t.length c, .slice (some ⟨b2, o2, none⟩) u.length c2] 24)).alloc (.cells #[.slice none 0 0, .slice none 0 0] 24)).cell? ⟨w.heap.size + 1, 1, none⟩ = some (.slice none 0 0) := by simp [go_sem]
  have q0 : ((w.alloc (.cells #[.slice (some ⟨b, o, none⟩) t.length c, .slice (some ⟨b2, o2, none⟩) u.length c2] 24)).alloc (.cells #[.slice none 0 0, .slice none 0 0] 24)).frozen? ⟨w.heap.size + 1, 0, none⟩ = false := by simp [go_sem]
  have q1 : ((w.alloc (.cells #[.slice (some ⟨b, o, none⟩) t.length c, .slice (some ⟨b2, o2, none⟩) u.length c2] 24)).alloc (.cells #[.slice none 0 0, .slice none 0 0] 24)).frozen? ⟨w.heap.size + 1, 1, none⟩ = false := by simp [go_sem]
  have zA : w.heap.size + 2 ≤ ((w.alloc (.cells #[.slice (some ⟨b, o, none⟩) t.length c, .slice (some ⟨b2, o2, none⟩) u.length c2] 24)).alloc (.cells #[.slice none 0 0, .slice none 0 0] 24)).heap.size := by simp
  cases hb : braceB t u with
  | false =>
    obtain ⟨z1, z2, z3⟩ := lb_no hb
    rw [z1, z2, z3]
    go_enter Try.func16, Try.ntmps16
    go_wp2_with fail
    generalize ((w.alloc (.cells #[.slice (some ⟨b, o, none⟩) t.length c, .slice (some ⟨b2, o2, none⟩) u.length c2] 24)).alloc (.cells #[.slice none 0 0, .slice none 0 0] 24)) = A at *
    refine (IsBrace_impl t u _ _ _ (hv.ext hX) (hy.ext hX)).mono ?_
    rintro e w2 ⟨rfl, hx⟩
    rw [hb]
    have zz := Ext.size hx
    replace q0 := hx.free q0 (by simp only []; omega)
    replace q1 := hx.free q1 (by simp only []; omega)
    replace zA := Nat.le_trans zA zz
    replace hX := hX.trans hx
    replace k0 := hx.cell k0
    replace k1 := hx.cell k1
    replace r0 := hx.cell r0
    replace r1 := hx.cell r1
    clear hx zz
    go_wp2
    refine bodyPost_ret (v := .tuple #[.agg #[.slice none 0 0, .slice none 0 0], .int .i64 1]) (by simp [results, Try.results16, go_sem, r0, r1]) rfl ⟨_, _, rfl, OwnB.nil _ _ _ (by simp; omega), (hX.setNew (by simp only []; omega) _).setNew (by simp only []; omega) _⟩
  | true =>
    obtain ⟨hG, hU, hL⟩ := braceB_ok hb
    have HG := Lib.hid hG
    have HU := Lib.hid hU
    have HL := Lib.hid hL
    have h12 := hG.1.2.1
    have h12u := hU.1.2.1
    by_cases h7 : t.length ≤ 7
    case neg =>
      obtain ⟨z1, z2, z3⟩ := lb_big hb h7
      rw [z1, z2, z3]
      have h7' : (7 : Int) < (t.length : Int) := by omega
      clear hG hU hL
      go_enter Try.func16, Try.ntmps16
      go_wp2_with fail
      generalize ((w.alloc (.cells #[.slice (some ⟨b, o, none⟩) t.length c, .slice (some ⟨b2, o2, none⟩) u.length c2] 24)).alloc (.cells #[.slice none 0 0, .slice none 0 0] 24)) = A at *
      refine (IsBrace_impl t u _ _ _ (hv.ext hX) (hy.ext hX)).mono ?_
      rintro e w2 ⟨rfl, hx⟩
      rw [hb]
      have zz := Ext.size hx
      replace q0 := hx.free q0 (by simp only []; omega)
      replace q1 := hx.free q1 (by simp only []; omega)
      replace zA := Nat.le_trans zA zz
      replace hX := hX.trans hx
      replace k0 := hx.cell k0
      replace k1 := hx.cell k1
      replace r0 := hx.cell r0
      replace r1 := hx.cell r1
      clear hx zz
      clear hb
      go_wp2
      refine bodyPost_ret (v := .tuple #[.agg #[.slice none 0 0, .slice none 0 0], .int .i64 3]) (by simp [results, Try.results16, go_sem, r0, r1]) rfl ⟨_, _, rfl, OwnB.nil _ _ _ (by simp; omega), (hX.setNew (by simp only []; omega) _).setNew (by simp only []; omega) _⟩
    case pos =>
      obtain ⟨z1, z2, z3⟩ := lb_yes hb h7
      rw [z1, z2, z3]
      have h7' : ¬ (7 : Int) < (t.length : Int) := by omega
      clear hG hU hL
      go_enter Try.func16, Try.ntmps16
      go_wp2_with fail
      generalize ((w.alloc (.cells #[.slice (some ⟨b, o, none⟩) t.length c, .slice (some ⟨b2, o2, none⟩) u.length c2] 24)).alloc (.cells #[.slice none 0 0, .slice none 0 0] 24)) = A at *
      refine (IsBrace_impl t u _ _ _ (hv.ext hX) (hy.ext hX)).mono ?_
      rintro e w2 ⟨rfl, hx⟩
      rw [hb]
      have zz := Ext.size hx
      replace q0 := hx.free q0 (by simp only []; omega)
      replace q1 := hx.free q1 (by simp only []; omega)
      replace zA := Nat.le_trans zA zz
      replace hX := hX.trans hx
      replace k0 := hx.cell k0
      replace k1 := hx.cell k1
      replace r0 := hx.cell r0
      replace r1 := hx.cell r1
      clear hx zz
      clear hb
      go_wp2_with fail
      refine (leastBrace_any t u _ _ _ (hv.ext hX) (hy.ext hX) HG.out.1 HU.out.1 HL.out.symm).mono ?_
      rintro e w3 ⟨v1, y1, rfl, hob, hx⟩
      have z3 := hx.size
      have zz := Ext.size hx
      replace q0 := hx.free q0 (by simp only []; omega)
      replace q1 := hx.free q1 (by simp only []; omega)
      replace hX := hX.trans hx
      replace r0 := hx.cell r0
      replace r1 := hx.cell r1
      have hsh : (∃ a1 n1 c1, v1 = .slice a1 n1 c1) ∧ ∃ a1 n1 c1, y1 = .slice a1 n1 c1 := by
        obtain ⟨_, _, _, _, _, _, _, _, _, h6, h7⟩ := hob
        obtain ⟨_, a1, c1, e1, _⟩ := h6
        obtain ⟨_, a2, c2, e2, _⟩ := h7
        exact ⟨⟨_, _, _, e1⟩, ⟨_, _, _, e2⟩⟩
      obtain ⟨⟨a1, n1, c1, rfl⟩, ⟨a2, n2, c2, rfl⟩⟩ := hsh
      have HOB := Lib.hid hob
      clear hx hob k0 k1
      go_wp2
      exact bodyPost_ret (v := .tuple #[.agg #[.slice a1 n1 c1, .slice a2 n2 c2], .int .i64 0]) (by simp [results, Try.results16, go_sem, r0, r1]) rfl ⟨_, _, rfl, (HOB.out.set2 (B := w.heap.size + 1) (by omega) (by omega) _ _).resolve_right (fun h => h (Nat.le_refl _)), (hX.setNew (by simp only []; omega) _).setNew (by simp only []; omega) _⟩
end Go.Proofs.Ytjhfieegkgndfaa
