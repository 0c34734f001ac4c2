/-
  Contracts of the reference's l11Least, LeastBrace.
-/
import Derived.Test.YtjhfieegkgndfaaProg
import Derived.Deep.DeepCutAuto
import Derived.Deep.RegionWith
import Derived.Deep.RegionHeld3
import Derived.Deep.DrawnRows
import Derived.Test.YtjhfieegkgndfaaJx0
import Derived.Test.YtjhfieegkgndfaaJx1
import Derived.Test.YtjhfieegkgndfaaJx3
import Derived.Test.YtjhfieegkgndfaaJx8
import Derived.Test.YtjhfieegkgndfaaJx2
import Derived.Test.YtjhfieegkgndfaaJx4
import Derived.Test.YtjhfieegkgndfaaJx5
import Derived.Test.YtjhfieegkgndfaaJx15
import Derived.Test.YtjhfieegkgndfaaJx23
import Derived.Test.YtjhfieegkgndfaaJx6
import Derived.Test.YtjhfieegkgndfaaJx11
import Derived.Test.YtjhfieegkgndfaaJx9
import Derived.Test.YtjhfieegkgndfaaJx7
import Derived.Test.YtjhfieegkgndfaaJx12
import Derived.Test.YtjhfieegkgndfaaJx24
import Derived.Test.YtjhfieegkgndfaaJx13
import Derived.Test.YtjhfieegkgndfaaJx36
import Derived.Test.YtjhfieegkgndfaaJx39
namespace Go.Proofs.Ytjhfieegkgndfaa
set_option linter.unusedVariables false
set_option linter.unusedSimpArgs false
open Go.RowKit
attribute [local go_sem ↓] Go.wp_at_zero Go.wp_at_succ

theorem ext_box3 (w : World) (v u : Value) (T : Nat) : Ext w (w.alloc (.cells #[v, u] T)) := (Ext.refl _).alloc _
set_option maxRecDepth 100000 in
set_option maxHeartbeats 2000000 in
theorem l11Least_any (t u : List (List Int)) (v y : Value) (w : World) (hv : Rows w v t) (hy : Rows w y u) (hT : TableOk t) (hU : TableOk u) (hl : u.length = t.length) (h7 : t.length ≤ 7) :
    Calls Try.prog 44 #[.agg #[v, y]] w fun e w' => ∃ v' y', e = .returned (.agg #[v', y']) ∧ Rows w' v' (leastP t u).1 ∧ Rows w' y' (leastP t u).2 ∧ Ext w w' := by
  obtain ⟨hlen, b, o, c, rfl, -⟩ := id hv
  obtain ⟨hlen2, b2, o2, c2, rfl, -⟩ := id hy
  have hX : Ext w ((w.alloc (.cells #[.slice (some ⟨b, o, none⟩) t.length c, .slice (some ⟨b2, o2, none⟩) u.length c2] 24)).alloc (.cells #[.slice none 0 0, .slice none 0 0] 24)) := ((Ext.refl _).alloc _).alloc _
  have k0 : ((w.alloc (.cells #[.slice (some ⟨b, o, none⟩) t.length c, .slice (some ⟨b2, o2, none⟩) u.length c2] 24)).alloc (.cells #[.slice none 0 0, .slice none 0 0] 24)).cell? ⟨w.heap.size, 0, none⟩ = some (.slice (some ⟨b, o, none⟩) t.length c) := by simp [go_sem]
  have k1 : ((w.alloc (.cells #[.slice (some ⟨b, o, none⟩) t.length c, .slice (some ⟨b2, o2, none⟩) u.length c2] 24)).alloc (.cells #[.slice none 0 0, .slice none 0 0] 24)).cell? ⟨w.heap.size, 1, none⟩ = some (.slice (some ⟨b2, o2, none⟩) u.length c2) := by simp [go_sem]
  have r0 : ((w.alloc (.cells #[.slice (some ⟨b, o, none⟩) t.length c, .slice (some ⟨b2, o2, none⟩) u.length c2] 24)).alloc (.cells #[.slice none 0 0, .slice none 0 0] 24)).cell? ⟨w.heap.size + 1, 0, none⟩ = some (.slice none 0 0) := by simp [go_sem]
  have r1 : ((w.alloc (.cells #[.slice (some ⟨b, o, none⟩) t.length c, .slice (some ⟨b2, o2, none⟩) u.length c2] 24)).alloc (.cells #[.slice none 0 0, .slice none 0 0] 24)).cell? ⟨w.heap.size + 1, 1, none⟩ = some (.slice none 0 0) := by simp [go_sem]
  have q0 : ((w.alloc (.cells #[.slice (some ⟨b, o, none⟩) t.length c, .slice (some ⟨b2, o2, none⟩) u.length c2] 24)).alloc (.cells #[.slice none 0 0, .slice none 0 0] 24)).frozen? ⟨w.heap.size + 1, 0, none⟩ = false := by simp [go_sem]
  have q1 : ((w.alloc (.cells #[.slice (some ⟨b, o, none⟩) t.length c, .slice (some ⟨b2, o2, none⟩) u.length c2] 24)).alloc (.cells #[.slice none 0 0, .slice none 0 0] 24)).frozen? ⟨w.heap.size + 1, 1, none⟩ = false := by simp [go_sem]
  have zA : w.heap.size + 2 ≤ ((w.alloc (.cells #[.slice (some ⟨b, o, none⟩) t.length c, .slice (some ⟨b2, o2, none⟩) u.length c2] 24)).alloc (.cells #[.slice none 0 0, .slice none 0 0] 24)).heap.size := by simp
  have HL := Lib.hid hl
  have HT := Lib.hid hT
  have HU := Lib.hid hU
  have hxb := ext_box3 ((w.alloc (.cells #[.slice (some ⟨b, o, none⟩) t.length c, .slice (some ⟨b2, o2, none⟩) u.length c2] 24)).alloc (.cells #[.slice none 0 0, .slice none 0 0] 24)) (.slice (some ⟨b, o, none⟩) t.length c) (.slice (some ⟨b2, o2, none⟩) u.length c2) 22
  have HTB := Lib.hid (show Tabs (((w.alloc (.cells #[.slice (some ⟨b, o, none⟩) t.length c, .slice (some ⟨b2, o2, none⟩) u.length c2] 24)).alloc (.cells #[.slice none 0 0, .slice none 0 0] 24)).alloc (.cells #[.slice (some ⟨b, o, none⟩) t.length c, .slice (some ⟨b2, o2, none⟩) u.length c2] 22)) (.slice (some ⟨w.heap.size + 1 + 1, 0, none⟩) 2 2) [t, u] from tabs_lit2 (by simp [go_sem]) (by simp [go_sem]) (hv.ext (hX.trans hxb)) (hy.ext (hX.trans hxb)))
  have HXB := Lib.hid hxb
  clear hT hU hl hv hy hxb
  go_enter Try.func44, Try.ntmps44
  go_wp2_with fail
  refine (l03Least_any t u _ _ HTB.out HT.out HU.out HL.out h7).mono ?_
  rintro e w1 ⟨v1, rfl, htb, hx⟩
  obtain ⟨g, q, cq, rfl, hg⟩ := htb.two
  obtain ⟨s1, s2, s3, e1, e2⟩ := hg.get (k := 0) (by simp)
  obtain ⟨p1, p2, p3, f1, f2⟩ := hg.get (k := 1) (by simp)
  rw [tab_two0] at e1 e2
  rw [tab_two1] at f1 f2
  have hs1 := (hg 0 (by simp))
  have hR0 : Rows w1 (.slice (some ⟨s1, s2, none⟩) (leastP t u).1.length s3) (leastP t u).1 := by
    obtain ⟨r, z1, z2⟩ := hg 0 (by simp)
    rw [tab_two0] at z2
    rw [z1] at e1
    obtain rfl := Option.some.inj e1
    exact z2
  have hR1 : Rows w1 (.slice (some ⟨p1, p2, none⟩) (leastP t u).2.length p3) (leastP t u).2 := by
    obtain ⟨r, z1, z2⟩ := hg 1 (by simp)
    rw [tab_two1] at z2
    rw [z1] at f1
    obtain rfl := Option.some.inj f1
    exact z2
  rw [Nat.add_zero] at e1
  have hx2 := HXB.out.trans hx
  have zz := Ext.size hx2
  replace q0 := hx2.free q0 (by simp only []; omega)
  replace q1 := hx2.free q1 (by simp only []; omega)
  replace r0 := hx2.cell r0
  replace r1 := hx2.cell r1
  replace hX := hX.trans hx2
  have HR0 := Lib.hid hR0
  have HR1 := Lib.hid hR1
  have HR00 := Lib.hid r0
  have HR11 := Lib.hid r1
  replace zA := Nat.le_trans zA zz
  have HX := Lib.hid hX
  clear hR0 hR1 hs1 hg htb hx hx2 k0 k1 e2 f2 hX zz
  go_wp2_with fail
  go_region
  all_goals
    go_wp2_with fail
    exact bodyPost_ret (v := .agg #[.slice (some ⟨s1, s2, none⟩) (leastP t u).1.length s3, .slice (some ⟨p1, p2, none⟩) (leastP t u).2.length p3]) (by simp [results, Try.results44, go_sem, r0, r1]) rfl ⟨_, _, rfl, (rows_set2 HR0.out HR00.out HR11.out _ _).ext (Ext.refl _).drew, (rows_set2 HR1.out HR00.out HR11.out _ _).ext (Ext.refl _).drew, ((HX.out.setNew (by simp only []; omega) _).setNew (by simp only []; omega) _).drew⟩


set_option maxRecDepth 100000 in
set_option maxHeartbeats 2000000 in
theorem LeastBrace_spec (t u : List (List Int)) (v y : Value) (w : World) (hv : Rows w v t) (hy : Rows w y u) :
    Calls Try.prog 14 #[.agg #[v, y]] w (RetB (lbA t u) (lbB t u) (lbC t u) w) := by
  obtain ⟨hlen, b, o, c, rfl, -⟩ := id hv
  obtain ⟨hlen2, b2, o2, c2, rfl, -⟩ := id hy
  have hX : Ext w ((w.alloc (.cells #[.slice (some ⟨b, o, none⟩) t.length c, .slice (some ⟨b2, o2, none⟩) u.length c2] 24)).alloc (.cells #[.slice none 0 0, .slice none 0 0] 24)) := ((Ext.refl _).alloc _).alloc _
  have k0 : ((w.alloc (.cells #[.slice (some ⟨b, o, none⟩) t.length c, .slice (some ⟨b2, o2, none⟩) u.length c2] 24)).alloc (.cells #[.slice none 0 0, .slice none 0 0] 24)).cell? ⟨w.heap.size, 0, none⟩ = some (.slice (some ⟨b, o, none⟩) t.length c) := by simp [go_sem]
  have k1 : ((w.alloc (.cells #[.slice (some ⟨b, o, none⟩) t.length c, .slice (some ⟨b2, o2, none⟩) u.length c2] 24)).alloc (.cells #[.slice none 0 0, .slice none 0 0] 24)).cell? ⟨w.heap.size, 1, none⟩ = some (.slice (some ⟨b2, o2, none⟩) u.length c2) := by simp [go_sem]
  have r0 : ((w.alloc (.cells #[.slice (some ⟨b, o, none⟩) t.length c, .slice (some ⟨b2, o2, none⟩) u.length c2] 24)).alloc (.cells #[.slice none 0 0, .slice none 0 0] 24)).cell? ⟨w.heap.size + 1, 0, none⟩ = some (.slice none 0 0) := by simp [go_sem]
  have r1 : ((w.alloc (.cells #[.slice (some ⟨b, o, none⟩) t.length c, .slice (some ⟨b2, o2, none⟩) u.length c2] 24)).alloc (.cells #[.slice none 0 0, .slice none 0 0] 24)).cell? ⟨w.heap.size + 1, 1, none⟩ = some (.slice none 0 0) := by simp [go_sem]
  have q0 : ((w.alloc (.cells #[.slice (some ⟨b, o, none⟩) t.length c, .slice (some ⟨b2, o2, none⟩) u.length c2] 24)).alloc (.cells #[.slice none 0 0, .slice none 0 0] 24)).frozen? ⟨w.heap.size + 1, 0, none⟩ = false := by simp [go_sem]
  have q1 : ((w.alloc (.cells #[.slice (some ⟨b, o, none⟩) t.length c, .slice (some ⟨b2, o2, none⟩) u.length c2] 24)).alloc (.cells #[.slice none 0 0, .slice none 0 0] 24)).frozen? ⟨w.heap.size + 1, 1, none⟩ = false := by simp [go_sem]
  have zA : w.heap.size + 2 ≤ ((w.alloc (.cells #[.slice (some ⟨b, o, none⟩) t.length c, .slice (some ⟨b2, o2, none⟩) u.length c2] 24)).alloc (.cells #[.slice none 0 0, .slice none 0 0] 24)).heap.size := by simp
  cases hb : braceB t u with
  | false =>
    obtain ⟨z1, z2, z3⟩ := lb_no hb
    rw [z1, z2, z3]
    go_enter Try.func14, Try.ntmps14
    go_wp2_with fail
    generalize ((w.alloc (.cells #[.slice (some ⟨b, o, none⟩) t.length c, .slice (some ⟨b2, o2, none⟩) u.length c2] 24)).alloc (.cells #[.slice none 0 0, .slice none 0 0] 24)) = A at *
    refine (l11Is_any t u _ _ _ (hv.ext hX) (hy.ext hX)).mono ?_
    rintro e w2 ⟨rfl, hx⟩
    rw [hb]
    have zz := Ext.size hx
    replace q0 := hx.free q0 (by simp only []; omega)
    replace q1 := hx.free q1 (by simp only []; omega)
    replace zA := Nat.le_trans zA zz
    replace hX := hX.trans hx
    replace k0 := hx.cell k0
    replace k1 := hx.cell k1
    replace r0 := hx.cell r0
    replace r1 := hx.cell r1
    clear hx zz
    go_wp2
    refine bodyPost_ret (v := .tuple #[.agg #[.slice none 0 0, .slice none 0 0], .int .i64 1]) (by simp [results, Try.results14, go_sem, r0, r1]) rfl ⟨_, _, rfl, RowsB.nil _ _ _, (hX.setNew (by simp only []; omega) _).setNew (by simp only []; omega) _⟩
  | true =>
    obtain ⟨hG, hU, hL⟩ := braceB_ok hb
    have HG := Lib.hid hG
    have HU := Lib.hid hU
    have HL := Lib.hid hL
    have h12 := hG.1.2.1
    have h12u := hU.1.2.1
    by_cases h7 : t.length ≤ 7
    case neg =>
      obtain ⟨z1, z2, z3⟩ := lb_big hb h7
      rw [z1, z2, z3]
      have h7' : (7 : Int) < (t.length : Int) := by omega
      clear hG hU hL
      go_enter Try.func14, Try.ntmps14
      go_wp2_with fail
      generalize ((w.alloc (.cells #[.slice (some ⟨b, o, none⟩) t.length c, .slice (some ⟨b2, o2, none⟩) u.length c2] 24)).alloc (.cells #[.slice none 0 0, .slice none 0 0] 24)) = A at *
      refine (l11Is_any t u _ _ _ (hv.ext hX) (hy.ext hX)).mono ?_
      rintro e w2 ⟨rfl, hx⟩
      rw [hb]
      have zz := Ext.size hx
      replace q0 := hx.free q0 (by simp only []; omega)
      replace q1 := hx.free q1 (by simp only []; omega)
      replace zA := Nat.le_trans zA zz
      replace hX := hX.trans hx
      replace k0 := hx.cell k0
      replace k1 := hx.cell k1
      replace r0 := hx.cell r0
      replace r1 := hx.cell r1
      clear hx zz
      clear hb
      go_wp2
      refine bodyPost_ret (v := .tuple #[.agg #[.slice none 0 0, .slice none 0 0], .int .i64 3]) (by simp [results, Try.results14, go_sem, r0, r1]) rfl ⟨_, _, rfl, RowsB.nil _ _ _, (hX.setNew (by simp only []; omega) _).setNew (by simp only []; omega) _⟩
    case pos =>
      obtain ⟨z1, z2, z3⟩ := lb_yes hb h7
      rw [z1, z2, z3]
      have h7' : ¬ (7 : Int) < (t.length : Int) := by omega
      clear hG hU hL
      go_enter Try.func14, Try.ntmps14
      go_wp2_with fail
      generalize ((w.alloc (.cells #[.slice (some ⟨b, o, none⟩) t.length c, .slice (some ⟨b2, o2, none⟩) u.length c2] 24)).alloc (.cells #[.slice none 0 0, .slice none 0 0] 24)) = A at *
      refine (l11Is_any t u _ _ _ (hv.ext hX) (hy.ext hX)).mono ?_
      rintro e w2 ⟨rfl, hx⟩
      rw [hb]
      have zz := Ext.size hx
      replace q0 := hx.free q0 (by simp only []; omega)
      replace q1 := hx.free q1 (by simp only []; omega)
      replace zA := Nat.le_trans zA zz
      replace hX := hX.trans hx
      replace k0 := hx.cell k0
      replace k1 := hx.cell k1
      replace r0 := hx.cell r0
      replace r1 := hx.cell r1
      clear hx zz
      clear hb
      go_wp2_with fail
      refine (l11Least_any t u _ _ _ (hv.ext hX) (hy.ext hX) HG.out.1 HU.out.1 HL.out.symm h7).mono ?_
      rintro e w3 ⟨v1, y1, rfl, hr1, hr2, hx⟩
      have zz := Ext.size hx
      replace q0 := hx.free q0 (by simp only []; omega)
      replace q1 := hx.free q1 (by simp only []; omega)
      replace zA := Nat.le_trans zA zz
      replace hX := hX.trans hx
      replace k0 := hx.cell k0
      replace k1 := hx.cell k1
      replace r0 := hx.cell r0
      replace r1 := hx.cell r1
      clear hx zz
      obtain ⟨-, s1, s2, s3, rfl, -⟩ := id hr1
      obtain ⟨-, p1, p2, p3, rfl, -⟩ := id hr2
      have HR1 := Lib.hid hr1
      have HR2 := Lib.hid hr2
      have HR00 := Lib.hid r0
      have HR11 := Lib.hid r1
      clear hr1 hr2
      go_wp2
      exact bodyPost_ret (v := .tuple #[.agg #[.slice (some ⟨s1, s2, none⟩) (leastP t u).1.length s3, .slice (some ⟨p1, p2, none⟩) (leastP t u).2.length p3], .int .i64 0]) (by simp [results, Try.results14, go_sem, r0, r1]) rfl ⟨_, _, rfl, ⟨(rows_set2 HR1.out HR00.out HR11.out _ _).toR, (rows_set2 HR2.out HR00.out HR11.out _ _).toR⟩, (hX.setNew (by simp only []; omega) _).setNew (by simp only []; omega) _⟩
end Go.Proofs.Ytjhfieegkgndfaa

/-
  Contracts of the program's inverse, renamed, compareBraces.
-/
namespace Go.Proofs.Ytjhfieegkgndfaa
set_option linter.unusedVariables false
set_option linter.unusedSimpArgs false
open Go.RowKit
attribute [local go_sem ↓] Go.wp_at_zero Go.wp_at_succ
open Go.Deep

/-- the inverse of p as far as k -/
@[irreducible] def invTo (p : List Int) (k y : Nat) : Int := if 0 ≤ indexOf p y ∧ indexOf p y < (k : Int) then indexOf p y else 0
def invL (p : List Int) (n : Nat) : List Int := listC (fun y => indexOf p y) n
theorem invTo_zero (p : List Int) (y : Nat) : invTo p 0 y = 0 := by unfold invTo; rw [if_neg (by omega)]
theorem invTo_succ {n : Nat} {p : List Int} (hp : IsoOk n [] [] p) {k z : Nat} (hk : k < n) (hz : ix p k = (z : Int)) (y : Nat) : invTo p (k + 1) y = if y = z then (k : Int) else invTo p k y := by
  unfold invTo
  by_cases h : y = z
  · subst h
    have := indexOf_at hp hk
    rw [hz] at this
    rw [if_pos rfl, this, if_pos (by omega)]
  · rw [if_neg h]
    have hne : indexOf p y ≠ (k : Int) := fun e => by
      rcases indexOf_spec p y with ⟨e2, _⟩ | ⟨i, hi, e2, e3, _⟩
      · omega
      · have : i = k := by omega
        subst this
        omega
    by_cases h2 : 0 ≤ indexOf p y ∧ indexOf p y < (k : Int)
    · rw [if_pos h2, if_pos (by omega)]
    · rw [if_neg h2, if_neg (by omega)]
theorem invTo_all {n : Nat} {p : List Int} (hp : IsoOk n [] [] p) {y : Nat} (hy : y < n) : invTo p n y = indexOf p y := by
  unfold invTo
  obtain ⟨x, hx, e⟩ := hp.surj hy
  have := indexOf_at hp hx
  rw [e] at this
  rw [this, if_pos (by omega)]
theorem inv_bd {n : Nat} {p : List Int} (hp : IsoOk n [] [] p) {y : Nat} (hy : y < n) : ∃ x : Nat, x < n ∧ indexOf p y = (x : Int) := by
  obtain ⟨x, hx, e⟩ := hp.surj hy
  have := indexOf_at hp hx
  rw [e] at this
  exact ⟨x, hx, this⟩

set_option maxRecDepth 100000 in
theorem inverse_any (n : Nat) (p : List Int) (v : Value) (w : World) (hv : Ints w v p) (hp : IsoOk n [] [] p) (h12 : n ≤ 12) :
    Calls Try.prog 107 #[v] w fun e w' => ∃ b c, e = .returned (.slice (some ⟨b, 0, none⟩) n c) ∧ OwnI w.heap.size w'.heap.size w' b 0 (invL p n) ∧ Ext w w' := by
  obtain ⟨-, b, o, c, rfl, hc⟩ := id hv
  have HP := Lib.hid hp
  have HPL := Lib.hid hp.1
  rw [hp.1]
  clear hp hv
  have hmk := run_make_row' (P := Try.prog) 65 2 (.int .i64 0) 8 Try.underlying65 infoInt rfl .i64 .i64 n (by omega) (by omega)
  go_enter Try.func107, Try.ntmps107
  go_wp2_with fail
  clear hmk
  have hx0 : Ext w (w.alloc (.cells (madeCells #[Value.int .i64 0] n) 2)) := (Ext.refl _).alloc _
  have hr0 := World.rowIs_made w (.int .i64 0) n 2
  go_loopw [11] (fun i wr => ∃ k : Nat, k ≤ n ∧ i = .int .i64 k ∧ wr.rowIs w.heap.size 2 n (fun i => .int .i64 (invTo p k i)) ∧ Ext w wr) (fun i _ => n - (intOf i).toNat)
  case atStart => exact ⟨0, Nat.zero_le _, rfl, hr0.congr (fun i hi => by rw [invTo_zero]), hx0⟩
  case round =>
    clear hx0 hr0
    obtain ⟨k, hk, rfl, hrow, hx⟩ := hrel
    by_cases hlt : k < n
    · have hb := HP.out.bd hlt
      obtain ⟨z, hz⟩ : ∃ z : Nat, ix p k = (z : Int) := ⟨_, (Int.toNat_of_nonneg hb.1).symm⟩
      have hzn : z < n := by omega
      have e1 := (hc.ext hx) k (by rw [HPL.out]; exact hlt)
      rw [hz] at e1
      have e2 := hrow.cell hzn
      have e3 := hrow.frozen z
      have HS := Lib.hid (fun y => invTo_succ HP.out hlt hz y)
      clear hb hz
      go_wp2_with fail
      go_roundw
      case rel => exact ⟨k + 1, by omega, by go_num, (hrow.set z _).congr (fun i hi => by rw [HS.out i]; split <;> rfl), hx.setNew (Nat.le_refl _) _⟩
      case measure => simp [intOf]; omega
    · have hkk : k = n := by omega
      subst hkk
      go_wp2_with fail
      go_ret
      exact ⟨w.heap.size, k, rfl, ownI_of_row hrow (by unfold invL; rw [length_listC]; exact Nat.le_refl _) (fun i hi => by unfold invL at hi ⊢; rw [length_listC] at hi; rw [ix_listC _ _ _ hi, invTo_all HP.out hi]) (Nat.le_refl _) hrow.lt, hx⟩

set_option maxRecDepth 100000 in
theorem renamed1_any (t : List (List Int)) (p : List Int) (v u : Value) (b3 c3 : Nat) (i j A B C : Nat) (w : World) (hA : w.cell? ⟨A, 0, none⟩ = some u) (hB : w.cell? ⟨B, 0, none⟩ = some v) (hC : w.cell? ⟨C, 0, none⟩ = some (.slice (some ⟨b3, 0, none⟩) t.length c3)) (hv : Rows w v t) (hu : Ints w u p) (hi : IntsAt w b3 0 (invL p t.length)) (hT : TableOk t) (hp : IsoOk t.length [] [] p) (hx : i < t.length) (hj : j < t.length) :
    Calls Try.prog 108 #[.int .i64 i, .int .i64 j, .pointer (some ⟨A, 0, none⟩), .pointer (some ⟨B, 0, none⟩), .pointer (some ⟨C, 0, none⟩)] w fun e w' => e = .returned (.int .i64 (imgE t p i j)) ∧ Ext w w' := by
  obtain ⟨hlen, b, o, c, rfl, hc⟩ := id hv
  obtain ⟨hlen2, b2, o2, c2, rfl, hc2⟩ := id hu
  have h12 := hT.2.1
  obtain ⟨x, hxn, ex⟩ := inv_bd hp hx
  obtain ⟨y, hyn, ey⟩ := inv_bd hp hj
  have i1 := hi i (by unfold invL; rw [length_listC]; exact hx)
  have i2 := hi j (by unfold invL; rw [length_listC]; exact hj)
  unfold invL at i1 i2
  rw [ix_listC _ _ _ hx, ex, Nat.zero_add] at i1
  rw [ix_listC _ _ _ hj, ey, Nat.zero_add] at i2
  obtain ⟨d1, s1, m1, r1, l1⟩ := hc.read hT rfl hxn
  obtain ⟨f1, p1, p2⟩ := l1 y hyn
  obtain ⟨z, hz⟩ : ∃ z : Nat, ent t x y = (z : Int) := ⟨_, (Int.toNat_of_nonneg p1).symm⟩
  have hzn : z < t.length := by omega
  have i3 := hc2 z (by rw [hp.1]; exact hzn)
  have HE := Lib.hid (show imgE t p i j = ix p z by unfold imgE; rw [ex, ey, Int.toNat_natCast, Int.toNat_natCast, hz, Int.toNat_natCast])
  rw [hz] at f1
  rw [hp.1] at hA
  clear l1 hp ex ey hi hv hu
  go_enter Try.func108, Try.ntmps108
  go_wp2
  go_quiet (fail)
  go_wp2
  go_ret
  exact ⟨by rw [HE.out]; rfl, (Ext.refl _).drewN _⟩

theorem callRenamed1 (args : Array Value) (w : World) : (callFunc 108 args).run Try.prog w = .ok (.enter 108 args) w :=
  callFunc_enter Try.func108 (by kernel_rfl) rfl args w

set_option maxRecDepth 100000 in
set_option maxHeartbeats 1000000 in
theorem renamed_any (t : List (List Int)) (p : List Int) (v u : Value) (w : World) (hv : Rows w v t) (hu : Ints w u p) (hT : TableOk t) (hp : IsoOk t.length [] [] p) :
    Calls Try.prog 72 #[v, u] w (NewT (imgT t p) w) := by
  obtain ⟨hlen, b, o, c, rfl, hc⟩ := id hv
  obtain ⟨hlen2, b2, o2, c2, rfl, hc2⟩ := id hu
  have h12 := hT.2.1
  have HT := Lib.hid hT
  have HP := Lib.hid hp
  have hX := ext_box2 w (.slice (some ⟨b, o, none⟩) t.length c) (.slice (some ⟨b2, o2, none⟩) p.length c2) 22 65
  have HI := Lib.hid (inverse_any t.length p _ _ (hu.ext hX) hp h12)
  have HX := Lib.hid hX
  clear hc hc2 hT hp hX
  go_enter Try.func72, Try.ntmps72
  go_wp2_with fail
  refine HI.out.mono ?_
  rintro e w1 ⟨b3, c3, rfl, hi3, hx1⟩
  have k0 := hx1.cell (p := ⟨w.heap.size, 0, none⟩) (v := .slice (some ⟨b, o, none⟩) t.length c) (by simp [go_sem])
  have k1 := hx1.cell (p := ⟨w.heap.size + 1, 0, none⟩) (v := .slice (some ⟨b2, o2, none⟩) p.length c2) (by simp [go_sem])
  have hX1 := HX.out.trans hx1
  have HI3 := Lib.hid hi3.2.2.1
  clear hx1 hi3 HI
  have z1 := hX1.size
  have hxB := ext_box w1 (.slice (some ⟨b3, 0, none⟩) t.length c3) 65
  have bB := cell_new w1 (.slice (some ⟨b3, 0, none⟩) t.length c3) 65
  replace k0 := hxB.cell k0
  replace k1 := hxB.cell k1
  have HXB := Lib.hid hxB
  have HV := Lib.hid hv
  have HU := Lib.hid hu
  have HX1 := Lib.hid hX1
  clear hxB hv hu hX1
  go_wp2_with fail
  refine (tableBy_any t.length (imgE t p) 108 #[.pointer (some ⟨w.heap.size + 1, 0, none⟩), .pointer (some ⟨w.heap.size, 0, none⟩), .pointer (some ⟨w1.heap.size, 0, none⟩)] _ (by omega) callRenamed1 (fun w3 x y h3 hx hy' => by
    rw [app23]
    have hX3 := HX1.out.trans (HXB.out.trans h3)
    exact renamed1_any t p _ _ b3 c3 x y (w.heap.size + 1) w.heap.size w1.heap.size w3 (h3.cell k1) (h3.cell k0) (h3.cell bB) (HV.out.ext hX3) (HU.out.ext hX3) (HI3.out.ext (HXB.out.trans h3)) HT.out HP.out hx hy')).mono ?_
  rintro e w2 ⟨b4, c4, rfl, ho, hx2⟩
  go_wp2
  go_ret
  exact ⟨b4, c4, rfl, ho.mono (by simp; omega) (Nat.le_refl _), HX1.out.trans (HXB.out.trans hx2)⟩

theorem ints_lit2 {w : World} {B : Nat} {x y : Int} (hc : w.cell? ⟨B, 0, none⟩ = some (.int .i64 x)) (hd : w.cell? ⟨B, 1, none⟩ = some (.int .i64 y)) : Ints w (.slice (some ⟨B, 0, none⟩) 2 2) [x, y] :=
  ⟨by simp, B, 0, 2, rfl, fun k hk => by
    have : k = 0 ∨ k = 1 := by have := hk; simp at this; omega
    rcases this with rfl | rfl
    · rw [ix_eq]; exact hc
    · rw [ix_eq]; exact hd⟩
def orL : List Int → Int
  | [] => 0
  | x :: l => if x ≠ 0 then x else orL l
theorem orL_at {l : List Int} {k : Nat} (h : k < l.length) : orL (l.drop k) = if ix l k ≠ 0 then ix l k else orL (l.drop (k + 1)) := by
  rw [List.drop_eq_getElem_cons h]
  have : ix l k = l[k] := by rw [ix_eq]; simp [List.getD, h]
  rw [this]; rfl
/-- cmp.Or: the first that is not 0 -/
theorem cmpOr_any (l : List Int) (v : Value) (w : World) (hv : Ints w v l) :
    Calls Try.prog 109 #[v] w fun e w' => e = .returned (.int .i64 (orL l)) ∧ w = w' := by
  obtain ⟨hlen, b, o, c, rfl, hc⟩ := hv
  go_enter Try.func109, Try.ntmps109
  go_wp2
  go_loop [8] (fun i => ∃ k : Nat, k ≤ l.length ∧ i = .int .i64 k ∧ orL l = orL (l.drop k)) (fun i => l.length - (intOf i).toNat)
  case atStart => exact ⟨0, Nat.zero_le _, rfl, by rw [List.drop_zero]⟩
  case round =>
    obtain ⟨k, hk, rfl, hr⟩ := hrel
    have HR := Lib.hid hr
    clear hr
    by_cases hlt : k < l.length
    · have e1 := hc k hlt
      have HA := Lib.hid (orL_at hlt)
      cases hz : (ix l k != 0) with
      | true =>
        go_wp2
        go_ret
        exact ⟨ret_int (by rw [HR.out, HA.out, if_pos (by simpa using hz)]), rfl⟩
      | false =>
        go_wp2
        go_round
        case rel => exact ⟨k + 1, by omega, by go_num, by rw [HR.out, HA.out, if_neg (by simpa using hz)]⟩
        case measure => simp [intOf]; omega
    · go_wp2
      go_ret
      exact ⟨ret_int (by rw [HR.out, List.drop_eq_nil_of_le (by omega)]; rfl), rfl⟩
def cmpP (a b : List (List Int) × List (List Int)) : Int := if cmpT a.1 b.1 = 0 then cmpT a.2 b.2 else cmpT a.1 b.1
theorem cmpP_lt (a b : List (List Int) × List (List Int)) : decide (cmpP a b < 0) = lessP a b := by
  unfold cmpP lessP
  by_cases h : cmpT a.1 b.1 = 0
  · rw [if_pos h, if_pos h]
  · rw [if_neg h, if_neg h]
theorem cmpP_or (a b : List (List Int) × List (List Int)) : orL [cmpT a.1 b.1, cmpT a.2 b.2] = cmpP a b := by
  unfold orL orL orL cmpP
  by_cases h : cmpT a.1 b.1 = 0
  · rw [if_neg (by simpa using h), if_pos h]
    by_cases h2 : cmpT a.2 b.2 = 0
    · rw [if_neg (by simpa using h2), h2]
    · rw [if_pos h2]
  · rw [if_pos h, if_neg h]

set_option maxRecDepth 100000 in
set_option maxHeartbeats 2000000 in
theorem compareBraces_any (t u t2 u2 : List (List Int)) (v y v2 y2 : Value) (w : World) (hv : Rows w v t) (hy : Rows w y u) (hv2 : Rows w v2 t2) (hy2 : Rows w y2 u2) :
    Calls Try.prog 73 #[.agg #[v, y], .agg #[v2, y2]] w fun e w' => e = .returned (.int .i64 (cmpP (t, u) (t2, u2))) ∧ Ext w w' := by
  obtain ⟨hlen, b, o, c, rfl, -⟩ := id hv
  obtain ⟨hlen2, b2, o2, c2, rfl, -⟩ := id hy
  obtain ⟨hlen3, b3, o3, c3, rfl, -⟩ := id hv2
  obtain ⟨hlen4, b4, o4, c4, rfl, -⟩ := id hy2
  have HO := Lib.hid (cmpP_or (t, u) (t2, u2))
  have HV := Lib.hid hv
  have HY := Lib.hid hy
  have HV2 := Lib.hid hv2
  have HY2 := Lib.hid hy2
  clear hv hy hv2 hy2
  go_enter Try.func73, Try.ntmps73
  go_wp2_with fail
  go_region_held3 (fun w' => w'.cell? ⟨w.heap.size, 0, none⟩ = some (.slice (some ⟨b, o, none⟩) t.length c) ∧ w'.cell? ⟨w.heap.size, 1, none⟩ = some (.slice (some ⟨b2, o2, none⟩) u.length c2) ∧ w'.cell? ⟨w.heap.size + 1, 0, none⟩ = some (.slice (some ⟨b3, o3, none⟩) t2.length c3) ∧ w'.cell? ⟨w.heap.size + 1, 1, none⟩ = some (.slice (some ⟨b4, o4, none⟩) u2.length c4))
    ((refine ⟨?_, ?_, ?_, ?_⟩ <;> first | (repeat first | (with_reducible assumption) |  (with_reducible exact kc_new) | ((with_reducible refine kc_newE ?_); (simp; done)) | ((with_reducible refine kc_newEa ?_); (simp; done)) | ((with_reducible refine kc_newEb ?_); (simp; done)) | (with_reducible apply kc_alloc) | (with_reducible apply kc_drewN) | (with_reducible apply kc_drew) | ((with_reducible refine kc_set ?_ ?_); (first | (simp only []; omega) | (simp; omega) | (focus (simp; done)))) | ((with_reducible refine kc_set2 ?_ ?_); (focus (simp; done))) | (with_reducible refine kc_same (v := .slice none 0 0) ?_)) | (simp [go_sem]; done)))
    (first
      | (go_at_call 110; refine (compareTables_any t t2 _ _ _ (HV.out.ext (by (repeat first | (with_reducible exact Ext.refl _) | (with_reducible assumption) | (with_reducible apply Ext.drew) | (with_reducible apply kx_drewN) | (with_reducible apply kx_alloc) | ((with_reducible refine kx_set ?_ ?_); (first | (simp only []; omega) | (simp; omega) | (focus (simp; done)))) ))) (HV2.out.ext (by (repeat first | (with_reducible exact Ext.refl _) | (with_reducible assumption) | (with_reducible apply Ext.drew) | (with_reducible apply kx_drewN) | (with_reducible apply kx_alloc) | ((with_reducible refine kx_set ?_ ?_); (first | (simp only []; omega) | (simp; omega) | (focus (simp; done)))) )))).mono ?_; rintro e w' ⟨rfl, rfl⟩)
      | (go_at_call 110; refine (compareTables_any u u2 _ _ _ (HY.out.ext (by (repeat first | (with_reducible exact Ext.refl _) | (with_reducible assumption) | (with_reducible apply Ext.drew) | (with_reducible apply kx_drewN) | (with_reducible apply kx_alloc) | ((with_reducible refine kx_set ?_ ?_); (first | (simp only []; omega) | (simp; omega) | (focus (simp; done)))) ))) (HY2.out.ext (by (repeat first | (with_reducible exact Ext.refl _) | (with_reducible assumption) | (with_reducible apply Ext.drew) | (with_reducible apply kx_drewN) | (with_reducible apply kx_alloc) | ((with_reducible refine kx_set ?_ ?_); (first | (simp only []; omega) | (simp; omega) | (focus (simp; done)))) )))).mono ?_; rintro e w' ⟨rfl, rfl⟩)
      | (go_at_call 109; refine (cmpOr_any [cmpT t t2, cmpT u u2] _ _ (ints_lit2 (by first | (repeat first | (with_reducible assumption) |  (with_reducible exact kc_new) | ((with_reducible refine kc_newE ?_); (simp; done)) | ((with_reducible refine kc_newEa ?_); (simp; done)) | ((with_reducible refine kc_newEb ?_); (simp; done)) | (with_reducible apply kc_alloc) | (with_reducible apply kc_drewN) | (with_reducible apply kc_drew) | ((with_reducible refine kc_set ?_ ?_); (first | (simp only []; omega) | (simp; omega) | (focus (simp; done)))) | ((with_reducible refine kc_set2 ?_ ?_); (focus (simp; done))) | (with_reducible refine kc_same (v := .slice none 0 0) ?_)) | (simp [go_sem]; done)) (by first | (repeat first | (with_reducible assumption) |  (with_reducible exact kc_new) | ((with_reducible refine kc_newE ?_); (simp; done)) | ((with_reducible refine kc_newEa ?_); (simp; done)) | ((with_reducible refine kc_newEb ?_); (simp; done)) | (with_reducible apply kc_alloc) | (with_reducible apply kc_drewN) | (with_reducible apply kc_drew) | ((with_reducible refine kc_set ?_ ?_); (first | (simp only []; omega) | (simp; omega) | (focus (simp; done)))) | ((with_reducible refine kc_set2 ?_ ?_); (focus (simp; done))) | (with_reducible refine kc_same (v := .slice none 0 0) ?_)) | (simp [go_sem]; done)))).mono ?_; rintro e w' ⟨rfl, rfl⟩))
  all_goals
    go_wp2
    go_ret
    exact ⟨by rw [HO.out]; rfl, by (repeat first | (with_reducible exact Ext.refl _) | (with_reducible assumption) | (with_reducible apply Ext.drew) | (with_reducible apply kx_drewN) | (with_reducible apply kx_alloc) | ((with_reducible refine kx_set ?_ ?_); (first | (simp only []; omega) | (simp; omega) | (focus (simp; done)))) )⟩
end Go.Proofs.Ytjhfieegkgndfaa
