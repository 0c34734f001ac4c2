/-
  Contract of the reference's l10Named.
-/
import Derived.Test.YtjbloenjphpngaaProg
import Derived.Deep.DeepCutAuto
import Derived.Deep.RegionWith
import Derived.Maps.AppendAt
import Derived.Test.YtjbloenjphpngaaJx0
import Derived.Test.YtjbloenjphpngaaJx1
import Derived.Test.YtjbloenjphpngaaJx5
import Derived.Test.YtjbloenjphpngaaJx14
import Derived.Test.YtjbloenjphpngaaJx8
import Derived.Test.YtjbloenjphpngaaJx9
import Derived.Test.YtjbloenjphpngaaJx2
import Derived.Test.YtjbloenjphpngaaJx36
import Derived.Test.YtjbloenjphpngaaJx27
import Derived.Test.YtjbloenjphpngaaJx10
import Derived.Test.YtjbloenjphpngaaJx6
import Derived.Test.YtjbloenjphpngaaJx3
import Derived.Test.YtjbloenjphpngaaJx4
import Derived.Test.YtjbloenjphpngaaJx12
import Derived.Test.YtjbloenjphpngaaJx17
import Derived.Test.YtjbloenjphpngaaJx16
import Derived.Test.YtjbloenjphpngaaJx24
import Derived.Test.YtjbloenjphpngaaJx33
import Derived.Test.YtjbloenjphpngaaJx34
import Derived.Test.YtjbloenjphpngaaJx19
import Derived.Test.YtjbloenjphpngaaJx42
import Derived.Test.YtjbloenjphpngaaJx37
import Derived.Test.YtjbloenjphpngaaJx43
namespace Go.Proofs.Ytjbloenjphpngaa
set_option linter.unusedVariables false
set_option linter.unusedSimpArgs false
open Go.RowKit
attribute [local go_sem ↓] Go.wp_at_zero Go.wp_at_succ
open Go.Deep

/-- a new list of tables -/
def NewD (ts : List (List (List Int))) (w : World) (e : Ending) (w' : World) : Prop := ∃ v, e = .returned v ∧ GrowD 24 w.heap.size w' v ts ∧ Ext w w'
/-- a new table t -/
def NewTN (t : List (List Int)) (n : Nat) (w : World) (e : Ending) (w' : World) : Prop := ∃ b c, e = .returned (.slice (some ⟨b, 0, none⟩) n c) ∧ OwnT w.heap.size w'.heap.size w' b 0 t ∧ Ext w w'
theorem NewT.n {t : List (List Int)} {n : Nat} {w : World} (h : t.length = n) {e : Ending} {w' : World} (k : NewT t w e w') : NewTN t n w e w' := by
  obtain ⟨b, c, h1, h2, h3⟩ := k
  exact ⟨b, c, by rw [← h]; exact h1, h2, h3⟩
theorem cyc_call (n : Nat) (h1 : 1 ≤ n) (h2 : n ≤ 12) (w : World) : Calls Try.prog 60 #[.int .i64 n] w (NewTN (cyT n) n w) :=
  (l10Cyclic_own n w h1 h2).mono fun _ _ h => NewT.n (length_cyT n) (by rw [← cyT_eq]; exact h)
theorem dbl_call (n s : Nat) (h1 : 1 ≤ n) (h2 : n ≤ 12) (h3 : s ≤ 12) (w : World) : Calls Try.prog 62 #[.int .i64 n, .int .i64 s] w (NewTN (dbT n s) (2 * n) w) :=
  (l10Double_own n s w h1 h2 h3).mono fun _ _ h => NewT.n (length_dbT n s) (by rw [← dbT_eq]; exact h)
theorem prod_call (a b : List (List Int)) (n m N : Nat) (va vb : Value) (ha : TableOk a) (hb : TableOk b) (hn : a.length = n) (hm : b.length = m) (hN : N = n * m) (h12 : N ≤ 12) (w : World) (h1 : Rows w va a) (h2 : Rows w vb b) : Calls Try.prog 61 #[va, vb] w (NewTN (prodT a b) N w) :=
  (l04Product_own a b va vb w N (by rw [hn, hm]; exact hN) h12 h1 h2 ha hb).mono fun _ _ h => NewT.n (by rw [length_prodT, hn, hm, hN]) (by rw [← prodT_eq a b (N := N) (by rw [hn, hm]; exact hN)]; exact h)
theorem OwnT.rowsN {lo hi : Nat} {w : World} {b n c : Nat} {t : List (List Int)} (h : OwnT lo hi w b 0 t) (hs : Small t) (hn : t.length = n) : Rows w (.slice (some ⟨b, 0, none⟩) n c) t := by
  subst hn
  exact (h.rowsAt hs).rows hs.1 c
/-- one table for an append -/
theorem TabsV.oneN {w : World} {base lo hi b c n : Nat} {t : List (List Int)} (h : OwnT lo hi w b 0 t) (hs : Small t) (h1 : base ≤ lo) (h2 : hi ≤ w.heap.size) (hn : t.length = n) : TabsV w base [.slice (some ⟨b, 0, none⟩) n c] [t] [(lo, hi)] := by
  subst hn
  exact TabsV.cons h hs h1 h2 (TabsV.nil w base)
theorem GrowD.oneN {e base : Nat} {w : World} {lo hi b c n : Nat} {t : List (List Int)} (h : OwnT lo hi w b 0 t) (hs : Small t) (h1 : base ≤ lo) (h2 : hi ≤ w.heap.size) (hb : base ≤ w.heap.size) (hn : t.length = n) :
    GrowD e base (w.alloc (.cells #[.slice (some ⟨b, 0, none⟩) n c] e)) (.slice (some ⟨w.heap.size, 0, none⟩) 1 1) [t] := by
  subst hn
  exact GrowD.one h hs h1 h2 hb
theorem namedL_plain {n : Nat} (h : n = 1 ∨ n = 2 ∨ n = 3 ∨ n = 5 ∨ n = 7 ∨ n = 11) : namedL n = [cyT n] := by
  rcases h with rfl | rfl | rfl | rfl | rfl | rfl <;> rfl
theorem cells_one {w : World} {x : Value} {t : TypeId} : ∀ j u, [x][j]? = some u → (w.alloc (.cells #[x] t)).cell? ⟨w.heap.size, j, none⟩ = some u := by
  intro j u hj
  have := cell_one_new w x t j u hj
  rw [Addr.add_lit, Nat.zero_add] at this
  exact this

theorem cells_two {w : World} {x y : Value} {t : TypeId} : ∀ j u, [x, y][j]? = some u → (w.alloc (.cells #[x, y] t)).cell? ⟨w.heap.size, j, none⟩ = some u := by
  intro j u hj
  match j, hj with
  | 0, hj => simp at hj; subst hj; simp [go_sem]
  | 1, hj => simp at hj; subst hj; simp [go_sem]
theorem cells_four {w : World} {x y z u : Value} {t : TypeId} : ∀ j o, [x, y, z, u][j]? = some o → (w.alloc (.cells #[x, y, z, u] t)).cell? ⟨w.heap.size, j, none⟩ = some o := by
  intro j o hj
  match j, hj with
  | 0, hj => simp at hj; subst hj; simp [go_sem]
  | 1, hj => simp at hj; subst hj; simp [go_sem]
  | 2, hj => simp at hj; subst hj; simp [go_sem]
  | 3, hj => simp at hj; subst hj; simp [go_sem]

set_option maxRecDepth 100000 in
set_option maxHeartbeats 1000000 in
theorem l10Named_plain (n : Nat) (w : World) (h : n = 1 ∨ n = 2 ∨ n = 3 ∨ n = 5 ∨ n = 7 ∨ n = 11) : Calls Try.prog 33 #[.int .i64 n] w (NewD (namedL n) w) := by
  rw [namedL_plain h]
  have HC := Lib.hid (fun w => cyc_call n (by omega) (by omega) w)
  have HS := Lib.hid (small_cyT (n := n) (by omega))
  have HL := Lib.hid (length_cyT n)
  rcases h with rfl | rfl | rfl | rfl | rfl | rfl
  all_goals
    go_enter Try.func33, Try.ntmps33
    go_wp2_with fail
    refine (HC.out _).mono ?_
    rintro e w1 ⟨b1, c1, rfl, ho1, hx1⟩
    have HG := Lib.hid (GrowD.oneN (e := 24) (c := c1) ho1 HS.out (Nat.le_refl _) (Nat.le_refl _) hx1.size HL.out)
    have HX := Lib.hid hx1
    clear ho1 hx1
    go_wp2_with fail
    go_ret
    exact ⟨_, rfl, HG.out, HX.out.alloc _⟩
end Go.Proofs.Ytjbloenjphpngaa

/-
  Contract of the reference's l10Named, orders with several groups.
-/
namespace Go.Proofs.Ytjbloenjphpngaa
set_option linter.unusedVariables false
set_option linter.unusedSimpArgs false
open Go.RowKit
attribute [local go_sem ↓] Go.wp_at_zero Go.wp_at_succ
open Go.Deep

/-- the generators of the group of even permutations, laid -/
abbrev evenW (A : World) : World := ((A.alloc (.cells #[.int .i64 1, .int .i64 2, .int .i64 0, .int .i64 3] 2)).alloc (.cells #[.int .i64 0, .int .i64 2, .int .i64 3, .int .i64 1] 2)).alloc (.cells #[.slice (some ⟨A.heap.size, 0, none⟩) 4 4, .slice (some ⟨A.heap.size + 1, 0, none⟩) 4 4] 28)
theorem even_ext (A : World) : Ext A (evenW A) := (((Ext.refl A).alloc _).alloc _).alloc _
theorem even_rows (A : World) : Rows (evenW A) (.slice (some ⟨A.heap.size + 1 + 1, 0, none⟩) 2 2) evenE := by
  refine ⟨by decide, _, 0, 2, rfl, fun i hi => ?_⟩
  match i, hi with
  | 0, hi => 
    refine ⟨.slice (some ⟨A.heap.size, 0, none⟩) 4 4, by simp [go_sem], by decide +kernel, _, 0, 4, by rw [row_eq]; rfl, fun j hj => ?_⟩
    have hj4 : j < 4 := by
      have e : (row evenE 0).length = 4 := by rw [row_eq]; rfl
      omega
    match j, hj4 with
    | 0, _ => simp [go_sem, evenE, row_eq, ix_eq]
    | 1, _ => simp [go_sem, evenE, row_eq, ix_eq]
    | 2, _ => simp [go_sem, evenE, row_eq, ix_eq]
    | 3, _ => simp [go_sem, evenE, row_eq, ix_eq]
  | 1, hi =>
    refine ⟨.slice (some ⟨A.heap.size + 1, 0, none⟩) 4 4, by simp [go_sem], by decide +kernel, _, 0, 4, by rw [row_eq]; rfl, fun j hj => ?_⟩
    have hj4 : j < 4 := by
      have e : (row evenE 1).length = 4 := by rw [row_eq]; rfl
      omega
    match j, hj4 with
    | 0, _ => simp [go_sem, evenE, row_eq, ix_eq]
    | 1, _ => simp [go_sem, evenE, row_eq, ix_eq]
    | 2, _ => simp [go_sem, evenE, row_eq, ix_eq]
    | 3, _ => simp [go_sem, evenE, row_eq, ix_eq]

set_option maxRecDepth 100000 in
set_option maxHeartbeats 1000000 in
theorem l10Named_four (w : World) : Calls Try.prog 33 #[.int .i64 4] w (NewD (namedL 4) w) := by
  go_enter Try.func33, Try.ntmps33
  go_wp2_with fail
  refine (cyc_call 4 (by omega) (by omega) _).mono ?_
  rintro e w1 ⟨b1, c1, rfl, ho, hx⟩
  have z1 := hx.size
  have HG := Lib.hid (GrowD.oneN (e := 24) (c := c1) (n := 4) ho (small_cyT (n := 4) (by omega)) (Nat.le_refl _) (Nat.le_refl _) hx.size (length_cyT 4))
  have HX := Lib.hid (hx.alloc (.cells #[.slice (some ⟨b1, 0, none⟩) 4 c1] 24))
  clear ho hx
  go_wp2_with fail
  generalize (w1.alloc (.cells #[.slice (some ⟨b1, 0, none⟩) 4 c1] 24)) = A at *
  have HXC := Lib.hid (Ext.refl A)
  refine (cyc_call 2 (by omega) (by omega) _).mono ?_
  rintro e w2 ⟨b2, c2, rfl, ho, hx⟩
  have z2 := hx.size
  have HXC := Lib.hid (HXC.out.trans hx)
  have T2 := Lib.hid (TabsV.oneN (base := A.heap.size) (c := c2) (n := 2) ho (small_cyT (n := 2) (by omega)) (by omega) (Nat.le_refl _) (length_cyT 2))
  have R2 := Lib.hid (ho.rowsN (c := c2) (n := 2) (small_cyT (n := 2) (by omega)) (length_cyT 2))
  clear ho hx
  go_wp2_with fail
  refine (cyc_call 2 (by omega) (by omega) _).mono ?_
  rintro e w3 ⟨b3, c3, rfl, ho, hx⟩
  have z3 := hx.size
  have HXC := Lib.hid (HXC.out.trans hx)
  have T2 := Lib.hid (T2.out.ext hx)
  have R2 := Lib.hid (R2.out.ext hx)
  have T3 := Lib.hid (TabsV.oneN (base := A.heap.size) (c := c3) (n := 2) ho (small_cyT (n := 2) (by omega)) (by omega) (Nat.le_refl _) (length_cyT 2))
  have R3 := Lib.hid (ho.rowsN (c := c3) (n := 2) (small_cyT (n := 2) (by omega)) (length_cyT 2))
  clear ho hx
  go_wp2_with fail
  refine (prod_call (cyT 2) (cyT 2) 2 2 4 _ _ cy2_ok cy2_ok (by simp [length_prodT, length_cyT]) (by simp [length_prodT, length_cyT]) rfl (by omega) _ R2.out R3.out).mono ?_
  rintro e w4 ⟨b4, c4, rfl, ho, hx⟩
  have z4 := hx.size
  have HXC := Lib.hid (HXC.out.trans hx)
  have T2 := Lib.hid (T2.out.ext hx)
  have T3 := Lib.hid (T3.out.ext hx)
  have R2 := Lib.hid (R2.out.ext hx)
  have R3 := Lib.hid (R3.out.ext hx)
  have T4 := Lib.hid (TabsV.oneN (base := A.heap.size) (c := c4) (n := 4) ho (small_prodT (by simp [length_prodT, length_cyT])) (by omega) (Nat.le_refl _) (by simp [length_prodT, length_cyT]))
  have R4 := Lib.hid (ho.rowsN (c := c4) (n := 4) (small_prodT (by simp [length_prodT, length_cyT])) (by simp [length_prodT, length_cyT]))
  clear ho hx
  go_wp2_with (at_builtin; refine wpList_append_tabs rfl _ _ 53 24 rfl Try.underlying53 infoSl2 rfl w.heap.size _ _ rfl HG.out (HXC.out.trans (ext_box _ _ _)) _ 1 [.slice (some ⟨b4, 0, none⟩) 4 c4] [(prodT (cyT 2) (cyT 2))] _ rfl rfl cells_one ((T4.out).ext (ext_box _ _ _)) (by simp [Apart]) (by simp) HX.out.size ?_)
  intro v5 A5 hg hgr hat
  have HX := Lib.hid (show Ext w A5 from ext_grownBy (HX.out.trans (HXC.out.trans ((Ext.refl _).alloc _))) hgr (fun k e => (HG.out.lt k e).1))
  have HG := Lib.hid hg
  clear hgr hat hg HXC T2 R2 T3 R3 T4 R4
  obtain ⟨g5, d5, rfl⟩ := HG.out.slice (by simp)
  go_wp2_with fail
  go_ret
  exact ⟨_, rfl, HG.out, HX.out⟩

set_option maxRecDepth 100000 in
set_option maxHeartbeats 1000000 in
theorem l10Named_six (w : World) : Calls Try.prog 33 #[.int .i64 6] w (NewD (namedL 6) w) := by
  go_enter Try.func33, Try.ntmps33
  go_wp2_with fail
  refine (cyc_call 6 (by omega) (by omega) _).mono ?_
  rintro e w1 ⟨b1, c1, rfl, ho, hx⟩
  have z1 := hx.size
  have HG := Lib.hid (GrowD.oneN (e := 24) (c := c1) (n := 6) ho (small_cyT (n := 6) (by omega)) (Nat.le_refl _) (Nat.le_refl _) hx.size (length_cyT 6))
  have HX := Lib.hid (hx.alloc (.cells #[.slice (some ⟨b1, 0, none⟩) 6 c1] 24))
  clear ho hx
  go_wp2_with fail
  generalize (w1.alloc (.cells #[.slice (some ⟨b1, 0, none⟩) 6 c1] 24)) = A at *
  have HXC := Lib.hid (Ext.refl A)
  refine (dbl_call 3 0 (by omega) (by omega) (by omega) _).mono ?_
  rintro e w2 ⟨b2, c2, rfl, ho, hx⟩
  have z2 := hx.size
  have HXC := Lib.hid (HXC.out.trans hx)
  have T2 := Lib.hid (TabsV.oneN (base := A.heap.size) (c := c2) (n := 6) ho (small_dbT (n := 3) (s := 0) (by omega)) (by omega) (Nat.le_refl _) (length_dbT 3 0))
  have R2 := Lib.hid (ho.rowsN (c := c2) (n := 6) (small_dbT (n := 3) (s := 0) (by omega)) (length_dbT 3 0))
  clear ho hx
  go_wp2_with (at_builtin; refine wpList_append_tabs rfl _ _ 53 24 rfl Try.underlying53 infoSl2 rfl w.heap.size _ _ rfl HG.out (HXC.out.trans (ext_box _ _ _)) _ 1 [.slice (some ⟨b2, 0, none⟩) 6 c2] [(dbT 3 0)] _ rfl rfl cells_one ((T2.out).ext (ext_box _ _ _)) (by simp [Apart]) (by simp) HX.out.size ?_)
  intro v3 A3 hg hgr hat
  have HX := Lib.hid (show Ext w A3 from ext_grownBy (HX.out.trans (HXC.out.trans ((Ext.refl _).alloc _))) hgr (fun k e => (HG.out.lt k e).1))
  have HG := Lib.hid hg
  clear hgr hat hg HXC T2 R2
  obtain ⟨g3, d3, rfl⟩ := HG.out.slice (by simp)
  go_wp2_with fail
  go_ret
  exact ⟨_, rfl, HG.out, HX.out⟩

set_option maxRecDepth 100000 in
set_option maxHeartbeats 1000000 in
theorem l10Named_ten (w : World) : Calls Try.prog 33 #[.int .i64 10] w (NewD (namedL 10) w) := by
  go_enter Try.func33, Try.ntmps33
  go_wp2_with fail
  refine (cyc_call 10 (by omega) (by omega) _).mono ?_
  rintro e w1 ⟨b1, c1, rfl, ho, hx⟩
  have z1 := hx.size
  have HG := Lib.hid (GrowD.oneN (e := 24) (c := c1) (n := 10) ho (small_cyT (n := 10) (by omega)) (Nat.le_refl _) (Nat.le_refl _) hx.size (length_cyT 10))
  have HX := Lib.hid (hx.alloc (.cells #[.slice (some ⟨b1, 0, none⟩) 10 c1] 24))
  clear ho hx
  go_wp2_with fail
  generalize (w1.alloc (.cells #[.slice (some ⟨b1, 0, none⟩) 10 c1] 24)) = A at *
  have HXC := Lib.hid (Ext.refl A)
  refine (dbl_call 5 0 (by omega) (by omega) (by omega) _).mono ?_
  rintro e w2 ⟨b2, c2, rfl, ho, hx⟩
  have z2 := hx.size
  have HXC := Lib.hid (HXC.out.trans hx)
  have T2 := Lib.hid (TabsV.oneN (base := A.heap.size) (c := c2) (n := 10) ho (small_dbT (n := 5) (s := 0) (by omega)) (by omega) (Nat.le_refl _) (length_dbT 5 0))
  have R2 := Lib.hid (ho.rowsN (c := c2) (n := 10) (small_dbT (n := 5) (s := 0) (by omega)) (length_dbT 5 0))
  clear ho hx
  go_wp2_with (at_builtin; refine wpList_append_tabs rfl _ _ 53 24 rfl Try.underlying53 infoSl2 rfl w.heap.size _ _ rfl HG.out (HXC.out.trans (ext_box _ _ _)) _ 1 [.slice (some ⟨b2, 0, none⟩) 10 c2] [(dbT 5 0)] _ rfl rfl cells_one ((T2.out).ext (ext_box _ _ _)) (by simp [Apart]) (by simp) HX.out.size ?_)
  intro v3 A3 hg hgr hat
  have HX := Lib.hid (show Ext w A3 from ext_grownBy (HX.out.trans (HXC.out.trans ((Ext.refl _).alloc _))) hgr (fun k e => (HG.out.lt k e).1))
  have HG := Lib.hid hg
  clear hgr hat hg HXC T2 R2
  obtain ⟨g3, d3, rfl⟩ := HG.out.slice (by simp)
  go_wp2_with fail
  go_ret
  exact ⟨_, rfl, HG.out, HX.out⟩

set_option maxRecDepth 100000 in
set_option maxHeartbeats 1000000 in
theorem l10Named_nine (w : World) : Calls Try.prog 33 #[.int .i64 9] w (NewD (namedL 9) w) := by
  go_enter Try.func33, Try.ntmps33
  go_wp2_with fail
  refine (cyc_call 9 (by omega) (by omega) _).mono ?_
  rintro e w1 ⟨b1, c1, rfl, ho, hx⟩
  have z1 := hx.size
  have HG := Lib.hid (GrowD.oneN (e := 24) (c := c1) (n := 9) ho (small_cyT (n := 9) (by omega)) (Nat.le_refl _) (Nat.le_refl _) hx.size (length_cyT 9))
  have HX := Lib.hid (hx.alloc (.cells #[.slice (some ⟨b1, 0, none⟩) 9 c1] 24))
  clear ho hx
  go_wp2_with fail
  generalize (w1.alloc (.cells #[.slice (some ⟨b1, 0, none⟩) 9 c1] 24)) = A at *
  have HXC := Lib.hid (Ext.refl A)
  refine (cyc_call 3 (by omega) (by omega) _).mono ?_
  rintro e w2 ⟨b2, c2, rfl, ho, hx⟩
  have z2 := hx.size
  have HXC := Lib.hid (HXC.out.trans hx)
  have T2 := Lib.hid (TabsV.oneN (base := A.heap.size) (c := c2) (n := 3) ho (small_cyT (n := 3) (by omega)) (by omega) (Nat.le_refl _) (length_cyT 3))
  have R2 := Lib.hid (ho.rowsN (c := c2) (n := 3) (small_cyT (n := 3) (by omega)) (length_cyT 3))
  clear ho hx
  go_wp2_with fail
  refine (cyc_call 3 (by omega) (by omega) _).mono ?_
  rintro e w3 ⟨b3, c3, rfl, ho, hx⟩
  have z3 := hx.size
  have HXC := Lib.hid (HXC.out.trans hx)
  have T2 := Lib.hid (T2.out.ext hx)
  have R2 := Lib.hid (R2.out.ext hx)
  have T3 := Lib.hid (TabsV.oneN (base := A.heap.size) (c := c3) (n := 3) ho (small_cyT (n := 3) (by omega)) (by omega) (Nat.le_refl _) (length_cyT 3))
  have R3 := Lib.hid (ho.rowsN (c := c3) (n := 3) (small_cyT (n := 3) (by omega)) (length_cyT 3))
  clear ho hx
  go_wp2_with fail
  refine (prod_call (cyT 3) (cyT 3) 3 3 9 _ _ cy3_ok cy3_ok (by simp [length_prodT, length_cyT]) (by simp [length_prodT, length_cyT]) rfl (by omega) _ R2.out R3.out).mono ?_
  rintro e w4 ⟨b4, c4, rfl, ho, hx⟩
  have z4 := hx.size
  have HXC := Lib.hid (HXC.out.trans hx)
  have T2 := Lib.hid (T2.out.ext hx)
  have T3 := Lib.hid (T3.out.ext hx)
  have R2 := Lib.hid (R2.out.ext hx)
  have R3 := Lib.hid (R3.out.ext hx)
  have T4 := Lib.hid (TabsV.oneN (base := A.heap.size) (c := c4) (n := 9) ho (small_prodT (by simp [length_prodT, length_cyT])) (by omega) (Nat.le_refl _) (by simp [length_prodT, length_cyT]))
  have R4 := Lib.hid (ho.rowsN (c := c4) (n := 9) (small_prodT (by simp [length_prodT, length_cyT])) (by simp [length_prodT, length_cyT]))
  clear ho hx
  go_wp2_with (at_builtin; refine wpList_append_tabs rfl _ _ 53 24 rfl Try.underlying53 infoSl2 rfl w.heap.size _ _ rfl HG.out (HXC.out.trans (ext_box _ _ _)) _ 1 [.slice (some ⟨b4, 0, none⟩) 9 c4] [(prodT (cyT 3) (cyT 3))] _ rfl rfl cells_one ((T4.out).ext (ext_box _ _ _)) (by simp [Apart]) (by simp) HX.out.size ?_)
  intro v5 A5 hg hgr hat
  have HX := Lib.hid (show Ext w A5 from ext_grownBy (HX.out.trans (HXC.out.trans ((Ext.refl _).alloc _))) hgr (fun k e => (HG.out.lt k e).1))
  have HG := Lib.hid hg
  clear hgr hat hg HXC T2 R2 T3 R3 T4 R4
  obtain ⟨g5, d5, rfl⟩ := HG.out.slice (by simp)
  go_wp2_with fail
  go_ret
  exact ⟨_, rfl, HG.out, HX.out⟩

set_option maxRecDepth 100000 in
set_option maxHeartbeats 1000000 in
theorem l10Named_eight (w : World) : Calls Try.prog 33 #[.int .i64 8] w (NewD (namedL 8) w) := by
  go_enter Try.func33, Try.ntmps33
  go_wp2_with fail
  refine (cyc_call 8 (by omega) (by omega) _).mono ?_
  rintro e w1 ⟨b1, c1, rfl, ho, hx⟩
  have z1 := hx.size
  have HG := Lib.hid (GrowD.oneN (e := 24) (c := c1) (n := 8) ho (small_cyT (n := 8) (by omega)) (Nat.le_refl _) (Nat.le_refl _) hx.size (length_cyT 8))
  have HX := Lib.hid (hx.alloc (.cells #[.slice (some ⟨b1, 0, none⟩) 8 c1] 24))
  clear ho hx
  go_wp2_with fail
  generalize (w1.alloc (.cells #[.slice (some ⟨b1, 0, none⟩) 8 c1] 24)) = A at *
  have HXC := Lib.hid (Ext.refl A)
  refine (cyc_call 2 (by omega) (by omega) _).mono ?_
  rintro e w2 ⟨b2, c2, rfl, ho, hx⟩
  have z2 := hx.size
  have HXC := Lib.hid (HXC.out.trans hx)
  have T2 := Lib.hid (TabsV.oneN (base := A.heap.size) (c := c2) (n := 2) ho (small_cyT (n := 2) (by omega)) (by omega) (Nat.le_refl _) (length_cyT 2))
  have R2 := Lib.hid (ho.rowsN (c := c2) (n := 2) (small_cyT (n := 2) (by omega)) (length_cyT 2))
  clear ho hx
  go_wp2_with fail
  refine (cyc_call 2 (by omega) (by omega) _).mono ?_
  rintro e w3 ⟨b3, c3, rfl, ho, hx⟩
  have z3 := hx.size
  have HXC := Lib.hid (HXC.out.trans hx)
  have T2 := Lib.hid (T2.out.ext hx)
  have R2 := Lib.hid (R2.out.ext hx)
  have T3 := Lib.hid (TabsV.oneN (base := A.heap.size) (c := c3) (n := 2) ho (small_cyT (n := 2) (by omega)) (by omega) (Nat.le_refl _) (length_cyT 2))
  have R3 := Lib.hid (ho.rowsN (c := c3) (n := 2) (small_cyT (n := 2) (by omega)) (length_cyT 2))
  clear ho hx
  go_wp2_with fail
  refine (prod_call (cyT 2) (cyT 2) 2 2 4 _ _ cy2_ok cy2_ok (by simp [length_prodT, length_cyT]) (by simp [length_prodT, length_cyT]) rfl (by omega) _ R2.out R3.out).mono ?_
  rintro e w4 ⟨b4, c4, rfl, ho, hx⟩
  have z4 := hx.size
  have HXC := Lib.hid (HXC.out.trans hx)
  have T2 := Lib.hid (T2.out.ext hx)
  have T3 := Lib.hid (T3.out.ext hx)
  have R2 := Lib.hid (R2.out.ext hx)
  have R3 := Lib.hid (R3.out.ext hx)
  have T4 := Lib.hid (TabsV.oneN (base := A.heap.size) (c := c4) (n := 4) ho (small_prodT (by simp [length_prodT, length_cyT])) (by omega) (Nat.le_refl _) (by simp [length_prodT, length_cyT]))
  have R4 := Lib.hid (ho.rowsN (c := c4) (n := 4) (small_prodT (by simp [length_prodT, length_cyT])) (by simp [length_prodT, length_cyT]))
  clear ho hx
  go_wp2_with fail
  refine (cyc_call 2 (by omega) (by omega) _).mono ?_
  rintro e w5 ⟨b5, c5, rfl, ho, hx⟩
  have z5 := hx.size
  have HXC := Lib.hid (HXC.out.trans hx)
  have T2 := Lib.hid (T2.out.ext hx)
  have T3 := Lib.hid (T3.out.ext hx)
  have T4 := Lib.hid (T4.out.ext hx)
  have R2 := Lib.hid (R2.out.ext hx)
  have R3 := Lib.hid (R3.out.ext hx)
  have R4 := Lib.hid (R4.out.ext hx)
  have T5 := Lib.hid (TabsV.oneN (base := A.heap.size) (c := c5) (n := 2) ho (small_cyT (n := 2) (by omega)) (by omega) (Nat.le_refl _) (length_cyT 2))
  have R5 := Lib.hid (ho.rowsN (c := c5) (n := 2) (small_cyT (n := 2) (by omega)) (length_cyT 2))
  clear ho hx
  go_wp2_with fail
  refine (cyc_call 4 (by omega) (by omega) _).mono ?_
  rintro e w6 ⟨b6, c6, rfl, ho, hx⟩
  have z6 := hx.size
  have HXC := Lib.hid (HXC.out.trans hx)
  have T2 := Lib.hid (T2.out.ext hx)
  have T3 := Lib.hid (T3.out.ext hx)
  have T4 := Lib.hid (T4.out.ext hx)
  have T5 := Lib.hid (T5.out.ext hx)
  have R2 := Lib.hid (R2.out.ext hx)
  have R3 := Lib.hid (R3.out.ext hx)
  have R4 := Lib.hid (R4.out.ext hx)
  have R5 := Lib.hid (R5.out.ext hx)
  have T6 := Lib.hid (TabsV.oneN (base := A.heap.size) (c := c6) (n := 4) ho (small_cyT (n := 4) (by omega)) (by omega) (Nat.le_refl _) (length_cyT 4))
  have R6 := Lib.hid (ho.rowsN (c := c6) (n := 4) (small_cyT (n := 4) (by omega)) (length_cyT 4))
  clear ho hx
  go_wp2_with fail
  refine (prod_call (cyT 2) (cyT 4) 2 4 8 _ _ cy2_ok cy4_ok (by simp [length_prodT, length_cyT]) (by simp [length_prodT, length_cyT]) rfl (by omega) _ R5.out R6.out).mono ?_
  rintro e w7 ⟨b7, c7, rfl, ho, hx⟩
  have z7 := hx.size
  have HXC := Lib.hid (HXC.out.trans hx)
  have T2 := Lib.hid (T2.out.ext hx)
  have T3 := Lib.hid (T3.out.ext hx)
  have T4 := Lib.hid (T4.out.ext hx)
  have T5 := Lib.hid (T5.out.ext hx)
  have T6 := Lib.hid (T6.out.ext hx)
  have R2 := Lib.hid (R2.out.ext hx)
  have R3 := Lib.hid (R3.out.ext hx)
  have R4 := Lib.hid (R4.out.ext hx)
  have R5 := Lib.hid (R5.out.ext hx)
  have R6 := Lib.hid (R6.out.ext hx)
  have T7 := Lib.hid (TabsV.oneN (base := A.heap.size) (c := c7) (n := 8) ho (small_prodT (by simp [length_prodT, length_cyT])) (by omega) (Nat.le_refl _) (by simp [length_prodT, length_cyT]))
  have R7 := Lib.hid (ho.rowsN (c := c7) (n := 8) (small_prodT (by simp [length_prodT, length_cyT])) (by simp [length_prodT, length_cyT]))
  clear ho hx
  go_wp2_with fail
  refine (cyc_call 2 (by omega) (by omega) _).mono ?_
  rintro e w8 ⟨b8, c8, rfl, ho, hx⟩
  have z8 := hx.size
  have HXC := Lib.hid (HXC.out.trans hx)
  have T2 := Lib.hid (T2.out.ext hx)
  have T3 := Lib.hid (T3.out.ext hx)
  have T4 := Lib.hid (T4.out.ext hx)
  have T5 := Lib.hid (T5.out.ext hx)
  have T6 := Lib.hid (T6.out.ext hx)
  have T7 := Lib.hid (T7.out.ext hx)
  have R2 := Lib.hid (R2.out.ext hx)
  have R3 := Lib.hid (R3.out.ext hx)
  have R4 := Lib.hid (R4.out.ext hx)
  have R5 := Lib.hid (R5.out.ext hx)
  have R6 := Lib.hid (R6.out.ext hx)
  have R7 := Lib.hid (R7.out.ext hx)
  have T8 := Lib.hid (TabsV.oneN (base := A.heap.size) (c := c8) (n := 2) ho (small_cyT (n := 2) (by omega)) (by omega) (Nat.le_refl _) (length_cyT 2))
  have R8 := Lib.hid (ho.rowsN (c := c8) (n := 2) (small_cyT (n := 2) (by omega)) (length_cyT 2))
  clear ho hx
  go_wp2_with fail
  refine (prod_call (cyT 2) (prodT (cyT 2) (cyT 2)) 2 4 8 _ _ cy2_ok four_ok (by simp [length_prodT, length_cyT]) (by simp [length_prodT, length_cyT]) rfl (by omega) _ R8.out R4.out).mono ?_
  rintro e w9 ⟨b9, c9, rfl, ho, hx⟩
  have z9 := hx.size
  have HXC := Lib.hid (HXC.out.trans hx)
  have T2 := Lib.hid (T2.out.ext hx)
  have T3 := Lib.hid (T3.out.ext hx)
  have T4 := Lib.hid (T4.out.ext hx)
  have T5 := Lib.hid (T5.out.ext hx)
  have T6 := Lib.hid (T6.out.ext hx)
  have T7 := Lib.hid (T7.out.ext hx)
  have T8 := Lib.hid (T8.out.ext hx)
  have R2 := Lib.hid (R2.out.ext hx)
  have R3 := Lib.hid (R3.out.ext hx)
  have R4 := Lib.hid (R4.out.ext hx)
  have R5 := Lib.hid (R5.out.ext hx)
  have R6 := Lib.hid (R6.out.ext hx)
  have R7 := Lib.hid (R7.out.ext hx)
  have R8 := Lib.hid (R8.out.ext hx)
  have T9 := Lib.hid (TabsV.oneN (base := A.heap.size) (c := c9) (n := 8) ho (small_prodT (by simp [length_prodT, length_cyT])) (by omega) (Nat.le_refl _) (by simp [length_prodT, length_cyT]))
  have R9 := Lib.hid (ho.rowsN (c := c9) (n := 8) (small_prodT (by simp [length_prodT, length_cyT])) (by simp [length_prodT, length_cyT]))
  clear ho hx
  go_wp2_with (at_builtin; refine wpList_append_tabs rfl _ _ 53 24 rfl Try.underlying53 infoSl2 rfl w.heap.size _ _ rfl HG.out (HXC.out.trans ((Ext.refl _).alloc _)) _ 2 [.slice (some ⟨b7, 0, none⟩) 8 c7, .slice (some ⟨b9, 0, none⟩) 8 c9] [(prodT (cyT 2) (cyT 4)), (prodT (cyT 2) (prodT (cyT 2) (cyT 2)))] _ rfl rfl cells_two (((TabsV.append (T7.out) T9.out)).ext ((Ext.refl _).alloc _)) (by simp [Apart]; omega) (by simp) HX.out.size ?_)
  intro v10 A10 hg hgr hat
  have HX := Lib.hid (show Ext w A10 from ext_grownBy (HX.out.trans (HXC.out.trans ((Ext.refl _).alloc _))) hgr (fun k e => (HG.out.lt k e).1))
  have HG := Lib.hid hg
  clear hgr hat hg HXC T2 R2 T3 R3 T4 R4 T5 R5 T6 R6 T7 R7 T8 R8 T9 R9
  obtain ⟨g10, d10, rfl⟩ := HG.out.slice (by simp)
  go_wp2_with fail
  obtain ⟨A, hA⟩ : ∃ A, A = A10 := ⟨_, rfl⟩
  rw [← hA] at HG HX
  rw [← hA]
  clear hA
  have HXC := Lib.hid (Ext.refl A)
  refine (dbl_call 4 0 (by omega) (by omega) (by omega) _).mono ?_
  rintro e w11 ⟨b11, c11, rfl, ho, hx⟩
  have z11 := hx.size
  have HXC := Lib.hid (HXC.out.trans hx)
  have T11 := Lib.hid (TabsV.oneN (base := A.heap.size) (c := c11) (n := 8) ho (small_dbT (n := 4) (s := 0) (by omega)) (by omega) (Nat.le_refl _) (length_dbT 4 0))
  have R11 := Lib.hid (ho.rowsN (c := c11) (n := 8) (small_dbT (n := 4) (s := 0) (by omega)) (length_dbT 4 0))
  clear ho hx
  go_wp2_with (at_builtin; refine wpList_append_tabs rfl _ _ 53 24 rfl Try.underlying53 infoSl2 rfl w.heap.size _ _ rfl HG.out (HXC.out.trans (ext_box _ _ _)) _ 1 [.slice (some ⟨b11, 0, none⟩) 8 c11] [(dbT 4 0)] _ rfl rfl cells_one ((T11.out).ext (ext_box _ _ _)) (by simp [Apart]) (by simp) HX.out.size ?_)
  intro v12 A12 hg hgr hat
  have HX := Lib.hid (show Ext w A12 from ext_grownBy (HX.out.trans (HXC.out.trans ((Ext.refl _).alloc _))) hgr (fun k e => (HG.out.lt k e).1))
  have HG := Lib.hid hg
  clear hgr hat hg HXC T11 R11
  obtain ⟨g12, d12, rfl⟩ := HG.out.slice (by simp)
  go_wp2_with fail
  obtain ⟨A, hA⟩ : ∃ A, A = A12 := ⟨_, rfl⟩
  rw [← hA] at HG HX
  rw [← hA]
  clear hA
  have HXC := Lib.hid (Ext.refl A)
  refine (dbl_call 4 2 (by omega) (by omega) (by omega) _).mono ?_
  rintro e w13 ⟨b13, c13, rfl, ho, hx⟩
  have z13 := hx.size
  have HXC := Lib.hid (HXC.out.trans hx)
  have T13 := Lib.hid (TabsV.oneN (base := A.heap.size) (c := c13) (n := 8) ho (small_dbT (n := 4) (s := 2) (by omega)) (by omega) (Nat.le_refl _) (length_dbT 4 2))
  have R13 := Lib.hid (ho.rowsN (c := c13) (n := 8) (small_dbT (n := 4) (s := 2) (by omega)) (length_dbT 4 2))
  clear ho hx
  go_wp2_with (at_builtin; refine wpList_append_tabs rfl _ _ 53 24 rfl Try.underlying53 infoSl2 rfl w.heap.size _ _ rfl HG.out (HXC.out.trans (ext_box _ _ _)) _ 1 [.slice (some ⟨b13, 0, none⟩) 8 c13] [(dbT 4 2)] _ rfl rfl cells_one ((T13.out).ext (ext_box _ _ _)) (by simp [Apart]) (by simp) HX.out.size ?_)
  intro v14 A14 hg hgr hat
  have HX := Lib.hid (show Ext w A14 from ext_grownBy (HX.out.trans (HXC.out.trans ((Ext.refl _).alloc _))) hgr (fun k e => (HG.out.lt k e).1))
  have HG := Lib.hid hg
  clear hgr hat hg HXC T13 R13
  obtain ⟨g14, d14, rfl⟩ := HG.out.slice (by simp)
  go_wp2_with fail
  go_ret
  exact ⟨_, rfl, HG.out, HX.out⟩
end Go.Proofs.Ytjbloenjphpngaa

/-
  Contract of the reference's l10Named, order 12.
-/
namespace Go.Proofs.Ytjbloenjphpngaa
set_option linter.unusedVariables false
set_option linter.unusedSimpArgs false
open Go.RowKit
attribute [local go_sem ↓] Go.wp_at_zero Go.wp_at_succ
open Go.Deep

theorem cells_oneN {w : World} {x : Value} {t : TypeId} {g : Nat} (hg : g = w.heap.size) : ∀ j u, [x][j]? = some u → (w.alloc (.cells #[x] t)).cell? ⟨g, j, none⟩ = some u := by
  subst hg
  exact cells_one

set_option maxRecDepth 100000 in
set_option maxHeartbeats 1000000 in
theorem l10Named_twelve (w : World) : Calls Try.prog 33 #[.int .i64 12] w (NewD (namedL 12) w) := by
  go_enter Try.func33, Try.ntmps33
  go_wp2_with fail
  refine (cyc_call 12 (by omega) (by omega) _).mono ?_
  rintro e w1 ⟨b1, c1, rfl, ho, hx⟩
  have z1 := hx.size
  have HG := Lib.hid (GrowD.oneN (e := 24) (c := c1) (n := 12) ho (small_cyT (n := 12) (by omega)) (Nat.le_refl _) (Nat.le_refl _) hx.size (length_cyT 12))
  have HX := Lib.hid (hx.alloc (.cells #[.slice (some ⟨b1, 0, none⟩) 12 c1] 24))
  clear ho hx
  go_wp2_with fail
  generalize (w1.alloc (.cells #[.slice (some ⟨b1, 0, none⟩) 12 c1] 24)) = A at *
  have HXC := Lib.hid (Ext.refl A)
  refine (cyc_call 2 (by omega) (by omega) _).mono ?_
  rintro e w2 ⟨b2, c2, rfl, ho, hx⟩
  have z2 := hx.size
  have HXC := Lib.hid (HXC.out.trans hx)
  have T2 := Lib.hid (TabsV.oneN (base := A.heap.size) (c := c2) (n := 2) ho (small_cyT (n := 2) (by omega)) (by omega) (Nat.le_refl _) (length_cyT 2))
  have R2 := Lib.hid (ho.rowsN (c := c2) (n := 2) (small_cyT (n := 2) (by omega)) (length_cyT 2))
  clear ho hx
  go_wp2_with fail
  refine (cyc_call 6 (by omega) (by omega) _).mono ?_
  rintro e w3 ⟨b3, c3, rfl, ho, hx⟩
  have z3 := hx.size
  have HXC := Lib.hid (HXC.out.trans hx)
  have T2 := Lib.hid (T2.out.ext hx)
  have R2 := Lib.hid (R2.out.ext hx)
  have T3 := Lib.hid (TabsV.oneN (base := A.heap.size) (c := c3) (n := 6) ho (small_cyT (n := 6) (by omega)) (by omega) (Nat.le_refl _) (length_cyT 6))
  have R3 := Lib.hid (ho.rowsN (c := c3) (n := 6) (small_cyT (n := 6) (by omega)) (length_cyT 6))
  clear ho hx
  go_wp2_with fail
  refine (prod_call (cyT 2) (cyT 6) 2 6 12 _ _ cy2_ok cy6_ok (by simp [length_prodT, length_cyT]) (by simp [length_prodT, length_cyT]) rfl (by omega) _ R2.out R3.out).mono ?_
  rintro e w4 ⟨b4, c4, rfl, ho, hx⟩
  have z4 := hx.size
  have HXC := Lib.hid (HXC.out.trans hx)
  have T2 := Lib.hid (T2.out.ext hx)
  have T3 := Lib.hid (T3.out.ext hx)
  have R2 := Lib.hid (R2.out.ext hx)
  have R3 := Lib.hid (R3.out.ext hx)
  have T4 := Lib.hid (TabsV.oneN (base := A.heap.size) (c := c4) (n := 12) ho (small_prodT (by simp [length_prodT, length_cyT])) (by omega) (Nat.le_refl _) (by simp [length_prodT, length_cyT]))
  have R4 := Lib.hid (ho.rowsN (c := c4) (n := 12) (small_prodT (by simp [length_prodT, length_cyT])) (by simp [length_prodT, length_cyT]))
  clear ho hx
  go_wp2_with (at_builtin; refine wpList_append_tabs rfl _ _ 53 24 rfl Try.underlying53 infoSl2 rfl w.heap.size _ _ rfl HG.out (HXC.out.trans (ext_box _ _ _)) _ 1 [.slice (some ⟨b4, 0, none⟩) 12 c4] [(prodT (cyT 2) (cyT 6))] _ rfl rfl cells_one ((T4.out).ext (ext_box _ _ _)) (by simp [Apart]) (by simp) HX.out.size ?_)
  intro v5 A5 hg hgr hat
  have HX := Lib.hid (show Ext w A5 from ext_grownBy (HX.out.trans (HXC.out.trans ((Ext.refl _).alloc _))) hgr (fun k e => (HG.out.lt k e).1))
  have HG := Lib.hid hg
  clear hgr hat hg HXC T2 R2 T3 R3 T4 R4
  obtain ⟨g5, d5, rfl⟩ := HG.out.slice (by simp)
  go_wp2_with fail
  obtain ⟨A, hA⟩ : ∃ A, A = A5 := ⟨_, rfl⟩
  rw [← hA] at HG HX
  rw [← hA]
  clear hA
  have HXC := Lib.hid (Ext.refl A)
  refine (dbl_call 6 0 (by omega) (by omega) (by omega) _).mono ?_
  rintro e w6 ⟨b6, c6, rfl, ho, hx⟩
  have z6 := hx.size
  have HXC := Lib.hid (HXC.out.trans hx)
  have T6 := Lib.hid (TabsV.oneN (base := A.heap.size) (c := c6) (n := 12) ho (small_dbT (n := 6) (s := 0) (by omega)) (by omega) (Nat.le_refl _) (length_dbT 6 0))
  have R6 := Lib.hid (ho.rowsN (c := c6) (n := 12) (small_dbT (n := 6) (s := 0) (by omega)) (length_dbT 6 0))
  clear ho hx
  go_wp2_with (at_builtin; refine wpList_append_tabs rfl _ _ 53 24 rfl Try.underlying53 infoSl2 rfl w.heap.size _ _ rfl HG.out (HXC.out.trans (ext_box _ _ _)) _ 1 [.slice (some ⟨b6, 0, none⟩) 12 c6] [(dbT 6 0)] _ rfl rfl cells_one ((T6.out).ext (ext_box _ _ _)) (by simp [Apart]) (by simp) HX.out.size ?_)
  intro v7 A7 hg hgr hat
  have HX := Lib.hid (show Ext w A7 from ext_grownBy (HX.out.trans (HXC.out.trans ((Ext.refl _).alloc _))) hgr (fun k e => (HG.out.lt k e).1))
  have HG := Lib.hid hg
  clear hgr hat hg HXC T6 R6
  obtain ⟨g7, d7, rfl⟩ := HG.out.slice (by simp)
  go_wp2_with fail
  obtain ⟨A, hA⟩ : ∃ A, A = A7 := ⟨_, rfl⟩
  rw [← hA] at HG HX
  rw [← hA]
  clear hA
  have HXC := Lib.hid (Ext.refl A)
  refine (dbl_call 6 3 (by omega) (by omega) (by omega) _).mono ?_
  rintro e w8 ⟨b8, c8, rfl, ho, hx⟩
  have z8 := hx.size
  have HXC := Lib.hid (HXC.out.trans hx)
  have T8 := Lib.hid (TabsV.oneN (base := A.heap.size) (c := c8) (n := 12) ho (small_dbT (n := 6) (s := 3) (by omega)) (by omega) (Nat.le_refl _) (length_dbT 6 3))
  have R8 := Lib.hid (ho.rowsN (c := c8) (n := 12) (small_dbT (n := 6) (s := 3) (by omega)) (length_dbT 6 3))
  clear ho hx
  go_wp2_with (at_builtin; refine wpList_append_tabs rfl _ _ 53 24 rfl Try.underlying53 infoSl2 rfl w.heap.size _ _ rfl HG.out (HXC.out.trans (ext_box _ _ _)) _ 1 [.slice (some ⟨b8, 0, none⟩) 12 c8] [(dbT 6 3)] _ rfl rfl cells_one ((T8.out).ext (ext_box _ _ _)) (by simp [Apart]) (by simp) HX.out.size ?_)
  intro v9 A9 hg hgr hat
  have HX := Lib.hid (show Ext w A9 from ext_grownBy (HX.out.trans (HXC.out.trans ((Ext.refl _).alloc _))) hgr (fun k e => (HG.out.lt k e).1))
  have HG := Lib.hid hg
  clear hgr hat hg HXC T8 R8
  obtain ⟨g9, d9, rfl⟩ := HG.out.slice (by simp)
  go_wp2_with fail
  obtain ⟨A, hA⟩ : ∃ A, A = A9 := ⟨_, rfl⟩
  rw [← hA] at HG HX
  rw [← hA]
  clear hA
  have HXC := Lib.hid (Ext.refl A)
  have hxe : Ext A (((A.alloc (.cells #[.int .i64 1, .int .i64 2, .int .i64 0, .int .i64 3] 2)).alloc (.cells #[.int .i64 0, .int .i64 2, .int .i64 3, .int .i64 1] 2)).alloc (.cells #[.slice (some ⟨A.heap.size, 0, none⟩) 4 4, .slice (some ⟨A.heap.size + 1, 0, none⟩) 4 4] 28)) := even_ext A
  have hre : Rows (((A.alloc (.cells #[.int .i64 1, .int .i64 2, .int .i64 0, .int .i64 3] 2)).alloc (.cells #[.int .i64 0, .int .i64 2, .int .i64 3, .int .i64 1] 2)).alloc (.cells #[.slice (some ⟨A.heap.size, 0, none⟩) 4 4, .slice (some ⟨A.heap.size + 1, 0, none⟩) 4 4] 28)) (.slice (some ⟨A.heap.size + 1 + 1, 0, none⟩) 2 2) evenE := even_rows A
  generalize (((A.alloc (.cells #[.int .i64 1, .int .i64 2, .int .i64 0, .int .i64 3] 2)).alloc (.cells #[.int .i64 0, .int .i64 2, .int .i64 3, .int .i64 1] 2)).alloc (.cells #[.slice (some ⟨A.heap.size, 0, none⟩) 4 4, .slice (some ⟨A.heap.size + 1, 0, none⟩) 4 4] 28)) = E at *
  have zE := hxe.size
  have HXC := Lib.hid hxe
  clear hxe
  refine (GroupOfPermutations_own 4 evenE _ _ hre even_sys (by rw [even_len]; omega)).mono ?_
  rintro e w10 ⟨b10, c10, rfl, ho, hx⟩
  rw [length_even]
  have z10 := hx.size
  have HXC := Lib.hid ((HXC.out.trans hx).alloc (.cells #[.slice (some ⟨b10, 0, none⟩) 12 c10] 38))
  have T10 := Lib.hid ((TabsV.oneN (base := A.heap.size) (c := c10) (n := 12) ho small_even (by omega) (Nat.le_refl _) length_even).ext ((Ext.refl w10).alloc (.cells #[.slice (some ⟨b10, 0, none⟩) 12 c10] 38)))
  have R10 := T10
  clear ho hx hre
  have hcl := cell_new w10 (.slice (some ⟨b10, 0, none⟩) 12 c10) 38
  go_wp2_with (at_builtin; refine wpList_append_tabs rfl _ _ 53 24 rfl Try.underlying53 infoSl2 rfl w.heap.size _ _ rfl HG.out (HXC.out.trans (ext_box _ _ _)) _ 1 [.slice (some ⟨b10, 0, none⟩) 12 c10] [(gopV ((4 : Nat) : Int) evenE)] _ rfl rfl (cells_oneN (by simp)) ((T10.out).ext (ext_box _ _ _)) (by simp [Apart]) (by simp) HX.out.size ?_)
  intro v11 A11 hg hgr hat
  have HX := Lib.hid (show Ext w A11 from ext_grownBy (HX.out.trans (HXC.out.trans ((Ext.refl _).alloc _))) hgr (fun k e => (HG.out.lt k e).1))
  have HG := Lib.hid hg
  clear hgr hat hg HXC T10 R10
  obtain ⟨g11, d11, rfl⟩ := HG.out.slice (by simp)
  go_wp2_with fail
  go_ret
  exact ⟨_, rfl, HG.out, HX.out⟩

theorem l10Named_any (n : Nat) (h1 : 1 ≤ n) (h12 : n ≤ 12) (w : World) : Calls Try.prog 33 #[.int .i64 n] w (NewD (namedL n) w) := by
  have h : (n = 1 ∨ n = 2 ∨ n = 3 ∨ n = 5 ∨ n = 7 ∨ n = 11) ∨ n = 4 ∨ n = 6 ∨ n = 8 ∨ n = 9 ∨ n = 10 ∨ n = 12 := by omega
  rcases h with h | rfl | rfl | rfl | rfl | rfl | rfl
  · exact l10Named_plain n w h
  · exact l10Named_four w
  · exact l10Named_six w
  · exact l10Named_eight w
  · exact l10Named_nine w
  · exact l10Named_ten w
  · exact l10Named_twelve w
end Go.Proofs.Ytjbloenjphpngaa
