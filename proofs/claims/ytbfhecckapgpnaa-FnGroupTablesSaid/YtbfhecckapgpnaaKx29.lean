/-
  A table of the call's own that grows row by row: append in a walk; the reference's copy of a table is its own.
-/
import Derived.Test.YtbfhecckapgpnaaProg
import Derived.Deep.DeepCutAuto
import Derived.Deep.RegionWith
import Derived.Deep.RegionHeld3
import Derived.Deep.DrawnRows
import Derived.IntWalk
import Derived.Maps.AppendAt
import Derived.Test.YtbfhecckapgpnaaKx0
import Derived.Test.YtbfhecckapgpnaaKx1
import Derived.Test.YtbfhecckapgpnaaKx2
import Derived.Test.YtbfhecckapgpnaaKx8
import Derived.Test.YtbfhecckapgpnaaKx9
import Derived.Test.YtbfhecckapgpnaaKx7
import Derived.Test.YtbfhecckapgpnaaKx5
import Derived.Test.YtbfhecckapgpnaaKx10
import Derived.Test.YtbfhecckapgpnaaKx6
import Derived.Test.YtbfhecckapgpnaaKx13
import Derived.Test.YtbfhecckapgpnaaKx19
import Derived.Test.YtbfhecckapgpnaaKx28
import Derived.Test.YtbfhecckapgpnaaKx12
import Derived.Test.YtbfhecckapgpnaaKx14
namespace Go.Proofs.Ytbfhecckapgpnaa
set_option linter.unusedVariables false
set_option linter.unusedSimpArgs false
open Go.RowKit
open Go.Deep
attribute [local go_sem ↓] Go.wp_at_zero Go.wp_at_succ

/-- no block is a foreign one -/
abbrev NoO : Nat → Prop := fun _ => False
/-- append(v, r) at a slice of rows of the call's own -/
theorem wpList_append_row_mine {P : Program} {w1 w : World} {ops : Array Oper} {rest : List Oper} {o : Oper} {a : Act} {Q : Exit → Act → World → Prop} (hgd : o.guard = none) (s x : Operand) (t : TypeId)
    (ho : o.op = .call { callee := .builtin .append, args := #[s, x], argTypes := #[t, t] }) (ht : P.underlying t = some (.slice 45)) (hinfo : (P.info? 45).map (fun i => (i.zero, i.size, i.bytes)) = some (some (.slice none 0 0), 1, 24))
    (base : Nat) (v : Value) (tb : List (List Int)) (hs : a.eval s = v) (hown : MineT base NoO w1 v tb) (hx1 : Ext w1 w) (g : Nat) (br cr : Nat) (l : List Int) (hx : a.eval x = .slice (some ⟨g, 0, none⟩) 1 1) (hc : w.cell? ⟨g, 0, none⟩ = some (.slice (some ⟨br, 0, none⟩) l.length cr)) (hr : OwnI w1.heap.size w.heap.size w br 0 l)
    (hl : tb.length ≤ 1048576) (hbase : base ≤ w1.heap.size)
    (h : ∀ v' w', MineT base NoO w' v' (tb ++ [l]) → w.grownBy w' v.ownBlock → v' ≠ .slice none 0 0 → (v'.ownBlock = v.ownBlock ∨ v'.ownBlock = some w.heap.size) → wpList P ops Q rest (a.put o.dst v') w') : wpList P ops Q (o :: rest) a w := by
  obtain ⟨i0, hi, hz0, hz1, hz2⟩ := info_parts hinfo
  obtain ⟨xs, h1, h2⟩ := id hown
  have hz := hx1.size
  refine wpList_append_own_at w hgd s x t ho base _ i0 (.slice none 0 0) 1 24 ht hi hz0 hz1 hz2 rfl (by decide) v tb.length xs hs (ownsRow_ext h1 hx1) ⟨g, 0, none⟩ 1 1 [.slice (some ⟨br, 0, none⟩) l.length cr] hx rfl ?_ ?_ (by unfold maxLen; omega) (by omega) (by omega) ?_
  · intro j u hj
    match j, hj with
    | 0, hj => simp at hj; subst hj; simpa [Addr.add] using hc
  · intro u hu; simp at hu; subst hu; rfl
  · intro v' w' k1 k2 k3 k4
    refine h v' w' (MineT.app (c := cr) hown hx1 hr hbase (fun k e => e.elim) k2 k4 (fun vs hvs => ?_)) k2 (fun e => by have := k3.1 e; simp at this) k4
    have : vs = xs := (ownsRow_same hvs (ownsRow_ext h1 hx1))
    subst this
    simpa using k1

theorem OwnI.alloc1 {lo : Nat} {w : World} {b o : Nat} {l : List Int} {x : Obj} (h : OwnI lo w.heap.size w b o l) : OwnI lo (w.alloc x).heap.size (w.alloc x) b o l :=
  ⟨h.1, by have := h.2.1; simp; omega, ki_alloc h.2.2.1, fun i hi => kf_alloc h.2.1 (h.2.2.2 i hi)⟩
theorem MineT.lit {lo : Nat} {w : World} (hb : lo ≤ w.heap.size) : MineT lo NoO (w.alloc (.cells #[] 45)) (.slice (some ⟨w.heap.size, 0, none⟩) 0 0) [] :=
  ⟨[], World.ownsRow_made w #[] 0 hb (Nat.zero_le _) rfl, fun _ _ e => e.elim, fun _ => 0, fun _ => 0, fun i hi => by simp at hi, fun i j hi => by simp at hi⟩
theorem MineT.lt {lo : Nat} {W : World} {v : Value} {xs : List (List Int)} (h : MineT lo NoO W v xs) (k : Nat) (e : v.ownBlock = some k) : lo ≤ k ∧ k < W.heap.size := by
  obtain ⟨vs, h1, -⟩ := h
  exact h1.lt k e
/-- a table that has grown, at its end -/
theorem MineT.newT {lo : Nat} {w : World} {v : Value} {t : List (List Int)} (h : MineT lo NoO w v t) (hv : v ≠ .slice none 0 0) : ∃ b c, v = .slice (some ⟨b, 0, none⟩) t.length c ∧ OwnT lo w.heap.size w b 0 t := by
  obtain ⟨vs, h1, h2, B, C, h3, h4⟩ := h
  rcases id h1.2 with ⟨rfl, hn⟩ | ⟨g, cap, cur, rfl, hb, hg, rest⟩
  · exact absurd (by rfl) hv
  · refine ⟨g, cap, rfl, hb, (h1.lt g rfl).2, B, fun _ => 0, C, fun i hi => ?_, h4, fun i hi => by simp [World.frozen?, hg]⟩
    obtain ⟨g1, g2, g3, g4⟩ := h3 i hi
    have hc := World.ownsRow.cells h1 (g := g) rfl i _ g1
    rw [Addr.add_lit] at hc
    exact ⟨hc, g2, fun e => g4 (by rw [e]; rfl)⟩

set_option maxRecDepth 100000 in
theorem l01Own2_own (t : List (List Int)) (v : Value) (w : World) (hv : Rows w v t) :
    Calls Try.prog 120 #[v] w (NewT t w) := by
  obtain ⟨hlen, b, o, c, rfl, hc⟩ := id hv
  go_enter Try.func120, Try.ntmps120
  go_wp2
  have hx0 : Ext w (w.alloc (.cells #[] 45)) := (Ext.refl _).alloc _
  have hg0 := MineT.lit (lo := w.heap.size) (w := w) (Nat.le_refl _)
  go_loopw [3, 4] (fun v x wr => ∃ k : Nat, k ≤ t.length ∧ x = .int .i64 k ∧ MineT w.heap.size NoO wr v (t.take k) ∧ v ≠ .slice none 0 0 ∧ Ext w wr) (fun _ x _ => t.length - (intOf x).toNat)
  case atStart => exact ⟨0, Nat.zero_le _, rfl, hg0, by simp, hx0⟩
  case round =>
    clear hx0 hg0
    obtain ⟨k, hk, rfl, hg, hv', hx⟩ := hrel
    have HV := Lib.hid hv'
    clear hv'
    by_cases hkl : k < t.length
    case neg =>
      have : t.take k = t := List.take_of_length_le (by omega)
      rw [this] at hg
      obtain ⟨br, cr, rfl, ho⟩ := hg.newT HV.out
      go_wp2
      go_ret
      exact ⟨br, cr, rfl, ho, hx⟩
    case pos =>
      have HO := Lib.hid hg.lt
      obtain ⟨w2, rfl⟩ : ∃ w2 : World, w2 = wr := ⟨_, rfl⟩
      obtain ⟨b4, o4, c4, r4, i4, m4⟩ := (hc.ext hx).get hkl
      have e4 := i4.ints m4 c4
      clear i4
      have HTK := Lib.hid (show (t.take k).length ≤ 1048576 by rw [List.length_take]; omega)
      have HT1 := Lib.hid (show t.take (k + 1) = t.take k ++ [row t k] from take_row t k hkl)
      have HG := Lib.hid hg
      have zx := hx.size
      clear hg
      go_wp2_with fail
      refine (l01Own_any (row t k) _ _ e4).mono ?_
      rintro e w3 ⟨br, cr, rfl, ho, hx2⟩
      have HOI := Lib.hid ho
      have HX2 := Lib.hid hx2
      have z3 := hx2.size
      clear ho hx2
      go_wp2_with (at_builtin; refine wpList_append_row_mine rfl _ _ 25 rfl Try.underlying25 infoSl w.heap.size _ _ rfl HG.out (HX2.out.trans (ext_box _ _ _)) _ br cr (row t k) rfl (cell_new _ _ _) (OwnI.alloc1 HOI.out) HTK.out (by omega) ?_)
      intro v' w4 hg4 hgr4 hv4 hat4
      have hx4 : Ext w w4 := (hx.trans (HX2.out.trans (ext_box _ _ _))).grownOwn hgr4 (fun g e => (HO.out g e).1)
      clear hgr4 hat4
      go_wp2
      go_roundw
      case rel => exact ⟨k + 1, by omega, by go_num, by rw [HT1.out]; exact hg4, hv4, hx4⟩
      case measure => simp [intOf]; omega
end Go.Proofs.Ytbfhecckapgpnaa

/-
  A list of tables that grows, each table in memory of its own.
-/
namespace Go.Proofs.Ytbfhecckapgpnaa
set_option linter.unusedVariables false
set_option linter.unusedSimpArgs false
open Go.RowKit
open Go.Deep
attribute [local go_sem ↓] Go.wp_at_zero Go.wp_at_succ

theorem infoSl2 : (Try.prog.info? 25).map (fun i => (i.zero, i.size, i.bytes)) = some (some (.slice none 0 0), 1, 24) := by kernel_rfl
/-- table k of the list: where it lies -/
def GTab (w : World) (v : Value) (r : Value) (t : List (List Int)) (base : Nat) : Prop :=
  ∃ b c lo hi, r = .slice (some ⟨b, 0, none⟩) t.length c ∧ OwnT lo hi w b 0 t ∧ Small t ∧ base ≤ lo ∧ hi ≤ w.heap.size ∧ ∀ g, v.ownBlock = some g → ¬ (lo ≤ g ∧ g < hi)
def GrowTabs (e base : Nat) (w : World) (v : Value) (ts : List (List (List Int))) : Prop :=
  ∃ xs : List Value, w.ownsRow base e 1 v ts.length xs ∧ ∀ i, i < ts.length → ∃ r, xs[i]? = some r ∧ GTab w v r (tab ts i) base
theorem GTab.keep {w w' : World} {v v' r : Value} {t : List (List Int)} {base : Nat} (h : GTab w v r t base) (hs : w.heap.size ≤ w'.heap.size) (hk : ∀ k, base ≤ k → k < w.heap.size → v.ownBlock ≠ some k → w'.heap[k]? = w.heap[k]?) (hv : v'.ownBlock = v.ownBlock ∨ ∃ g, v'.ownBlock = some g ∧ w.heap.size ≤ g) : GTab w' v' r t base := by
  obtain ⟨b, c, lo, hi, rfl, h1, h2, h3, h4, h5⟩ := h
  refine ⟨b, c, lo, hi, rfl, h1.keep (fun k g1 g2 => hk k (by omega) (by omega) (fun e => h5 k e ⟨g1, g2⟩)), h2, h3, by omega, fun g e => ?_⟩
  rcases hv with e2 | ⟨g', e2, hg⟩
  · exact h5 g (e2 ▸ e)
  · rw [e2] at e; injection e with e; omega
theorem GrowTabs.lit {e base : Nat} {w : World} (hb : base ≤ w.heap.size) : GrowTabs e base (w.alloc (.cells #[] e)) (.slice (some ⟨w.heap.size, 0, none⟩) 0 0) [] :=
  ⟨[], World.ownsRow_made w #[] 0 hb (Nat.zero_le _) rfl, fun i hi => by simp at hi⟩
theorem GrowTabs.nil (e base : Nat) (w : World) : GrowTabs e base w (.slice none 0 0) [] := ⟨[], World.ownsRow_nil w base e 1, fun i hi => by simp at hi⟩
theorem GrowTabs.ext {e base : Nat} {w w' : World} {v : Value} {ts : List (List (List Int))} (h : GrowTabs e base w v ts) (hx : Ext w w') : GrowTabs e base w' v ts := by
  obtain ⟨xs, h1, h2⟩ := h
  refine ⟨xs, ownsRow_ext h1 hx, fun i hi => ?_⟩
  obtain ⟨r, g1, g2⟩ := h2 i hi
  exact ⟨r, g1, g2.keep hx.size (fun k _ hk _ => hx.block k hk) (.inl rfl)⟩
theorem GrowTabs.lt {e base : Nat} {w : World} {v : Value} {ts : List (List (List Int))} (h : GrowTabs e base w v ts) (k : Nat) (hk : v.ownBlock = some k) : base ≤ k ∧ k < w.heap.size := by
  obtain ⟨xs, h1, -⟩ := h
  exact h1.lt k hk
theorem GrowTabs.slice {e base : Nat} {w : World} {v : Value} {ts : List (List (List Int))} (h : GrowTabs e base w v ts) : ∃ a c, v = .slice a ts.length c := by
  obtain ⟨xs, h1, -⟩ := h
  rcases h1.2 with ⟨rfl, hn⟩ | ⟨g, cap, cur, rfl, _⟩
  · exact ⟨none, 0, by rw [hn]⟩
  · exact ⟨_, cap, rfl⟩
theorem tab_snoc (ts : List (List (List Int))) (t : List (List Int)) : tab (ts ++ [t]) ts.length = t := by rw [tab_eq]; simp
theorem tab_app (ts : List (List (List Int))) (t : List (List Int)) {i : Nat} (h : i < ts.length) : tab (ts ++ [t]) i = tab ts i := by rw [tab_eq, tab_eq]; simp [List.getD, List.getElem?_append_left h]
/-- append(v, t) at a list of tables -/
theorem wpList_append_tab {P : Program} {w1 w : World} {ops : Array Oper} {rest : List Oper} {o : Oper} {a : Act} {Q : Exit → Act → World → Prop} (hgd : o.guard = none) (s x : Operand) (t e : TypeId)
    (ho : o.op = .call { callee := .builtin .append, args := #[s, x], argTypes := #[t, t] }) (ht : P.underlying t = some (.slice e)) {z : Value} (hinfo : (P.info? e).map (fun i => (i.zero, i.size, i.bytes)) = some (some z, 1, 24)) (hz1c : z.cells.size = 1)
    (base : Nat) (v : Value) (ts : List (List (List Int))) (hs : a.eval s = v) (hown : GrowTabs e base w1 v ts) (hx1 : Ext w1 w) (g : Nat) (br cr : Nat) (l : List (List Int)) (hx : a.eval x = .slice (some ⟨g, 0, none⟩) 1 1) (hc : w.cell? ⟨g, 0, none⟩ = some (.slice (some ⟨br, 0, none⟩) l.length cr)) (hr : OwnT w1.heap.size w.heap.size w br 0 l) (hsm : Small l)
    (hl : ts.length ≤ 1048576) (hbase : base ≤ w1.heap.size)
    (h : ∀ v' w', GrowTabs e base w' v' (ts ++ [l]) → w.grownBy w' v.ownBlock → v' ≠ .slice none 0 0 → (v'.ownBlock = v.ownBlock ∨ v'.ownBlock = some w.heap.size) → wpList P ops Q rest (a.put o.dst v') w') : wpList P ops Q (o :: rest) a w := by
  obtain ⟨i0, hi, hz0, hz1, hz2⟩ := info_parts hinfo
  obtain ⟨xs, h1, h2⟩ := id hown
  have hlt := hown.lt
  have hz := hx1.size
  refine wpList_append_own_at w hgd s x t ho base e i0 z 1 24 ht hi hz0 hz1 hz2 hz1c (by decide) v ts.length xs hs (ownsRow_ext h1 hx1) ⟨g, 0, none⟩ 1 1 [.slice (some ⟨br, 0, none⟩) l.length cr] hx rfl ?_ ?_ (by unfold maxLen; omega) (by omega) (by omega) ?_
  · intro j u hj
    match j, hj with
    | 0, hj => simp at hj; subst hj; simpa [Addr.add] using hc
  · intro u hu; simp at hu; subst hu; rfl
  · intro v' w' k1 k2 k3 k4
    have hxl : xs.length = ts.length := by simpa using h1.1
    have k4' : v'.ownBlock = v.ownBlock ∨ ∃ g, v'.ownBlock = some g ∧ w.heap.size ≤ g := by
      rcases k4 with e | e
      · exact .inl e
      · exact .inr ⟨_, e, Nat.le_refl _⟩
    refine h v' w' ⟨xs ++ [.slice (some ⟨br, 0, none⟩) l.length cr], by simpa using k1, fun i hi => ?_⟩ k2 (fun e => by have := k3.1 e; simp at this) k4
    by_cases hi' : i < ts.length
    · obtain ⟨r, g1, g2⟩ := h2 i hi'
      rw [tab_app _ _ hi']
      refine ⟨r, by rw [List.getElem?_append_left (by omega)]; exact g1, ?_⟩
      have g3 := g2.keep hx1.size (fun k _ hk _ => hx1.block k hk) (.inl rfl) (v' := v)
      exact g3.keep k2.size (fun k _ hk hn => k2.block k hk (fun e => hn e.symm)) k4'
    · have hie : i = ts.length := by simp at hi; omega
      subst hie
      rw [tab_snoc]
      have g3 : GTab w v (.slice (some ⟨br, 0, none⟩) l.length cr) l base := ⟨br, cr, _, _, rfl, hr, hsm, hbase, Nat.le_refl _, fun g e => by have := hlt g e; omega⟩
      exact ⟨_, by rw [List.getElem?_append_right (by omega), hxl]; simp, g3.keep k2.size (fun k _ hk hn => k2.block k hk (fun e => hn e.symm)) k4'⟩
theorem GTab.rows {w : World} {v r : Value} {t : List (List Int)} {base : Nat} (h : GTab w v r t base) : Rows w r t := by
  obtain ⟨b, c, lo, hi, rfl, h1, h2, h3, h4, h5⟩ := h
  exact (h1.rowsAt h2).rows h2.1 c
theorem GrowTabs.cell {e base : Nat} {w : World} {v : Value} {ts : List (List (List Int))} (h : GrowTabs e base w v ts) {i : Nat} (hi : i < ts.length) : ∃ g r, v.ownBlock = some g ∧ w.cell? ⟨g, i, none⟩ = some r ∧ GTab w v r (tab ts i) base := by
  obtain ⟨xs, h1, h2⟩ := h
  obtain ⟨r, g1, g2⟩ := h2 i hi
  rcases id h1.2 with ⟨rfl, hn⟩ | ⟨g, cap, cur, rfl, hb, hg, rest⟩
  · omega
  · have hc := World.ownsRow.cells h1 (g := g) rfl i _ g1
    rw [Addr.add_lit, Nat.zero_add] at hc
    exact ⟨g, r, rfl, hc, g2⟩
theorem GrowTabs.tabs {e base : Nat} {w : World} {v : Value} {ts : List (List (List Int))} (h : GrowTabs e base w v ts) (hl : ts.length ≤ 1048576) (hv : v ≠ .slice none 0 0) : Tabs w v ts := by
  obtain ⟨xs, h1, h2⟩ := id h
  rcases id h1.2 with ⟨rfl, hn⟩ | ⟨g, cap, cur, rfl, hb, hg, rest⟩
  · exact absurd (by rfl) hv
  · refine ⟨hl, g, 0, cap, rfl, fun i hi => ?_⟩
    obtain ⟨r, g1, g2⟩ := h2 i hi
    have hc := World.ownsRow.cells h1 (g := g) rfl i _ g1
    rw [Addr.add_lit, Nat.zero_add] at hc
    exact ⟨r, by rw [Nat.zero_add]; exact hc, g2.rows⟩
end Go.Proofs.Ytbfhecckapgpnaa
