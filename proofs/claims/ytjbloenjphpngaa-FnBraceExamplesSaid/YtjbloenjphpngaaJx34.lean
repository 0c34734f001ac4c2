/-
  A table of the call's own that grows row by row: append in a walk; the reference's copy of a table is its own.
-/
import Derived.Test.YtjbloenjphpngaaProg
import Derived.Deep.DeepCutAuto
import Derived.Deep.RegionWith
import Derived.Deep.RegionHeld3
import Derived.Deep.DrawnRows
import Derived.IntWalk
import Derived.Maps.AppendAt
import Derived.Test.YtjbloenjphpngaaJx0
import Derived.Test.YtjbloenjphpngaaJx1
import Derived.Test.YtjbloenjphpngaaJx5
import Derived.Test.YtjbloenjphpngaaJx8
import Derived.Test.YtjbloenjphpngaaJx9
import Derived.Test.YtjbloenjphpngaaJx2
import Derived.Test.YtjbloenjphpngaaJx14
import Derived.Test.YtjbloenjphpngaaJx10
import Derived.Test.YtjbloenjphpngaaJx6
import Derived.Test.YtjbloenjphpngaaJx3
import Derived.Test.YtjbloenjphpngaaJx4
import Derived.Test.YtjbloenjphpngaaJx15
import Derived.Test.YtjbloenjphpngaaJx24
import Derived.Test.YtjbloenjphpngaaJx33
import Derived.Test.YtjbloenjphpngaaJx12
import Derived.Test.YtjbloenjphpngaaJx16
import Derived.Test.YtjbloenjphpngaaJx27
import Derived.Test.YtjbloenjphpngaaJx13
import Derived.Test.YtjbloenjphpngaaJx23
namespace Go.Proofs.Ytjbloenjphpngaa
set_option linter.unusedVariables false
set_option linter.unusedSimpArgs false
open Go.RowKit
open Go.Deep
attribute [local go_sem ↓] Go.wp_at_zero Go.wp_at_succ

/-- no block is a foreign one -/
abbrev NoO : Nat → Prop := fun _ => False
/-- append(v, r) at a slice of rows of the call's own -/
theorem wpList_append_row_mine {P : Program} {w1 w : World} {ops : Array Oper} {rest : List Oper} {o : Oper} {a : Act} {Q : Exit → Act → World → Prop} (hgd : o.guard = none) (s x : Operand) (t : TypeId)
    (ho : o.op = .call { callee := .builtin .append, args := #[s, x], argTypes := #[t, t] }) (ht : P.underlying t = some (.slice 28)) (hinfo : (P.info? 28).map (fun i => (i.zero, i.size, i.bytes)) = some (some (.slice none 0 0), 1, 24))
    (base : Nat) (v : Value) (tb : List (List Int)) (hs : a.eval s = v) (hown : MineT base NoO w1 v tb) (hx1 : Ext w1 w) (g : Nat) (br cr : Nat) (l : List Int) (hx : a.eval x = .slice (some ⟨g, 0, none⟩) 1 1) (hc : w.cell? ⟨g, 0, none⟩ = some (.slice (some ⟨br, 0, none⟩) l.length cr)) (hr : OwnI w1.heap.size w.heap.size w br 0 l)
    (hl : tb.length ≤ 1048576) (hbase : base ≤ w1.heap.size)
    (h : ∀ v' w', MineT base NoO w' v' (tb ++ [l]) → w.grownBy w' v.ownBlock → v' ≠ .slice none 0 0 → (v'.ownBlock = v.ownBlock ∨ v'.ownBlock = some w.heap.size) → wpList P ops Q rest (a.put o.dst v') w') : wpList P ops Q (o :: rest) a w := by
  obtain ⟨i0, hi, hz0, hz1, hz2⟩ := info_parts hinfo
  obtain ⟨xs, h1, h2⟩ := id hown
  have hz := hx1.size
  refine wpList_append_own_at w hgd s x t ho base _ i0 (.slice none 0 0) 1 24 ht hi hz0 hz1 hz2 rfl (by decide) v tb.length xs hs (ownsRow_ext h1 hx1) ⟨g, 0, none⟩ 1 1 [.slice (some ⟨br, 0, none⟩) l.length cr] hx rfl ?_ ?_ (by unfold maxLen; omega) (by omega) (by omega) ?_
  · intro j u hj
    match j, hj with
    | 0, hj => simp at hj; subst hj; simpa [Addr.add] using hc
  · intro u hu; simp at hu; subst hu; rfl
  · intro v' w' k1 k2 k3 k4
    refine h v' w' (MineT.app (c := cr) hown hx1 hr hbase (fun k e => e.elim) k2 k4 (fun vs hvs => ?_)) k2 (fun e => by have := k3.1 e; simp at this) k4
    have : vs = xs := (ownsRow_same hvs (ownsRow_ext h1 hx1))
    subst this
    simpa using k1

theorem OwnI.alloc1 {lo : Nat} {w : World} {b o : Nat} {l : List Int} {x : Obj} (h : OwnI lo w.heap.size w b o l) : OwnI lo (w.alloc x).heap.size (w.alloc x) b o l :=
  ⟨h.1, by have := h.2.1; simp; omega, ki_alloc h.2.2.1, fun i hi => kf_alloc h.2.1 (h.2.2.2 i hi)⟩
theorem MineT.lit {lo : Nat} {w : World} (hb : lo ≤ w.heap.size) : MineT lo NoO (w.alloc (.cells #[] 28)) (.slice (some ⟨w.heap.size, 0, none⟩) 0 0) [] :=
  ⟨[], World.ownsRow_made w #[] 0 hb (Nat.zero_le _) rfl, fun _ _ e => e.elim, fun _ => 0, fun _ => 0, fun i hi => by simp at hi, fun i j hi => by simp at hi⟩
theorem MineT.lt {lo : Nat} {W : World} {v : Value} {xs : List (List Int)} (h : MineT lo NoO W v xs) (k : Nat) (e : v.ownBlock = some k) : lo ≤ k ∧ k < W.heap.size := by
  obtain ⟨vs, h1, -⟩ := h
  exact h1.lt k e
/-- a table that has grown, at its end -/
theorem MineT.newT {lo : Nat} {w : World} {v : Value} {t : List (List Int)} (h : MineT lo NoO w v t) (hv : v ≠ .slice none 0 0) : ∃ b c, v = .slice (some ⟨b, 0, none⟩) t.length c ∧ OwnT lo w.heap.size w b 0 t := by
  obtain ⟨vs, h1, h2, B, C, h3, h4⟩ := h
  rcases id h1.2 with ⟨rfl, hn⟩ | ⟨g, cap, cur, rfl, hb, hg, rest⟩
  · exact absurd (by rfl) hv
  · refine ⟨g, cap, rfl, hb, (h1.lt g rfl).2, B, fun _ => 0, C, fun i hi => ?_, h4, fun i hi => by simp [World.frozen?, hg]⟩
    obtain ⟨g1, g2, g3, g4⟩ := h3 i hi
    have hc := World.ownsRow.cells h1 (g := g) rfl i _ g1
    rw [Addr.add_lit] at hc
    exact ⟨hc, g2, fun e => g4 (by rw [e]; rfl)⟩

set_option maxRecDepth 100000 in
theorem l01Own2_own (t : List (List Int)) (v : Value) (w : World) (hv : Rows w v t) :
    Calls Try.prog 45 #[v] w (NewT t w) := by
  obtain ⟨hlen, b, o, c, rfl, hc⟩ := id hv
  go_enter Try.func45, Try.ntmps45
  go_wp2
  have hx0 : Ext w (w.alloc (.cells #[] 28)) := (Ext.refl _).alloc _
  have hg0 := MineT.lit (lo := w.heap.size) (w := w) (Nat.le_refl _)
  go_loopw [3, 4] (fun v x wr => ∃ k : Nat, k ≤ t.length ∧ x = .int .i64 k ∧ MineT w.heap.size NoO wr v (t.take k) ∧ v ≠ .slice none 0 0 ∧ Ext w wr) (fun _ x _ => t.length - (intOf x).toNat)
  case atStart => exact ⟨0, Nat.zero_le _, rfl, hg0, by simp, hx0⟩
  case round =>
    clear hx0 hg0
    obtain ⟨k, hk, rfl, hg, hv', hx⟩ := hrel
    have HV := Lib.hid hv'
    clear hv'
    by_cases hkl : k < t.length
    case neg =>
      have : t.take k = t := List.take_of_length_le (by omega)
      rw [this] at hg
      obtain ⟨br, cr, rfl, ho⟩ := hg.newT HV.out
      go_wp2
      go_ret
      exact ⟨br, cr, rfl, ho, hx⟩
    case pos =>
      have HO := Lib.hid hg.lt
      obtain ⟨w2, rfl⟩ : ∃ w2 : World, w2 = wr := ⟨_, rfl⟩
      obtain ⟨b4, o4, c4, r4, i4, m4⟩ := (hc.ext hx).get hkl
      have e4 := i4.ints m4 c4
      clear i4
      have HTK := Lib.hid (show (t.take k).length ≤ 1048576 by rw [List.length_take]; omega)
      have HT1 := Lib.hid (show t.take (k + 1) = t.take k ++ [row t k] from take_row t k hkl)
      have HG := Lib.hid hg
      have zx := hx.size
      clear hg
      go_wp2_with fail
      refine (l01Own_any (row t k) _ _ e4).mono ?_
      rintro e w3 ⟨br, cr, rfl, ho, hx2⟩
      have HOI := Lib.hid ho
      have HX2 := Lib.hid hx2
      have z3 := hx2.size
      clear ho hx2
      go_wp2_with (at_builtin; refine wpList_append_row_mine rfl _ _ 24 rfl Try.underlying24 infoSl w.heap.size _ _ rfl HG.out (HX2.out.trans (ext_box _ _ _)) _ br cr (row t k) rfl (cell_new _ _ _) (OwnI.alloc1 HOI.out) HTK.out (by omega) ?_)
      intro v' w4 hg4 hgr4 hv4 hat4
      have hx4 : Ext w w4 := (hx.trans (HX2.out.trans (ext_box _ _ _))).grownOwn hgr4 (fun g e => (HO.out g e).1)
      clear hgr4 hat4
      go_wp2
      go_roundw
      case rel => exact ⟨k + 1, by omega, by go_num, by rw [HT1.out]; exact hg4, hv4, hx4⟩
      case measure => simp [intOf]; omega
end Go.Proofs.Ytjbloenjphpngaa

/-
  A list of tables that grows, each table in memory of its own.
-/
namespace Go.Proofs.Ytjbloenjphpngaa
set_option linter.unusedVariables false
set_option linter.unusedSimpArgs false
open Go.RowKit
open Go.Deep
attribute [local go_sem ↓] Go.wp_at_zero Go.wp_at_succ

theorem infoSl2 : (Try.prog.info? 24).map (fun i => (i.zero, i.size, i.bytes)) = some (some (.slice none 0 0), 1, 24) := by kernel_rfl
/-- table k of the list: where it lies -/
def GTab (w : World) (v : Value) (r : Value) (t : List (List Int)) (base : Nat) : Prop :=
  ∃ b c lo hi, r = .slice (some ⟨b, 0, none⟩) t.length c ∧ OwnT lo hi w b 0 t ∧ Small t ∧ base ≤ lo ∧ hi ≤ w.heap.size ∧ ∀ g, v.ownBlock = some g → ¬ (lo ≤ g ∧ g < hi)
def GrowTabs (e base : Nat) (w : World) (v : Value) (ts : List (List (List Int))) : Prop :=
  ∃ xs : List Value, w.ownsRow base e 1 v ts.length xs ∧ ∀ i, i < ts.length → ∃ r, xs[i]? = some r ∧ GTab w v r (tab ts i) base
theorem GTab.keep {w w' : World} {v v' r : Value} {t : List (List Int)} {base : Nat} (h : GTab w v r t base) (hs : w.heap.size ≤ w'.heap.size) (hk : ∀ k, base ≤ k → k < w.heap.size → v.ownBlock ≠ some k → w'.heap[k]? = w.heap[k]?) (hv : v'.ownBlock = v.ownBlock ∨ ∃ g, v'.ownBlock = some g ∧ w.heap.size ≤ g) : GTab w' v' r t base := by
  obtain ⟨b, c, lo, hi, rfl, h1, h2, h3, h4, h5⟩ := h
  refine ⟨b, c, lo, hi, rfl, h1.keep (fun k g1 g2 => hk k (by omega) (by omega) (fun e => h5 k e ⟨g1, g2⟩)), h2, h3, by omega, fun g e => ?_⟩
  rcases hv with e2 | ⟨g', e2, hg⟩
  · exact h5 g (e2 ▸ e)
  · rw [e2] at e; injection e with e; omega
theorem GrowTabs.lit {e base : Nat} {w : World} (hb : base ≤ w.heap.size) : GrowTabs e base (w.alloc (.cells #[] e)) (.slice (some ⟨w.heap.size, 0, none⟩) 0 0) [] :=
  ⟨[], World.ownsRow_made w #[] 0 hb (Nat.zero_le _) rfl, fun i hi => by simp at hi⟩
theorem GrowTabs.nil (e base : Nat) (w : World) : GrowTabs e base w (.slice none 0 0) [] := ⟨[], World.ownsRow_nil w base e 1, fun i hi => by simp at hi⟩
theorem GrowTabs.ext {e base : Nat} {w w' : World} {v : Value} {ts : List (List (List Int))} (h : GrowTabs e base w v ts) (hx : Ext w w') : GrowTabs e base w' v ts := by
  obtain ⟨xs, h1, h2⟩ := h
  refine ⟨xs, ownsRow_ext h1 hx, fun i hi => ?_⟩
  obtain ⟨r, g1, g2⟩ := h2 i hi
  exact ⟨r, g1, g2.keep hx.size (fun k _ hk _ => hx.block k hk) (.inl rfl)⟩
theorem GrowTabs.lt {e base : Nat} {w : World} {v : Value} {ts : List (List (List Int))} (h : GrowTabs e base w v ts) (k : Nat) (hk : v.ownBlock = some k) : base ≤ k ∧ k < w.heap.size := by
  obtain ⟨xs, h1, -⟩ := h
  exact h1.lt k hk
theorem GrowTabs.slice {e base : Nat} {w : World} {v : Value} {ts : List (List (List Int))} (h : GrowTabs e base w v ts) : ∃ a c, v = .slice a ts.length c := by
  obtain ⟨xs, h1, -⟩ := h
  rcases h1.2 with ⟨rfl, hn⟩ | ⟨g, cap, cur, rfl, _⟩
  · exact ⟨none, 0, by rw [hn]⟩
  · exact ⟨_, cap, rfl⟩
theorem tab_snoc (ts : List (List (List Int))) (t : List (List Int)) : tab (ts ++ [t]) ts.length = t := by rw [tab_eq]; simp
theorem tab_app (ts : List (List (List Int))) (t : List (List Int)) {i : Nat} (h : i < ts.length) : tab (ts ++ [t]) i = tab ts i := by rw [tab_eq, tab_eq]; simp [List.getD, List.getElem?_append_left h]
/-- append(v, t) at a list of tables -/
theorem wpList_append_tab {P : Program} {w1 w : World} {ops : Array Oper} {rest : List Oper} {o : Oper} {a : Act} {Q : Exit → Act → World → Prop} (hgd : o.guard = none) (s x : Operand) (t e : TypeId)
    (ho : o.op = .call { callee := .builtin .append, args := #[s, x], argTypes := #[t, t] }) (ht : P.underlying t = some (.slice e)) {z : Value} (hinfo : (P.info? e).map (fun i => (i.zero, i.size, i.bytes)) = some (some z, 1, 24)) (hz1c : z.cells.size = 1)
    (base : Nat) (v : Value) (ts : List (List (List Int))) (hs : a.eval s = v) (hown : GrowTabs e base w1 v ts) (hx1 : Ext w1 w) (g : Nat) (br cr : Nat) (l : List (List Int)) (hx : a.eval x = .slice (some ⟨g, 0, none⟩) 1 1) (hc : w.cell? ⟨g, 0, none⟩ = some (.slice (some ⟨br, 0, none⟩) l.length cr)) (hr : OwnT w1.heap.size w.heap.size w br 0 l) (hsm : Small l)
    (hl : ts.length ≤ 1048576) (hbase : base ≤ w1.heap.size)
    (h : ∀ v' w', GrowTabs e base w' v' (ts ++ [l]) → w.grownBy w' v.ownBlock → v' ≠ .slice none 0 0 → (v'.ownBlock = v.ownBlock ∨ v'.ownBlock = some w.heap.size) → wpList P ops Q rest (a.put o.dst v') w') : wpList P ops Q (o :: rest) a w := by
  obtain ⟨i0, hi, hz0, hz1, hz2⟩ := info_parts hinfo
  obtain ⟨xs, h1, h2⟩ := id hown
  have hlt := hown.lt
  have hz := hx1.size
  refine wpList_append_own_at w hgd s x t ho base e i0 z 1 24 ht hi hz0 hz1 hz2 hz1c (by decide) v ts.length xs hs (ownsRow_ext h1 hx1) ⟨g, 0, none⟩ 1 1 [.slice (some ⟨br, 0, none⟩) l.length cr] hx rfl ?_ ?_ (by unfold maxLen; omega) (by omega) (by omega) ?_
  · intro j u hj
    match j, hj with
    | 0, hj => simp at hj; subst hj; simpa [Addr.add] using hc
  · intro u hu; simp at hu; subst hu; rfl
  · intro v' w' k1 k2 k3 k4
    have hxl : xs.length = ts.length := by simpa using h1.1
    have k4' : v'.ownBlock = v.ownBlock ∨ ∃ g, v'.ownBlock = some g ∧ w.heap.size ≤ g := by
      rcases k4 with e | e
      · exact .inl e
      · exact .inr ⟨_, e, Nat.le_refl _⟩
    refine h v' w' ⟨xs ++ [.slice (some ⟨br, 0, none⟩) l.length cr], by simpa using k1, fun i hi => ?_⟩ k2 (fun e => by have := k3.1 e; simp at this) k4
    by_cases hi' : i < ts.length
    · obtain ⟨r, g1, g2⟩ := h2 i hi'
      rw [tab_app _ _ hi']
      refine ⟨r, by rw [List.getElem?_append_left (by omega)]; exact g1, ?_⟩
      have g3 := g2.keep hx1.size (fun k _ hk _ => hx1.block k hk) (.inl rfl) (v' := v)
      exact g3.keep k2.size (fun k _ hk hn => k2.block k hk (fun e => hn e.symm)) k4'
    · have hie : i = ts.length := by simp at hi; omega
      subst hie
      rw [tab_snoc]
      have g3 : GTab w v (.slice (some ⟨br, 0, none⟩) l.length cr) l base := ⟨br, cr, _, _, rfl, hr, hsm, hbase, Nat.le_refl _, fun g e => by have := hlt g e; omega⟩
      exact ⟨_, by rw [List.getElem?_append_right (by omega), hxl]; simp, g3.keep k2.size (fun k _ hk hn => k2.block k hk (fun e => hn e.symm)) k4'⟩
theorem GTab.rows {w : World} {v r : Value} {t : List (List Int)} {base : Nat} (h : GTab w v r t base) : Rows w r t := by
  obtain ⟨b, c, lo, hi, rfl, h1, h2, h3, h4, h5⟩ := h
  exact (h1.rowsAt h2).rows h2.1 c
theorem GrowTabs.cell {e base : Nat} {w : World} {v : Value} {ts : List (List (List Int))} (h : GrowTabs e base w v ts) {i : Nat} (hi : i < ts.length) : ∃ g r, v.ownBlock = some g ∧ w.cell? ⟨g, i, none⟩ = some r ∧ GTab w v r (tab ts i) base := by
  obtain ⟨xs, h1, h2⟩ := h
  obtain ⟨r, g1, g2⟩ := h2 i hi
  rcases id h1.2 with ⟨rfl, hn⟩ | ⟨g, cap, cur, rfl, hb, hg, rest⟩
  · omega
  · have hc := World.ownsRow.cells h1 (g := g) rfl i _ g1
    rw [Addr.add_lit, Nat.zero_add] at hc
    exact ⟨g, r, rfl, hc, g2⟩
theorem GrowTabs.tabs {e base : Nat} {w : World} {v : Value} {ts : List (List (List Int))} (h : GrowTabs e base w v ts) (hl : ts.length ≤ 1048576) (hv : v ≠ .slice none 0 0) : Tabs w v ts := by
  obtain ⟨xs, h1, h2⟩ := id h
  rcases id h1.2 with ⟨rfl, hn⟩ | ⟨g, cap, cur, rfl, hb, hg, rest⟩
  · exact absurd (by rfl) hv
  · refine ⟨hl, g, 0, cap, rfl, fun i hi => ?_⟩
    obtain ⟨r, g1, g2⟩ := h2 i hi
    have hc := World.ownsRow.cells h1 (g := g) rfl i _ g1
    rw [Addr.add_lit, Nat.zero_add] at hc
    exact ⟨r, by rw [Nat.zero_add]; exact hc, g2.rows⟩
end Go.Proofs.Ytjbloenjphpngaa

/-
  Contract of the reference's l03Group: the group that permutations generate.
-/
namespace Go.Proofs.Ytjbloenjphpngaa
set_option linter.unusedVariables false
set_option linter.unusedSimpArgs false
open Go.RowKit
attribute [local go_sem ↓] Go.wp_at_zero Go.wp_at_succ
open Go.Deep

theorem take_idL (n k : Nat) (h : k < n) : (idL n).take (k + 1) = (idL n).take k ++ [(k : Int)] := by
  rw [take_ixL _ _ (by rw [length_idL]; exact h), ix_idL _ _ h]

set_option maxRecDepth 100000 in
set_option maxHeartbeats 800000 in
theorem l03Group_any (n : Nat) (gens : List (List Int)) (v : Value) (w : World) (hv : Rows w v gens) (hg : ∀ k, k < gens.length → IsoOk n [] [] (row gens k)) (h1 : 1 ≤ n) (h12 : n ≤ 12) (h16 : gens.length ≤ 16) :
    Calls Try.prog 81 #[.int .i64 n, v, .int .i64 12] w fun e w' => ∃ v', e = .returned v' ∧ Rows w' v' (genA gens n) ∧ Ext w w' := by
  obtain ⟨hlen, b, o, c, rfl, hc⟩ := id hv
  have HG := Lib.hid hg
  have HGOOD := Lib.hid (genA_good hg (idL_perm n))
  have HC := Lib.hid hc
  have HIL := Lib.hid (length_idL n)
  have HD0 := Lib.hid (genA_def gens n)
  clear hg hv hc
  go_enter Try.func81, Try.ntmps81
  go_wp2_with fail
  have hx0 : Ext w (w.alloc (.cells #[] 2)) := (Ext.refl _).alloc _
  have hi0 := GrowI.lit (e := 2) (base := w.heap.size) (w := w) (Nat.le_refl _)
  go_loopw [7, 8] (fun v x wr => ∃ k : Nat, k ≤ n ∧ x = .int .i64 k ∧ GrowI 2 w.heap.size wr v ((idL n).take k) ∧ v ≠ .slice none 0 0 ∧ Ext w wr) (fun _ x _ => n - (intOf x).toNat)
  case atStart => exact ⟨0, Nat.zero_le _, rfl, hi0, by simp, hx0⟩
  case round =>
    clear hx0 hi0
    obtain ⟨k, hk, rfl, hgi, hvi, hx⟩ := hrel
    have HGI := Lib.hid hgi
    have HX := Lib.hid hx
    by_cases hlt : k < n
    case pos =>
      have hki : (k : Int) < (n : Int) := by omega
      have HL := Lib.hid (show ((idL n).take k).length ≤ 1048576 by rw [List.length_take, HIL.out]; omega)
      have zx := hx.size
      clear hgi hvi hx
      go_wp2_with (at_builtin; refine wpList_append_int rfl _ _ 28 2 rfl Try.underlying28 infoInt w.heap.size _ _ rfl (HGI.out.alloc _) _ _ rfl (cell_new _ _ _) HL.out (by simp; omega) ?_)
      intro v' w3 hi3 hgr hv3
      have HX3 := Lib.hid (Ext.grown (HX.out.trans (ext_box _ _ _)) hgr (HGI.out.alloc _) (Nat.le_refl _))
      clear hgr
      go_wp2_with fail
      go_roundw
      case rel => exact ⟨k + 1, by omega, by go_num, by rw [take_idL _ _ hlt]; exact hi3, hv3, HX3.out⟩
      case measure => simp [intOf]; omega
    case neg =>
      have hta : (idL n).take k = idL n := List.take_of_length_le (by rw [HIL.out]; omega)
      rw [hta] at hgi
      obtain ⟨bu, cu, rfl, hou⟩ := hgi.own hvi
      have hkn : ¬ (k : Int) < (n : Int) := by omega
      have hg1 : GrowT 28 w.heap.size (wr.alloc (.cells #[.slice (some ⟨bu, 0, none⟩) (idL n).length cu] 28)) (.slice (some ⟨wr.heap.size, 0, none⟩) 1 1) [idL n] := GrowT.one hx.size (by rw [HIL.out]; omega) hou.2.2.1
      have hg2 : GrowT 28 w.heap.size ((wr.alloc (.cells #[.slice (some ⟨bu, 0, none⟩) (idL n).length cu] 28)).alloc (.cells #[.slice (some ⟨bu, 0, none⟩) (idL n).length cu] 28)) (.slice (some ⟨wr.heap.size + 1, 0, none⟩) 1 1) [idL n] := by
        have := GrowT.one (e := 28) (w := wr.alloc (.cells #[.slice (some ⟨bu, 0, none⟩) (idL n).length cu] 28)) (c := cu) (base := w.heap.size) (by have := hx.size; simp; omega) (by rw [HIL.out]; omega) (hou.2.2.1.ext ((Ext.refl _).alloc _))
        rw [World.size_alloc] at this
        exact this
      have HG1 := Lib.hid (hg1.ext ((Ext.refl _).alloc (.cells #[.slice (some ⟨bu, 0, none⟩) (idL n).length cu] 28)))
      have HG2 := Lib.hid hg2
      have HX2 := Lib.hid ((hx.alloc (.cells #[.slice (some ⟨bu, 0, none⟩) (idL n).length cu] 28)).alloc (.cells #[.slice (some ⟨bu, 0, none⟩) (idL n).length cu] 28))
      rw [HIL.out] at HG1 HG2 HX2 ⊢
      clear hgi hvi hta hou hg1 hg2 hx HGI HX
      go_wp2_with fail
      go_loopw [9, 10, 11] (fun vo vs x wr => ∃ (i : Nat) (out seen : List (List Int)), x = .int .i64 i ∧ i ≤ 13 ∧ genA gens n = genF gens (13 - i) out i ∧ GoodG n out ∧ seen.Pairwise (· < ·) ∧ seen.Perm out ∧ GrowT 28 w.heap.size wr vo out ∧ GrowT 28 w.heap.size wr vs seen ∧ vo.ownBlock ≠ vs.ownBlock ∧ Ext w wr) (fun _ _ x _ => 13 - (intOf x).toNat)
      case atStart => exact ⟨0, [idL n], [idL n], rfl, by omega, HD0.out, goodG_unit (idL_perm n), List.pairwise_singleton _ _, List.Perm.refl _, HG1.out, HG2.out, by simp [Value.ownBlock], HX2.out⟩
      case round =>
        clear HG1 HG2 HX2 HD0
        obtain ⟨i, out, seen, rfl, hi13, hd, hgood, hss, hsp, hgo, hgs, hne, hx⟩ := hrel
        have HD := Lib.hid hd
        have HGD := Lib.hid hgood
        have HSS := Lib.hid hss
        have HSP := Lib.hid hsp
        have HGO := Lib.hid hgo
        have HGS := Lib.hid hgs
        have HNE := Lib.hid hne
        have HX := Lib.hid hx
        obtain ⟨go, co, ob, on, od, rfl, ohc, -⟩ := hgo.head hgood.one
        have hof := hgood.few
        clear hd hgood hss hsp hgo hgs hne hx
        by_cases hil : i < out.length ∧ out.length ≤ 12
        case neg =>
          have HE := Lib.hid (show genA gens n = out by rw [HD.out, genF_stop hil])
          have HR := Lib.hid (show Rows wr (.slice (some ⟨go, 0, none⟩) out.length co) out from HGO.out.rows (by omega) (by simp))
          by_cases h1l : i < out.length
          · have h2l : ¬ out.length ≤ 12 := fun h => hil ⟨h1l, h⟩
            have h1i : (i : Int) < (out.length : Int) := by omega
            have h2i : ¬ (out.length : Int) ≤ 12 := by omega
            go_wp2_with fail
            go_ret
            exact ⟨_, rfl, by rw [HE.out]; exact HR.out, HX.out⟩
          · have h1i : ¬ (i : Int) < (out.length : Int) := by omega
            go_wp2_with fail
            go_ret
            exact ⟨_, rfl, by rw [HE.out]; exact HR.out, HX.out⟩
        case pos =>
          obtain ⟨hil1, hil2⟩ := hil
          have h1i : (i : Int) < (out.length : Int) := by omega
          have h2i : (out.length : Int) ≤ 12 := by omega
          have HD1 := Lib.hid (show genA gens n = genF gens (12 - i) (rowFrom gens (row out i) 0 out) (i + 1) by rw [HD.out, show 13 - i = (12 - i) + 1 by omega, genF_go hil1 hil2])
          obtain ⟨x, hxx⟩ : ∃ x, x = row out i := ⟨_, rfl⟩
          have HXX := Lib.hid hxx
          rw [← hxx] at HD1
          clear hxx HD
          go_wp2_with fail
          go_loopw [9, 10, 12] (fun vo vs y wr => ∃ (k : Nat) (out seen : List (List Int)), y = .int .i64 k ∧ k ≤ gens.length ∧ i < out.length ∧ x = row out i ∧ genA gens n = genF gens (12 - i) (rowFrom gens x k out) (i + 1) ∧ GoodG n out ∧ seen.Pairwise (· < ·) ∧ seen.Perm out ∧ GrowT 28 w.heap.size wr vo out ∧ GrowT 28 w.heap.size wr vs seen ∧ vo.ownBlock ≠ vs.ownBlock ∧ Ext w wr) (fun _ _ y _ => gens.length - (intOf y).toNat)
          case atStart => exact ⟨0, out, seen, rfl, by omega, hil1, HXX.out, HD1.out, HGD.out, HSS.out, HSP.out, HGO.out, HGS.out, HNE.out, HX.out⟩
          case round =>
            clear HD1 HGD HSS HSP HGO HGS HNE HX HXX ohc hof
            clear hil2 h1i h2i hil1
            obtain ⟨k, out, seen, rfl, hk, hil1, hxx, hd, hgood, hss, hsp, hgo, hgs, hne, hx⟩ := hrel
            have HD := Lib.hid hd
            have HXX := Lib.hid hxx
            have HGD := Lib.hid hgood
            have HSS := Lib.hid hss
            have HSP := Lib.hid hsp
            have HGO := Lib.hid hgo
            have HGS := Lib.hid hgs
            have HNE := Lib.hid hne
            have HX := Lib.hid hx
            have hof := hgood.few
            have hon := hgood.one
            have hsl := And.intro (Nat.le_of_eq hsp.length_eq) (Nat.le_of_eq hsp.length_eq.symm)
            obtain ⟨go, co, ob, on, od, rfl, ohc, -⟩ := hgo.head hgood.one
            obtain ⟨g, cap, sb, sn, sd, rfl, shc, hcap⟩ := hgs.head (by omega)
            clear hd hgood hss hsp hgs hne hx hxx
            by_cases hkl : k < gens.length ∧ out.length ≤ 12
            case neg =>
              have HE := Lib.hid (show rowFrom gens x k out = out by
                by_cases h : k < gens.length
                · exact rowFrom_full (by have : ¬ out.length ≤ 12 := fun h2 => hkl ⟨h, h2⟩
                                         omega) gens.length k (by omega)
                · exact rowFrom_end (by omega))
              clear hgo
              by_cases h1l : k < gens.length
              · have h2l : ¬ out.length ≤ 12 := fun h => hkl ⟨h1l, h⟩
                have h1i : (k : Int) < (gens.length : Int) := by omega
                have h2i : ¬ (out.length : Int) ≤ 12 := by omega
                go_wp2_with fail
                go_roundw
                case rel => exact ⟨i + 1, out, seen, by go_num, by omega, by rw [HD.out, HE.out, show 12 - i = 13 - (i + 1) by omega], HGD.out, HSS.out, HSP.out, HGO.out, HGS.out, HNE.out, HX.out⟩
                case measure => simp [intOf]; omega
              · have h1i : ¬ (k : Int) < (gens.length : Int) := by omega
                go_wp2_with fail
                go_roundw
                case rel => exact ⟨i + 1, out, seen, by go_num, by omega, by rw [HD.out, HE.out, show 12 - i = 13 - (i + 1) by omega], HGD.out, HSS.out, HSP.out, HGO.out, HGS.out, HNE.out, HX.out⟩
                case measure => simp [intOf]; omega
            case pos =>
              obtain ⟨hkl1, hkl2⟩ := hkl
              have h1i : (k : Int) < (gens.length : Int) := by omega
              have h2i : (out.length : Int) ≤ 12 := by omega
              have hii : (i : Int) < (out.length : Int) := by omega
              obtain ⟨d1, s1, m1, q1, q2, -⟩ := (HC.out.ext HX.out).get hkl1
              have hgk := HG.out k hkl1
              rw [hgk.1] at q1
              have Q2 := Lib.hid (show Ints wr (.slice (some ⟨d1, s1, none⟩) n m1) (row gens k) from ⟨by rw [hgk.1]; omega, d1, s1, m1, by rw [hgk.1], q2⟩)
              obtain ⟨go', co', bi, di, hgo', r1, r2, r3⟩ := hgo.get hil1
              simp only [Value.slice.injEq, Option.some.injEq, Addr.mk.injEq, and_true, true_and] at hgo'
              obtain ⟨rfl, rfl⟩ := hgo'
              have hxi : IsoOk n [] [] x := by rw [HXX.out]; exact HGD.out.row hil1
              rw [← HXX.out] at r1 r2 r3
              rw [hxi.1] at r1
              have R2 := Lib.hid (show Ints wr (.slice (some ⟨bi, 0, none⟩) n di) x from ⟨r3, bi, 0, di, by rw [hxi.1], r2⟩)
              have HXI := Lib.hid hxi
              have HGL := Lib.hid hgk.1
              obtain ⟨pp, hpp⟩ : ∃ pp, pp = thenL x (row gens k) := ⟨_, rfl⟩
              have HPI := Lib.hid (show IsoOk n [] [] pp by rw [hpp]; exact thenL_perm hxi hgk)
              have HPL := Lib.hid HPI.out.1
              have HAT := Lib.hid (show rowFrom gens x k out = rowFrom gens x (k + 1) (addL out pp) by rw [hpp]; exact rowFrom_at hkl1)
              have HTH := Lib.hid (show ∀ W, Ext wr W → Calls Try.prog 94 #[.slice (some ⟨bi, 0, none⟩) n di, .slice (some ⟨d1, s1, none⟩) n m1] W (NewI pp W) from fun W h => by
                rw [hpp]; exact l01Then_any n x (row gens k) _ _ W (R2.out.ext h) (Q2.out.ext h) HXI.out HGL.out h12)
              clear hgk q2 r2 r3 hxi hpp hgo
              go_wp2_with fail
              go_region_held3 (fun w' => w'.cell? ⟨b, o + k, none⟩ = some (.slice (some ⟨d1, s1, none⟩) n m1) ∧ w'.cell? ⟨go, i, none⟩ = some (.slice (some ⟨bi, 0, none⟩) n di))
                ((refine ⟨?_, ?_⟩ <;> (repeat first | (with_reducible assumption) | (with_reducible refine Ext.cell hxt ?_) |  (with_reducible exact kc_new) | ((with_reducible refine kc_newE ?_); (simp; done)) | ((with_reducible refine kc_newEa ?_); (simp; done)) | ((with_reducible refine kc_newEb ?_); (simp; done)) | (with_reducible apply kc_alloc) | (with_reducible apply kc_drewN) | (with_reducible apply kc_drew) | ((with_reducible refine kc_set ?_ ?_); (first | (simp only []; omega) | (simp; omega) | (focus (simp; done)))) | ((with_reducible refine kc_set2 ?_ ?_); (focus (simp; done))) | (with_reducible refine kc_same (v := .slice none 0 0) ?_))))
                ((go_at_call 94; refine (HTH.out _ (by (repeat first | (with_reducible exact Ext.refl _) | (with_reducible assumption) | (with_reducible apply Ext.drew) | (with_reducible apply kx_drewN) | (with_reducible apply kx_alloc) | ((with_reducible refine kx_set ?_ ?_); (first | (simp only []; omega) | (simp; omega) | (focus (simp; done)))) ))).mono ?_; rintro e w3 ⟨b3, c3, rfl, ho3, hxt⟩))
              all_goals
                have hx3 : Ext wr w3 := Ext.trans ((Ext.refl wr).drew) hxt
                have HX3 := Lib.hid hx3
                have HP3 := Lib.hid (show Ints w3 (.slice (some ⟨b3, 0, none⟩) pp.length c3) pp from ⟨by rw [HPL.out]; omega, b3, 0, c3, rfl, ho3.2.2.1⟩)
                have HB3 := Lib.hid ho3.2.2.1
                have hb3 : wr.heap.size ≤ b3 := ho3.1
                rw [HPL.out] at HP3 ⊢
                clear ho3 hxt hx3 q1 r1
                have HGO3 := Lib.hid (HGO.out.ext HX3.out)
                have HGS3 := Lib.hid (HGS.out.ext HX3.out)
                have ohc3 := HX3.out.cell ohc
                have z3 := HX3.out.size
                obtain ⟨xs, hown, hxs⟩ := HGS3.out.xt
                have HXL := Lib.hid (show xs.length = seen.length from hxs.1)
                have HXS := Lib.hid hxs
                obtain ⟨g', cap', hg', -, hgb, hgs, hcl⟩ := ownsRow_parts hown (by simp)
                simp only [Value.slice.injEq, Option.some.injEq, Addr.mk.injEq, and_true, true_and] at hg'
                obtain ⟨rfl, rfl⟩ := hg'
                have HCE := Lib.hid hcl
                have HXN := Lib.hid (fun k0 : Nat => (XT.one (w := w3) (x := .slice (some ⟨b3, 0, none⟩) n c3) (l := pp) ⟨by rw [HPL.out]; omega, b3, c3, by rw [HPL.out], HB3.out⟩).append (HXS.out.drop k0))
                have hgog : go ≠ g := fun e => HNE.out (by rw [e]; rfl)
                have HGLT := Lib.hid (HGO.out.lt go rfl)
                clear hown hxs hcl shc
                go_wp2_with fail
                refine (l03Search_any seen pp _ _ _ (HGS3.out.rows (by omega) (by simp)) HP3.out HSS.out).mono ?_
                rintro e w4 ⟨⟨k0, rfl, hk0, hlo, hhi⟩, hd4⟩
                have HKN := Lib.hid (put_known HSS.out hlo hhi)
                have HLO := Lib.hid hlo
                have HHI := Lib.hid hhi
                have HD4 := Lib.hid hd4.ext
                clear hlo hhi hd4
                by_cases hmem : pp ∈ seen
                case pos =>
                  have hk1 := (HKN.out.2 hmem)
                  have hk0l : (k0 : Int) < (seen.length : Int) := by omega
                  have hse : eqIB (row seen k0) pp = true := eqIB_yes hk1.2
                  have HAO := Lib.hid (show addL out pp = out from addL_old (HSP.out.mem_iff.1 hmem))
                  obtain ⟨e1, e2, e3, e4, he, f1, f2, f3⟩ := (HGS3.out.ext HD4.out).get hk1.1
                  simp only [Value.slice.injEq, Option.some.injEq, Addr.mk.injEq, and_true, true_and] at he
                  obtain ⟨rfl, rfl⟩ := he
                  have F2 := Lib.hid (f2.ints f3 e4)
                  clear f2 hk1
                  go_wp2_with fail
                  refine (l01Same_any (row seen k0) pp _ _ _ F2.out.toR (HP3.out.ext HD4.out).toR f3).mono ?_
                  rintro e w5 ⟨rfl, hd5⟩
                  rw [hse]
                  have HX5 := Lib.hid ((HX3.out.trans HD4.out).trans hd5.ext)
                  clear hd5
                  go_wp2_with fail
                  go_roundw
                  case rel => exact ⟨k + 1, out, seen, by go_num, by omega, hil1, HXX.out, by rw [HD.out, HAT.out, HAO.out], HGD.out, HSS.out, HSP.out, HGO.out.ext HX5.out, HGS.out.ext HX5.out, HNE.out, HX.out.trans HX5.out⟩
                  case measure => simp [intOf]; omega
                case neg =>
                  have HPO := Lib.hid (show pp ∉ out from fun h => hmem (HSP.out.mem_iff.2 h))
                  have HAO := Lib.hid (show addL out pp = out ++ [pp] from addL_new HPO.out hkl2)
                  have HAG := Lib.hid (show GoodG n (out ++ [pp]) by rw [← HAO.out]; exact HGD.out.add HPI.out)
                  have HSS2 := Lib.hid (put_sorted HSS.out hk0 HLO.out HHI.out hmem)
                  have HSP2 := Lib.hid (show (seen.take k0 ++ ([pp] ++ seen.drop k0)).Perm (out ++ [pp]) from (put_perm.trans (List.Perm.cons pp HSP.out)).trans (List.perm_append_comm (l₁ := [pp])))
                  have HXX2 := Lib.hid (show x = row (out ++ [pp]) i by rw [row_app _ _ hil1]; exact HXX.out)
                  by_cases hk1 : k0 < seen.length
                  case pos =>
                    have hk0l : (k0 : Int) < (seen.length : Int) := by omega
                    have hse : eqIB (row seen k0) pp = false := eqIB_no (fun e => hmem (HKN.out.1 ⟨hk1, e⟩))
                    obtain ⟨e1, e2, e3, e4, he, f1, f2, f3⟩ := (HGS3.out.ext HD4.out).get hk1
                    simp only [Value.slice.injEq, Option.some.injEq, Addr.mk.injEq, and_true, true_and] at he
                    obtain ⟨rfl, rfl⟩ := he
                    have F2 := Lib.hid (f2.ints f3 e4)
                    clear f2
                    go_wp2_with fail
                    refine (l01Same_any (row seen k0) pp _ _ _ F2.out.toR (HP3.out.ext HD4.out).toR f3).mono ?_
                    rintro e wz ⟨rfl, hd5⟩
                    rw [hse]
                    have hx03 := HD4.out.trans hd5.ext
                    clear hd5 f1 f3
                    have HX03 := Lib.hid hx03
                    have HCE := Lib.hid (fun i x hi => HX03.out.cell (HCE.out i x hi))
                    have HXS := Lib.hid (HXS.out.ext HX03.out)
                    have HXN := Lib.hid ((HXN.out k0).ext HX03.out)
                    have HB0 := Lib.hid (HB3.out.ext HX03.out)
                    have HXW := Lib.hid (HX3.out.trans HX03.out)
                    have zz0 := HXW.out.size
                    have zwx := HX.out.size
                    clear hx03
                    have hca : ¬ cap = k0 := by omega
                    go_wp2_with (at_builtin; refine wpList_append_xs rfl _ _ 24 28 rfl Try.underlying24 infoSl wz.heap.size (.slice (some ⟨wz.heap.size, 0, none⟩) 1 1) 1 [.slice (some ⟨b3, 0, none⟩) n c3] rfl (ownsRow_one (Nat.le_refl _)) (by simp) g k0 _ (seen.length - k0) (xs.drop k0) (by rw [List.length_drop, HXL.out] <;> omega) rfl (fun i x hi => by rw [List.getElem?_drop] at hi; exact ((Ext.refl _).alloc _).cell (HCE.out _ _ hi)) (fun u hu => HXS.out.cell u (List.mem_of_mem_drop hu)) (by omega) (by omega) (by simp) ?_)
                    intro v5 w5 hown5 hgr5 hv5
                    have hx5 : Ext wz w5 := Ext.grown ((Ext.refl _).alloc _) hgr5 (ownsRow_one (Nat.le_refl _)) (Nat.le_refl _)
                    obtain ⟨g5, cap5, rfl, hc5, hg5, hs5, hcl5⟩ := ownsRow_parts hown5 hv5
                    have HC5 := Lib.hid hcl5
                    have z5 := hx5.size
                    clear hcl5 hgr5 hown5
                    go_wp2_with (at_builtin; refine wpList_append_xs rfl _ _ 24 28 rfl Try.underlying24 infoSl w5.heap.size (.slice (some ⟨w5.heap.size, 0, none⟩) 0 0) 0 [] rfl (ownsRow_lit (Nat.le_refl _)) (by simp) g 0 cap k0 (xs.take k0) (by rw [List.length_take, HXL.out]; omega) rfl (fun i x hi => by rw [Nat.zero_add]; have hi2 : xs[i]? = some x := (by rw [List.getElem?_take] at hi; split at hi <;> first | exact hi | cases hi); exact ((Ext.refl w5).alloc _).cell (hx5.cell (HCE.out i x hi2))) (fun u hu => HXS.out.cell u (List.mem_of_mem_take hu)) (by omega) (by omega) (by simp) ?_)
                    intro v6 w6 hown6 hgr6 hv6
                    have hx6 : Ext w5 w6 := Ext.grown ((Ext.refl w5).alloc _) hgr6 (ownsRow_lit (Nat.le_refl _)) (Nat.le_refl _)
                    have z6 := hx6.size
                    clear hgr6
                    go_wp2_with (at_builtin; refine wpList_append_xs rfl _ _ 24 28 rfl Try.underlying24 infoSl w5.heap.size v6 _ _ rfl hown6 hv6 g5 0 cap5 _ ([.slice (some ⟨b3, 0, none⟩) n c3] ++ xs.drop k0) (by rw [List.length_append, List.length_drop, HXL.out] <;> first | (simp; done) | (simp; omega)) rfl (fun i x hi => by rw [Nat.zero_add]; exact hx6.cell (HC5.out i x hi)) (fun u hu => (HXN.out).cell u hu) (by omega) (by omega) (by omega) ?_)
                    intro v7 w7 hown7 hgr7 hv7
                    have HX7 := Lib.hid (hx5.trans (Ext.grown hx6 hgr7 hown6 (Nat.le_refl _)))
                    have HO7 := Lib.hid (hown7.lt)
                    have HG7 := Lib.hid (show GrowT 28 w.heap.size w7 v7 (seen.take k0 ++ ([pp] ++ seen.drop k0)) from GrowT.of_xt (ownsRow_len (ownsRow_base hown7 (by omega)) (by rw [List.length_append, List.length_append, List.length_take, List.length_drop] <;> simp <;> omega)) (((HXS.out.take k0).append HXN.out).ext (HX7.out)))
                    have HV7 := Lib.hid hv7
                    have z7 := HX7.out.size
                    clear hgr7 hown7 hown6 hv6 hv7 hx5 hx6
                    have HXT := Lib.hid (HXW.out.trans HX7.out)
                    have zt := HXT.out.size
                    have HPOS := Lib.hid (show ∀ i, i < (seen.take k0 ++ ([pp] ++ seen.drop k0)).length → 0 < (row (seen.take k0 ++ ([pp] ++ seen.drop k0)) i).length from fun i hi => by
                      have := HAG.out.perm _ (HSP2.out.mem_iff.1 (rowG_mem hi))
                      rw [this.1]; omega)
                    have ohc7 := HXT.out.cell ohc
                    go_wp2_with (at_builtin; refine wpList_append_row_at rfl _ _ 24 28 rfl Try.underlying24 infoSl w.heap.size _ _ rfl (HGO.out.ext (HXT.out.trans (ext_box _ _ _))) _ b3 c3 pp rfl (by rw [HPL.out]; exact cell_new _ _ _) (HB0.out.ext (HX7.out.trans (ext_box _ _ _))) (by rw [HPL.out]; omega) (fun e => by have e2 : b3 = go := Option.some.inj e; have := HGLT.out; omega) (by omega) (by have := HGLT.out; simp; omega) ?_)
                    intro v8 w8 hg8 hgr8 hv8 hat8
                    have hgr8' : (w7.alloc (.cells #[.slice (some ⟨b3, 0, none⟩) n c3] 28)).grownBy w8 (some go) := hgr8
                    have HS8 := Lib.hid ((HG7.out.ext (ext_box w7 (.slice (some ⟨b3, 0, none⟩) n c3) 28)).grown hgr8' ((ext_box _ _ _).cell ohc7) HPOS.out (fun e => by have := HO7.out go e; have := HGLT.out; omega))
                    have HN8 := Lib.hid (show v8.ownBlock ≠ v7.ownBlock from fun e => by
                      rcases hat8 with e2 | e2
                      · rw [e2] at e
                        have := HO7.out go e.symm
                        have := HGLT.out
                        omega
                      · rw [e2] at e
                        have := HO7.out _ e.symm
                        first | omega | (simp at this; omega))
                    have HX8 := Lib.hid (ext_grownBy (HX.out.trans (HXT.out.trans (ext_box _ _ _))) hgr8' (fun k e => by injection e with e; have := HGLT.out; omega))
                    have HG8 := Lib.hid hg8
                    clear hgr8 hgr8' hat8 hv8 hg8
                    go_wp2_with fail
                    go_roundw
                    case rel => exact ⟨k + 1, out ++ [pp], _, by go_num, by omega, by simp; omega, HXX2.out, by rw [HD.out, HAT.out, HAO.out], HAG.out, HSS2.out, HSP2.out, HG8.out, HS8.out, HN8.out, HX8.out⟩
                    case measure => simp [intOf]; omega
                  case neg =>
                    have hk0l : ¬ (k0 : Int) < (seen.length : Int) := by omega
                    have hx03 := HD4.out
                    have HX03 := Lib.hid hx03
                    have HCE := Lib.hid (fun i x hi => HX03.out.cell (HCE.out i x hi))
                    have HXS := Lib.hid (HXS.out.ext HX03.out)
                    have HXN := Lib.hid ((HXN.out k0).ext HX03.out)
                    have HB0 := Lib.hid (HB3.out.ext HX03.out)
                    have HXW := Lib.hid (HX3.out.trans HX03.out)
                    have zz0 := HXW.out.size
                    have zwx := HX.out.size
                    clear hx03
                    by_cases hca : cap = k0
                    case pos =>
                      subst hca
                      have hdr : seen.drop cap = [] := List.drop_of_length_le (by omega)
                      have hlit : ((w4.alloc (.cells #[.slice (some ⟨b3, 0, none⟩) n c3] 28)).alloc (.cells #[] 28)).ownsRow w4.heap.size 28 1 (.slice (some ⟨w4.heap.size + 1, 0, none⟩) 0 0) 0 [] := by
                        have := ownsRow_lit (e := 28) (w := (w4.alloc (.cells #[.slice (some ⟨b3, 0, none⟩) n c3] 28))) (base := w4.heap.size) (by simp)
                        rw [World.size_alloc] at this
                        exact this
                      have hx5 : Ext w4 (w4.alloc (.cells #[.slice (some ⟨b3, 0, none⟩) n c3] 28)) := (Ext.refl _).alloc _
                      have hc5 := cell_new w4 (.slice (some ⟨b3, 0, none⟩) n c3) 28
                      go_wp2_with (at_builtin; refine wpList_append_xs rfl _ _ 24 28 rfl Try.underlying24 infoSl w4.heap.size (.slice (some ⟨w4.heap.size + 1, 0, none⟩) 0 0) 0 [] rfl hlit (by simp) g 0 cap cap (xs.take cap) (by rw [List.length_take, HXL.out]; omega) rfl (fun i x hi => by rw [Nat.zero_add]; have hi2 : xs[i]? = some x := (by rw [List.getElem?_take] at hi; split at hi <;> first | exact hi | cases hi); exact ((Ext.refl _).alloc _).cell (hx5.cell (HCE.out i x hi2))) (fun u hu => HXS.out.cell u (List.mem_of_mem_take hu)) (by omega) (by omega) (by simp; omega) ?_)
                      intro v6 w6 hown6 hgr6 hv6
                      have hx6 : Ext w4 w6 := Ext.grown (hx5.alloc _) hgr6 hlit (Nat.le_refl _)
                      have hc6 : w6.cell? ⟨w4.heap.size, 0, none⟩ = some (.slice (some ⟨b3, 0, none⟩) n c3) := by
                        rw [hgr6.cell_far _ (by simp; omega) (by simp [Value.ownBlock])]
                        exact kc_alloc hc5
                      have z6 := hx6.size
                      clear hgr6
                      go_wp2_with (at_builtin; refine wpList_append_xs rfl _ _ 24 28 rfl Try.underlying24 infoSl w4.heap.size v6 _ _ rfl hown6 hv6 w4.heap.size 0 1 1 [.slice (some ⟨b3, 0, none⟩) n c3] rfl rfl (fun i x hi => by cases i with | zero => (simp at hi; subst hi; exact hc6) | succ i => simp at hi) (fun u hu => by simp at hu; subst hu; rfl) (by omega) (by omega) (by omega) ?_)
                      intro v7 w7 hown7 hgr7 hv7
                      have HX7 := Lib.hid (show Ext w4 w7 from Ext.grown hx6 hgr7 hown6 (Nat.le_refl _))
                      have HO7 := Lib.hid (hown7.lt)
                      have HG7 := Lib.hid (show GrowT 28 w.heap.size w7 v7 (seen.take cap ++ ([pp] ++ seen.drop cap)) from by
                        rw [hdr]
                        exact GrowT.of_xt (ownsRow_len (ownsRow_base hown7 (by omega)) (by rw [List.length_append, List.length_append, List.length_take] <;> simp <;> omega)) (((HXS.out.take cap).append (XT.one ⟨by rw [HPL.out]; omega, b3, c3, by rw [HPL.out], HB0.out⟩)).ext (HX7.out)))
                      have HV7 := Lib.hid hv7
                      have z7 := HX7.out.size
                      clear hgr7 hown7 hown6 hv6 hv7 hx5 hx6 hlit hc5 hc6 hdr
                      have HXT := Lib.hid (HXW.out.trans HX7.out)
                      have zt := HXT.out.size
                      have HPOS := Lib.hid (show ∀ i, i < (seen.take cap ++ ([pp] ++ seen.drop cap)).length → 0 < (row (seen.take cap ++ ([pp] ++ seen.drop cap)) i).length from fun i hi => by
                        have := HAG.out.perm _ (HSP2.out.mem_iff.1 (rowG_mem hi))
                        rw [this.1]; omega)
                      have ohc7 := HXT.out.cell ohc
                      go_wp2_with (at_builtin; refine wpList_append_row_at rfl _ _ 24 28 rfl Try.underlying24 infoSl w.heap.size _ _ rfl (HGO.out.ext (HXT.out.trans (ext_box _ _ _))) _ b3 c3 pp rfl (by rw [HPL.out]; exact cell_new _ _ _) (HB0.out.ext (HX7.out.trans (ext_box _ _ _))) (by rw [HPL.out]; omega) (fun e => by have e2 : b3 = go := Option.some.inj e; have := HGLT.out; omega) (by omega) (by have := HGLT.out; simp; omega) ?_)
                      intro v8 w8 hg8 hgr8 hv8 hat8
                      have hgr8' : (w7.alloc (.cells #[.slice (some ⟨b3, 0, none⟩) n c3] 28)).grownBy w8 (some go) := hgr8
                      have HS8 := Lib.hid ((HG7.out.ext (ext_box w7 (.slice (some ⟨b3, 0, none⟩) n c3) 28)).grown hgr8' ((ext_box _ _ _).cell ohc7) HPOS.out (fun e => by have := HO7.out go e; have := HGLT.out; omega))
                      have HN8 := Lib.hid (show v8.ownBlock ≠ v7.ownBlock from fun e => by
                        rcases hat8 with e2 | e2
                        · rw [e2] at e
                          have := HO7.out go e.symm
                          have := HGLT.out
                          omega
                        · rw [e2] at e
                          have := HO7.out _ e.symm
                          first | omega | (simp at this; omega))
                      have HX8 := Lib.hid (ext_grownBy (HX.out.trans (HXT.out.trans (ext_box _ _ _))) hgr8' (fun k e => by injection e with e; have := HGLT.out; omega))
                      have HG8 := Lib.hid hg8
                      clear hgr8 hgr8' hat8 hv8 hg8
                      go_wp2_with fail
                      go_roundw
                      case rel => exact ⟨k + 1, out ++ [pp], _, by go_num, by omega, by simp; omega, HXX2.out, by rw [HD.out, HAT.out, HAO.out], HAG.out, HSS2.out, HSP2.out, HG8.out, HS8.out, HN8.out, HX8.out⟩
                      case measure => simp [intOf]; omega
                    case neg =>
                      go_wp2_with (at_builtin; refine wpList_append_xs rfl _ _ 24 28 rfl Try.underlying24 infoSl w4.heap.size (.slice (some ⟨w4.heap.size, 0, none⟩) 1 1) 1 [.slice (some ⟨b3, 0, none⟩) n c3] rfl (ownsRow_one (Nat.le_refl _)) (by simp) g k0 _ (seen.length - k0) (xs.drop k0) (by rw [List.length_drop, HXL.out] <;> omega) rfl (fun i x hi => by rw [List.getElem?_drop] at hi; exact ((Ext.refl _).alloc _).cell (HCE.out _ _ hi)) (fun u hu => HXS.out.cell u (List.mem_of_mem_drop hu)) (by omega) (by omega) (by simp) ?_)
                      intro v5 w5 hown5 hgr5 hv5
                      have hx5 : Ext w4 w5 := Ext.grown ((Ext.refl _).alloc _) hgr5 (ownsRow_one (Nat.le_refl _)) (Nat.le_refl _)
                      obtain ⟨g5, cap5, rfl, hc5, hg5, hs5, hcl5⟩ := ownsRow_parts hown5 hv5
                      have HC5 := Lib.hid hcl5
                      have z5 := hx5.size
                      clear hcl5 hgr5 hown5
                      go_wp2_with (at_builtin; refine wpList_append_xs rfl _ _ 24 28 rfl Try.underlying24 infoSl w5.heap.size (.slice (some ⟨w5.heap.size, 0, none⟩) 0 0) 0 [] rfl (ownsRow_lit (Nat.le_refl _)) (by simp) g 0 cap k0 (xs.take k0) (by rw [List.length_take, HXL.out]; omega) rfl (fun i x hi => by rw [Nat.zero_add]; have hi2 : xs[i]? = some x := (by rw [List.getElem?_take] at hi; split at hi <;> first | exact hi | cases hi); exact ((Ext.refl w5).alloc _).cell (hx5.cell (HCE.out i x hi2))) (fun u hu => HXS.out.cell u (List.mem_of_mem_take hu)) (by omega) (by omega) (by simp) ?_)
                      intro v6 w6 hown6 hgr6 hv6
                      have hx6 : Ext w5 w6 := Ext.grown ((Ext.refl w5).alloc _) hgr6 (ownsRow_lit (Nat.le_refl _)) (Nat.le_refl _)
                      have z6 := hx6.size
                      clear hgr6
                      go_wp2_with (at_builtin; refine wpList_append_xs rfl _ _ 24 28 rfl Try.underlying24 infoSl w5.heap.size v6 _ _ rfl hown6 hv6 g5 0 cap5 _ ([.slice (some ⟨b3, 0, none⟩) n c3] ++ xs.drop k0) (by rw [List.length_append, List.length_drop, HXL.out] <;> first | (simp; done) | (simp; omega)) rfl (fun i x hi => by rw [Nat.zero_add]; exact hx6.cell (HC5.out i x hi)) (fun u hu => (HXN.out).cell u hu) (by omega) (by omega) (by omega) ?_)
                      intro v7 w7 hown7 hgr7 hv7
                      have HX7 := Lib.hid (hx5.trans (Ext.grown hx6 hgr7 hown6 (Nat.le_refl _)))
                      have HO7 := Lib.hid (hown7.lt)
                      have HG7 := Lib.hid (show GrowT 28 w.heap.size w7 v7 (seen.take k0 ++ ([pp] ++ seen.drop k0)) from GrowT.of_xt (ownsRow_len (ownsRow_base hown7 (by omega)) (by rw [List.length_append, List.length_append, List.length_take, List.length_drop] <;> simp <;> omega)) (((HXS.out.take k0).append HXN.out).ext (HX7.out)))
                      have HV7 := Lib.hid hv7
                      have z7 := HX7.out.size
                      clear hgr7 hown7 hown6 hv6 hv7 hx5 hx6
                      have HXT := Lib.hid (HXW.out.trans HX7.out)
                      have zt := HXT.out.size
                      have HPOS := Lib.hid (show ∀ i, i < (seen.take k0 ++ ([pp] ++ seen.drop k0)).length → 0 < (row (seen.take k0 ++ ([pp] ++ seen.drop k0)) i).length from fun i hi => by
                        have := HAG.out.perm _ (HSP2.out.mem_iff.1 (rowG_mem hi))
                        rw [this.1]; omega)
                      have ohc7 := HXT.out.cell ohc
                      go_wp2_with (at_builtin; refine wpList_append_row_at rfl _ _ 24 28 rfl Try.underlying24 infoSl w.heap.size _ _ rfl (HGO.out.ext (HXT.out.trans (ext_box _ _ _))) _ b3 c3 pp rfl (by rw [HPL.out]; exact cell_new _ _ _) (HB0.out.ext (HX7.out.trans (ext_box _ _ _))) (by rw [HPL.out]; omega) (fun e => by have e2 : b3 = go := Option.some.inj e; have := HGLT.out; omega) (by omega) (by have := HGLT.out; simp; omega) ?_)
                      intro v8 w8 hg8 hgr8 hv8 hat8
                      have hgr8' : (w7.alloc (.cells #[.slice (some ⟨b3, 0, none⟩) n c3] 28)).grownBy w8 (some go) := hgr8
                      have HS8 := Lib.hid ((HG7.out.ext (ext_box w7 (.slice (some ⟨b3, 0, none⟩) n c3) 28)).grown hgr8' ((ext_box _ _ _).cell ohc7) HPOS.out (fun e => by have := HO7.out go e; have := HGLT.out; omega))
                      have HN8 := Lib.hid (show v8.ownBlock ≠ v7.ownBlock from fun e => by
                        rcases hat8 with e2 | e2
                        · rw [e2] at e
                          have := HO7.out go e.symm
                          have := HGLT.out
                          omega
                        · rw [e2] at e
                          have := HO7.out _ e.symm
                          first | omega | (simp at this; omega))
                      have HX8 := Lib.hid (ext_grownBy (HX.out.trans (HXT.out.trans (ext_box _ _ _))) hgr8' (fun k e => by injection e with e; have := HGLT.out; omega))
                      have HG8 := Lib.hid hg8
                      clear hgr8 hgr8' hat8 hv8 hg8
                      go_wp2_with fail
                      go_roundw
                      case rel => exact ⟨k + 1, out ++ [pp], _, by go_num, by omega, by simp; omega, HXX2.out, by rw [HD.out, HAT.out, HAO.out], HAG.out, HSS2.out, HSP2.out, HG8.out, HS8.out, HN8.out, HX8.out⟩
                      case measure => simp [intOf]; omega
end Go.Proofs.Ytjbloenjphpngaa
