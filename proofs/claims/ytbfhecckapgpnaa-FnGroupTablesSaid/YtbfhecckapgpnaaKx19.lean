/-
  Contract of l03Seek: the maps that go on with a beginning.
-/
import Derived.Test.YtbfhecckapgpnaaProg
import Derived.Deep.DeepCutAuto
import Derived.Deep.RegionWith
import Derived.Deep.RegionHeld3
import Derived.Deep.DrawnRows
import Derived.IntWalk
import Derived.Maps.AppendAt
import Derived.Test.YtbfhecckapgpnaaKx0
import Derived.Test.YtbfhecckapgpnaaKx1
import Derived.Test.YtbfhecckapgpnaaKx2
import Derived.Test.YtbfhecckapgpnaaKx8
import Derived.Test.YtbfhecckapgpnaaKx9
import Derived.Test.YtbfhecckapgpnaaKx7
import Derived.Test.YtbfhecckapgpnaaKx5
import Derived.Test.YtbfhecckapgpnaaKx10
import Derived.Test.YtbfhecckapgpnaaKx6
import Derived.Test.YtbfhecckapgpnaaKx12
import Derived.Test.YtbfhecckapgpnaaKx14
import Derived.Test.YtbfhecckapgpnaaKx16
import Derived.Test.YtbfhecckapgpnaaKx17
import Derived.Test.YtbfhecckapgpnaaKx18
namespace Go.Proofs.Ytbfhecckapgpnaa
set_option linter.unusedVariables false
set_option linter.unusedSimpArgs false
open Go.RowKit
attribute [local go_sem ↓] Go.wp_at_zero Go.wp_at_succ

theorem own_grow (l : List Int) (v : Value) (w : World) (hv : Ints w v l) :
    Calls Try.prog 126 #[v] w fun e w' => ∃ b c, e = .returned (.slice (some ⟨b, 0, none⟩) l.length c) ∧ GrowI 2 w.heap.size w' (.slice (some ⟨b, 0, none⟩) l.length c) l ∧ OwnI w.heap.size w'.heap.size w' b 0 l ∧ Ext w w' := by
  obtain ⟨hlen, b, o, c, rfl, hc⟩ := hv
  have hx0 : Ext w (w.alloc (.cells #[] 2)) := (Ext.refl _).alloc _
  have hi0 := GrowI.lit (e := 2) (base := w.heap.size) (w := w) (Nat.le_refl _)
  go_enter Try.func126, Try.ntmps126
  go_wp2_with (at_builtin; refine wpList_append_ints rfl _ _ 45 2 rfl Try.underlying45 infoInt w.heap.size _ _ rfl hi0 b o c l rfl (hc.ext hx0) (by simp) hlen (by simp) ?_)
  intro v' w3 hi3 hgr hv3
  have hx3 : Ext w w3 := hx0.grown hgr hi0 (Nat.le_refl _)
  obtain ⟨b3, c3, rfl, ho⟩ := hi3.own (fun h => by first | exact hv3 h | simpa using (hv3.1 h).1)
  go_wp2
  go_ret
  exact ⟨b3, c3, rfl, hi3, ho, hx3⟩

/-- append(v, r) at a slice of rows, and where the new slice lies -/
theorem wpList_append_row_at {P : Program} {w : World} {ops : Array Oper} {rest : List Oper} {o : Oper} {a : Act} {Q : Exit → Act → World → Prop} (hgd : o.guard = none) (s x : Operand) (t e : TypeId)
    (ho : o.op = .call { callee := .builtin .append, args := #[s, x], argTypes := #[t, t] }) (ht : P.underlying t = some (.slice e)) (hinfo : (P.info? e).map (fun i => (i.zero, i.size, i.bytes)) = some (some (.slice none 0 0), 1, 24))
    (base : Nat) (v : Value) (tb : List (List Int)) (hs : a.eval s = v) (hown : GrowT e base w v tb) (g : Nat) (br cr : Nat) (l : List Int) (hx : a.eval x = .slice (some ⟨g, 0, none⟩) 1 1) (hc : w.cell? ⟨g, 0, none⟩ = some (.slice (some ⟨br, 0, none⟩) l.length cr)) (hr : IntsAt w br 0 l)
    (hrl : l.length ≤ 1048576) (hne : some br ≠ v.ownBlock)
    (hl : tb.length ≤ 1048576) (hbase : base ≤ w.heap.size)
    (h : ∀ v' w', GrowT e base w' v' (tb ++ [l]) → w.grownBy w' v.ownBlock → v' ≠ .slice none 0 0 → (v'.ownBlock = v.ownBlock ∨ v'.ownBlock = some w.heap.size) → wpList P ops Q rest (a.put o.dst v') w') : wpList P ops Q (o :: rest) a w := by
  obtain ⟨i0, hi, hz0, hz1, hz2⟩ := info_parts hinfo
  obtain ⟨xs, h1, h2⟩ := hown
  refine wpList_append_own_at w hgd s x t ho base e i0 (.slice none 0 0) 1 24 ht hi hz0 hz1 hz2 rfl (by decide) v tb.length xs hs h1 ⟨g, 0, none⟩ 1 1 [.slice (some ⟨br, 0, none⟩) l.length cr] hx rfl ?_ ?_ (by unfold maxLen; omega) (by omega) hbase ?_
  · intro j u hj
    match j, hj with
    | 0, hj => simp at hj; subst hj; simpa [Addr.add] using hc
  · intro u hu; simp at hu; subst hu; rfl
  · intro v' w' k1 k2 k3 k4
    refine h v' w' ⟨xs ++ [.slice (some ⟨br, 0, none⟩) l.length cr], by simpa using k1, fun i hi => ?_⟩ k2 (fun e => by have := k3.1 e; simp at this) k4
    have hxl : xs.length = tb.length := by simpa using h1.1
    by_cases hi' : i < tb.length
    · obtain ⟨q0, b, c, q1, q2⟩ := h2 i hi'
      have hrow : row (tb ++ [l]) i = row tb i := by rw [row_eq, row_eq]; simp [List.getD, List.getElem?_append_left hi']
      rw [hrow]
      refine ⟨q0, b, c, by rw [List.getElem?_append_left (by omega)]; exact q1, intsAt_grown q2 k2 (fun hne' hb => ?_)⟩
      have hpos : 0 < (row tb i).length := List.length_pos_iff.2 hne'
      have hcc := q2 0 hpos
      obtain ⟨_, b0, c0, z1, _⟩ := h2 0 (by omega)
      have := World.ownsRow.cells h1 (g := b) hb.symm 0 _ z1
      rw [Addr.add_lit] at this
      rw [this] at hcc
      simp at hcc
    · have hie : i = tb.length := by simp at hi; omega
      subst hie
      have hrow : row (tb ++ [l]) tb.length = l := by rw [row_eq]; simp [List.getD]
      rw [hrow]
      exact ⟨hrl, br, cr, by rw [List.getElem?_append_right (by omega), hxl]; simp, intsAt_grown hr k2 (fun _ => hne)⟩

/-- all that was there is as it was, but for one block perhaps -/
theorem Ext.grownBy {w w' : World} (h : Ext w w') (row : Option Nat) : w.grownBy w' row := ⟨h.os, h.tape, h.output, h.size, fun k hk _ => h.block k hk⟩
theorem grownBy_ext {w w1 w' : World} {row : Option Nat} (h : w.grownBy w1 row) (hx : Ext w1 w') : w.grownBy w' row :=
  ⟨hx.os.trans h.os, hx.tape.trans h.tape, hx.output.trans h.output, Nat.le_trans h.size hx.size, fun k hk hr => (hx.block k (Nat.lt_of_lt_of_le hk h.size)).trans (h.block k hk hr)⟩
theorem grownBy_trans {w w1 w' : World} {row row' : Option Nat} (h : w.grownBy w1 row) (k : w1.grownBy w' row') (hr : row' = row ∨ ∃ g, row' = some g ∧ w.heap.size ≤ g) : w.grownBy w' row :=
  ⟨k.os.trans h.os, k.tape.trans h.tape, k.output.trans h.output, Nat.le_trans h.size k.size, fun q hq hn => by
    refine (k.block q (Nat.lt_of_lt_of_le hq h.size) ?_).trans (h.block q hq hn)
    rcases hr with e | ⟨g, e, hg⟩
    · rw [e]; exact hn
    · rw [e]; intro h; injection h with h; omega⟩
theorem IntsAt.grown {w w' : World} {b o : Nat} {l : List Int} {row : Option Nat} (h : IntsAt w b o l) (hg : w.grownBy w' row) (hne : row ≠ some b) : IntsAt w' b o l := fun i hi =>
  hg.cell (h i hi) (fun e => hne e.symm)
theorem ext_grownBy {a w w' : World} {row : Option Nat} (h : Ext a w) (hg : w.grownBy w' row) (hr : ∀ k, row = some k → a.heap.size ≤ k) : Ext a w' := Below.grown h hg h.size hr


def OwnAt (vo vo' : Value) (w : World) : Prop := vo'.ownBlock = vo.ownBlock ∨ ∃ g, vo'.ownBlock = some g ∧ w.heap.size ≤ g
theorem OwnAt.ne {vo vo' : Value} {w : World} {b : Nat} (h : OwnAt vo vo' w) (hne : vo.ownBlock ≠ some b) (hb : b < w.heap.size) : vo'.ownBlock ≠ some b := by
  rcases h with e | ⟨g, e, hg⟩
  · rw [e]; exact hne
  · rw [e]; intro h; injection h with h; omega
theorem intsAt_lt {w : World} {b o : Nat} {l : List Int} (h : IntsAt w b o l) (hl : 0 < l.length) : b < w.heap.size := World.block_lt_of_cell? _ _ (h 0 hl)
theorem ix_set' (l : List Int) (i j : Nat) (v : Int) (hj : j < l.length) : ix (l.set i v) j = if i = j then v else ix l j := by
  rw [ix_eq, ix_eq]
  by_cases h : i = j
  · subst h; simp [List.getD, hj]
  · simp [List.getD, h, List.getElem?_set_ne]
theorem intsAt_set {w : World} {b i : Nat} {l : List Int} {y : Int} (h : IntsAt w b 0 l) (hi : i < l.length) : IntsAt (w.setCell ⟨b, i, none⟩ (.int .i64 y)) b 0 (l.set i y) :=
  h.set0 i y hi (by simp) (fun j hj hl => by rw [ix_set' _ _ _ _ hl, if_neg (fun e => hj e.symm)]) (by rw [ix_set' _ _ _ _ hi, if_pos rfl])
theorem fits_no {n m : Nat} {az bz : List (List (List Int))} {f : List Int} (hA : TabsOk n az) (hf : ∀ i, i < f.length → 0 ≤ ix f i) (hl : f.length = m + 1) (hm : m < n) (h : fitsB az bz f m = false) : extL n az bz f = [] := by
  apply Classical.byContradiction
  intro hne
  have : fitsB az bz f m = true := fitsB_iff.2 fun k hk x hx y hy => by
    by_cases h1 : (m : Int) < ent (tab az k) x y
    · exact .inl h1
    · refine .inr (.inr ?_)
      apply Classical.byContradiction
      intro hno
      exact hne (ext_no_fit hA hf (by omega) hk (by omega) (by omega) (by omega) hno)
  rw [this] at h
  cases h
theorem fits_yes {n m : Nat} {az bz : List (List (List Int))} {f : List Int} {y : Nat} (hA : TabsOk n az) (hb : Begun n az bz f) (hl : f.length = m) (hm : m < n) (hy : y < n) (hh : hasB f y = false) (h : fitsB az bz (f ++ [(y : Int)]) m = true) : Begun n az bz (f ++ [(y : Int)]) := by
  subst hl
  exact begun_snoc (l := 0) hb hy hh (fun k hk x hx q hq => fitsB_iff.1 h k hk x hx q hq) (fun k hk x hx q hq => (hA.bd hk (by omega) (by omega)).1)
def SeekPost (n most : Nat) (az bz : List (List (List Int))) (f : List Int) (s : List (List Int)) (vo : Value) (base : Nat) (w : World) (e : Ending) (w' : World) : Prop :=
  ∃ v', e = .returned v' ∧ GrowT 45 base w' v' (s ++ (extL n az bz f).take (most - s.length)) ∧ w.grownBy w' vo.ownBlock ∧ OwnAt vo v' w

end Go.Proofs.Ytbfhecckapgpnaa
