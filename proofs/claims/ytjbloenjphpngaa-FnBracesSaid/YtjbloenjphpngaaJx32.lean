/-
  Callers of the iterator over isomorphisms: what they need besides; CountBraceAutomorphisms.
-/
import Derived.Test.YtjbloenjphpngaaProg
import Derived.Deep.DeepCutAuto
import Derived.Deep.DrawnRows
import Derived.RangeFuncNested
import Derived.RangeFuncBound
import Derived.RangeFuncCalls
import Derived.RangeFuncLeaves
import Derived.Shelf.Abstract
import Derived.Shelf.RegionOpen
import Derived.WalkKit
import Derived.OwnWalkIn
import Derived.TacticsInMore
import Derived.LoopNIn
import Derived.LoopIn
import Derived.Test.YtjbloenjphpngaaJx0
import Derived.Test.YtjbloenjphpngaaJx1
import Derived.Test.YtjbloenjphpngaaJx5
import Derived.Test.YtjbloenjphpngaaJx14
import Derived.Test.YtjbloenjphpngaaJx8
import Derived.Test.YtjbloenjphpngaaJx9
import Derived.Test.YtjbloenjphpngaaJx25
import Derived.Test.YtjbloenjphpngaaJx2
import Derived.Test.YtjbloenjphpngaaJx27
import Derived.Test.YtjbloenjphpngaaJx10
import Derived.Test.YtjbloenjphpngaaJx6
import Derived.Test.YtjbloenjphpngaaJx3
import Derived.Test.YtjbloenjphpngaaJx4
import Derived.Test.YtjbloenjphpngaaJx12
import Derived.Test.YtjbloenjphpngaaJx15
import Derived.Test.YtjbloenjphpngaaJx17
import Derived.Test.YtjbloenjphpngaaJx13
import Derived.Test.YtjbloenjphpngaaJx16
import Derived.Test.YtjbloenjphpngaaJx26
import Derived.Test.YtjbloenjphpngaaJx28
import Derived.Test.YtjbloenjphpngaaJx29
import Derived.Test.YtjbloenjphpngaaJx30
import Derived.Test.YtjbloenjphpngaaJx31
namespace Go.Proofs.Ytjbloenjphpngaa
set_option linter.unusedVariables false
set_option linter.unusedSimpArgs false
open Go.RowKit Go.Shelf
open Go.Deep

attribute [local go_sem] Oper.semAt_some

theorem tabsIn_of {base : Nat} {X : Nat → Prop} {wR w0 : World} {b o n : Nat} {ts : List (List (List Int))} (hR : ∀ k, k < ts.length → ∃ r, w0.cell? ⟨b, o + k, none⟩ = some r ∧ Rows wR r (tab ts k)) (hx : Ext wR w0) (hX : ∀ k, k < wR.heap.size → ¬ X k) (hb : b < base) (hXb : ¬ X b) (hbase : wR.heap.size ≤ base) (hT : TabsOk n ts) (h1 : 1 ≤ n) : TabsIn base X w0 b o n ts := by
  refine ⟨hb, hXb, fun k hk => ?_⟩
  obtain ⟨r, h2, h3⟩ := hR k hk
  obtain ⟨_, b1, o1, c1, rfl, h4⟩ := h3
  obtain ⟨ht, hl⟩ := hT k hk
  rw [hl] at h2
  have hrow : ∀ x, x < n → ∃ b2 o2 c2, wR.cell? ⟨b1, o1 + x, none⟩ = some (.slice (some ⟨b2, o2, none⟩) n c2) ∧ IntsAt wR b2 o2 (row (tab ts k) x) := fun x hx => by
    obtain ⟨b2, o2, c2, g1, g2, _⟩ := h4.get (i := x) (by omega)
    rw [ht.len (x := x) (by omega), hl] at g1
    exact ⟨b2, o2, c2, g1, g2⟩
  have hb1 : b1 < wR.heap.size := by
    obtain ⟨_, _, _, g, _⟩ := hrow 0 (by omega)
    exact World.block_lt_of_cell? _ _ g
  refine ⟨b1, o1, c1, by omega, hX b1 hb1, h2, fun x hxn => ?_⟩
  obtain ⟨b2, o2, c2, g1, g2⟩ := hrow x hxn
  have hlx := ht.len (x := x) (by omega)
  have hb2 : b2 < wR.heap.size := World.block_lt_of_cell? _ _ (g2 0 (by omega))
  exact ⟨b2, o2, c2, by omega, hX b2 hb2, hx.cell g1, fun y hy => hx.cell (g2.ent (by omega) hy)⟩

theorem tabs1 {wR W0 : World} {b : Nat} {t : List (List Int)} {r : Value} (c0 : W0.cell? ⟨b, 0, none⟩ = some r) (h : Rows wR r t) : ∀ k, k < [t].length → ∃ r, W0.cell? ⟨b, 0 + k, none⟩ = some r ∧ Rows wR r (tab [t] k) := fun k hk => by
  have : k = 0 := by simpa using hk
  subst this
  exact ⟨r, c0, by rw [tab_one]; exact h⟩

theorem tabs2 {wR W0 : World} {b : Nat} {t u : List (List Int)} {r r2 : Value} (c0 : W0.cell? ⟨b, 0, none⟩ = some r) (h : Rows wR r t) (c1 : W0.cell? ⟨b, 1, none⟩ = some r2) (h2 : Rows wR r2 u) : ∀ k, k < [t, u].length → ∃ r, W0.cell? ⟨b, 0 + k, none⟩ = some r ∧ Rows wR r (tab [t, u] k) := fun k hk => by
  have : k = 0 ∨ k = 1 := by have := hk; simp at this; omega
  rcases this with rfl | rfl
  · exact ⟨r, c0, by rw [tab_two0]; exact h⟩
  · exact ⟨r2, c1, by rw [tab_two1]; exact h2⟩

/-- all that was there at w is as it was; the iterator's blocks are new since w -/
def Since (w : World) (O : Nat → Prop) (W : World) : Prop := Ext w W ∧ ∀ k, O k → w.heap.size ≤ k

theorem Since.next {w W W' : World} {O O' : Nat → Prop} (h : Since w O W) (ho : Only O W W') (hO : ∀ k, O' k → O k ∨ W.heap.size ≤ k) : Since w O' W' := by
  obtain ⟨h1, h2⟩ := h
  refine ⟨⟨ho.os.trans h1.os, ho.tape.trans h1.tape, ho.output.trans h1.output, Nat.le_trans h1.size ho.size, fun k hk => (ho.keep k (Nat.lt_of_lt_of_le hk h1.size) (fun e => by have := h2 k e; omega)).trans (h1.block k hk)⟩, fun k e => ?_⟩
  rcases hO k e with e | e
  · exact h2 k e
  · have := h1.size; omega

/-- a cell of the caller's own -/
def Mine (O : Nat → Prop) (W : World) (C : Nat) (v : Value) : Prop := W.cell? ⟨C, 0, none⟩ = some v ∧ W.frozen? ⟨C, 0, none⟩ = false ∧ ¬ O C

theorem Mine.lt {O : Nat → Prop} {W : World} {C : Nat} {v : Value} (h : Mine O W C v) : C < W.heap.size := World.block_lt_of_cell? _ _ h.1

theorem Mine.next {W W' : World} {O O' : Nat → Prop} {C : Nat} {v : Value} (h : Mine O W C v) (ho : Only O W W') (hO : ∀ k, O' k → O k ∨ W.heap.size ≤ k) : Mine O' W' C v := by
  have hl := h.lt
  obtain ⟨h1, h2, h3⟩ := h
  have e := ho.keep C hl h3
  refine ⟨by rw [World.cell?_of_block (w := W) (a := ⟨C, 0, none⟩) e]; exact h1, by rw [World.frozen?_of_block (w := W) (a := ⟨C, 0, none⟩) e]; exact h2, fun e => ?_⟩
  rcases hO C e with e | e
  · exact h3 e
  · omega

theorem Rnd.refl {base : Nat} {X : Nat → Prop} (O : Nat → Prop) (W : World) : Rnd base X O W W := ⟨Nat.le_refl _, fun _ _ _ => rfl, fun _ _ _ => rfl⟩

/-- a store into a cell of the caller's -/
theorem Rnd.setCell {base : Nat} {X : Nat → Prop} {O : Nat → Prop} {W W' : World} (h : Rnd base X O W W') {a : Addr} (hO : ¬ O a.block) (hX : X a.block ∨ base ≤ a.block) (v : Value) : Rnd base X O W (W'.setCell a v) :=
  ⟨by have := h.size; simp; exact this, fun k hk hk2 => (Below.heap_setCell _ _ _ _ (fun e => hO (e ▸ hk2))).trans (h.own k hk hk2), fun k hk hk2 => by
    have e : k ≠ a.block := fun e => by subst e; rcases hX with h | h
                                        · exact hk2 h
                                        · omega
    exact (Below.heap_setCell _ _ _ _ e).trans (h.below k hk hk2)⟩

theorem Rnd.ext {base : Nat} {X : Nat → Prop} {O : Nat → Prop} {W W' W2 : World} (h : Rnd base X O W W') (hx : Ext W' W2) (hb : base ≤ W'.heap.size) : Rnd base X O W W2 :=
  ⟨Nat.le_trans h.size hx.size, fun k hk hk2 => (hx.block k (Nat.lt_of_lt_of_le hk h.size)).trans (h.own k hk hk2), fun k hk hk2 => (hx.block k (by omega)).trans (h.below k hk hk2)⟩

theorem Ext.putObj {w W : World} (h : Ext w W) {D : Nat} (hD : w.heap.size ≤ D) (o : Obj) : Ext w (W.putObj D o) :=
  ⟨h.os, h.tape, h.output, by have := h.size; simp [World.putObj]; exact this, fun k hk => (World.putObj_heap_other (by omega)).trans (h.block k hk)⟩

end Go.Proofs.Ytjbloenjphpngaa

/-
  GroupIsomorphism of the program.
-/
namespace Go.Proofs.Ytjbloenjphpngaa
set_option linter.unusedVariables false
set_option linter.unusedSimpArgs false
open Go.RowKit Go.Shelf
open Go.Deep

attribute [local go_sem] Oper.semAt_some

/-- a list of the caller's own -/
def MineI (lo : Nat) (O : Nat → Prop) (W : World) (b : Nat) (l : List Int) : Prop := OwnI lo W.heap.size W b 0 l ∧ ¬ O b

theorem MineI.next {lo : Nat} {W W' : World} {O O' : Nat → Prop} {b : Nat} {l : List Int} (h : MineI lo O W b l) (ho : Only O W W') (hO : ∀ k, O' k → O k ∨ W.heap.size ≤ k) : MineI lo O' W' b l := by
  obtain ⟨⟨h1, h2, h3, h4⟩, h5⟩ := h
  have e := ho.keep b h2 h5
  refine ⟨⟨h1, Nat.lt_of_lt_of_le h2 ho.size, h3.block e, h4.block e⟩, fun e => ?_⟩
  rcases hO b e with e | e
  · exact h5 e
  · omega

theorem cell_putObj {W : World} {a : Addr} {v : Value} {D : Nat} {x : Option (List Deferred)} (h : W.cell? a = some v) (hK : W.heap[D]? = some (.deferred x)) (o : Obj) : (W.putObj D o).cell? a = some v :=
  cell_kept h (grownBy_putObj' _ D o) (fun r e => by cases e; exact ⟨_, hK, rfl⟩)

theorem ne_deferred {W : World} {b : Nat} {l : List Int} {D : Nat} {x : Option (List Deferred)} (h : IntsAt W b 0 l) (hl : 0 < l.length) (hK : W.heap[D]? = some (.deferred x)) : b ≠ D := fun e => by
  have hc := h 0 hl
  obtain ⟨o, ho, hc2⟩ := cells_of_cell hc
  subst e
  rw [hK] at ho
  cases ho
  cases hc2

theorem OwnI.putObj {lo hi : Nat} {W : World} {b : Nat} {l : List Int} {D : Nat} {x : Option (List Deferred)} (h : OwnI lo hi W b 0 l) (hl : 0 < l.length) (hK : W.heap[D]? = some (.deferred x)) (o : Obj) : OwnI lo hi (W.putObj D o) b 0 l :=
  h.block (World.putObj_heap_other (ne_deferred h.2.2.1 hl hK))

/-- between two rounds, and behind a round that has returned -/
def GiI (w : World) (xs : List (List Int)) (O : Nat → Prop) (W : World) : Prop := xs = [] ∧ Mine O W (w.heap.size + 2) (.slice none 0 0) ∧ Mine O W (w.heap.size + 3) (.int .i64 0) ∧ Since w O W

def GiX (w : World) (c : Code) (xs : List (List Int)) (O : Nat → Prop) (W : World) : Prop := c = .ret ∧ ∃ p b cc, xs = [p] ∧ Mine O W (w.heap.size + 2) (.slice (some ⟨b, 0, none⟩) p.length cc) ∧ MineI w.heap.size O W b p ∧ Mine O W (w.heap.size + 3) (.int .i64 0) ∧ Since w O W

theorem giI_stab (w : World) : Stab (GiI w) := fun xs O O' W W' h ho hO => ⟨h.1, h.2.1.next ho hO, h.2.2.1.next ho hO, h.2.2.2.next ho hO⟩

theorem giX_stab (w : World) (c : Code) : Stab (GiX w c) := fun xs O O' W W' ⟨h0, p, b, cc, h1, h2, h3, h4, h5⟩ ho hO => ⟨h0, p, b, cc, h1, h2.next ho hO, h3.next ho hO, h4.next ho hO, h5.next ho hO⟩

end Go.Proofs.Ytjbloenjphpngaa
