/-
  Callers of the iterator over isomorphisms: what they need besides; CountBraceAutomorphisms.
-/
import Derived.Test.YthlafeefjonkdaaDoorProg
import Derived.Deep.DeepCutAuto
import Derived.Deep.DrawnRows
import Derived.RangeFuncNested
import Derived.RangeFuncBound
import Derived.RangeFuncCalls
import Derived.RangeFuncLeaves
import Derived.Shelf.Abstract
import Derived.Shelf.RegionOpen
import Derived.WalkKit
import Derived.OwnWalkIn
import Derived.TacticsInMore
import Derived.LoopNIn
import Derived.LoopIn
import Derived.Test.YthlafeefjonkdaaDoorJx0
import Derived.Test.YthlafeefjonkdaaDoorJx1
import Derived.Test.YthlafeefjonkdaaDoorJx3
import Derived.Test.YthlafeefjonkdaaDoorJx4
import Derived.Test.YthlafeefjonkdaaDoorJx11
import Derived.Test.YthlafeefjonkdaaDoorJx5
import Derived.Test.YthlafeefjonkdaaDoorJx8
import Derived.Test.YthlafeefjonkdaaDoorJx6
import Derived.Test.YthlafeefjonkdaaDoorJx10
import Derived.Test.YthlafeefjonkdaaDoorJx16
import Derived.Test.YthlafeefjonkdaaDoorJx17
import Derived.Test.YthlafeefjonkdaaDoorJx18
import Derived.Test.YthlafeefjonkdaaDoorJx7
namespace Go.Proofs.YthlafeefjonkdaaDoor
set_option linter.unusedVariables false
set_option linter.unusedSimpArgs false
open Go.RowKit Go.Shelf
open Go.Deep

attribute [local go_sem] Oper.semAt_some

/-- all that was there at w is as it was; the iterator's blocks are new since w -/
def Since (w : World) (O : Nat → Prop) (W : World) : Prop := Ext w W ∧ ∀ k, O k → w.heap.size ≤ k

theorem Since.next {w W W' : World} {O O' : Nat → Prop} (h : Since w O W) (ho : Only O W W') (hO : ∀ k, O' k → O k ∨ W.heap.size ≤ k) : Since w O' W' := by
  obtain ⟨h1, h2⟩ := h
  refine ⟨⟨ho.os.trans h1.os, ho.tape.trans h1.tape, ho.output.trans h1.output, Nat.le_trans h1.size ho.size, fun k hk => (ho.keep k (Nat.lt_of_lt_of_le hk h1.size) (fun e => by have := h2 k e; omega)).trans (h1.block k hk)⟩, fun k e => ?_⟩
  rcases hO k e with e | e
  · exact h2 k e
  · have := h1.size; omega

/-- a cell of the caller's own -/
def Mine (O : Nat → Prop) (W : World) (C : Nat) (v : Value) : Prop := W.cell? ⟨C, 0, none⟩ = some v ∧ W.frozen? ⟨C, 0, none⟩ = false ∧ ¬ O C

theorem Mine.lt {O : Nat → Prop} {W : World} {C : Nat} {v : Value} (h : Mine O W C v) : C < W.heap.size := World.block_lt_of_cell? _ _ h.1

theorem Mine.next {W W' : World} {O O' : Nat → Prop} {C : Nat} {v : Value} (h : Mine O W C v) (ho : Only O W W') (hO : ∀ k, O' k → O k ∨ W.heap.size ≤ k) : Mine O' W' C v := by
  have hl := h.lt
  obtain ⟨h1, h2, h3⟩ := h
  have e := ho.keep C hl h3
  refine ⟨by rw [World.cell?_of_block (w := W) (a := ⟨C, 0, none⟩) e]; exact h1, by rw [World.frozen?_of_block (w := W) (a := ⟨C, 0, none⟩) e]; exact h2, fun e => ?_⟩
  rcases hO C e with e | e
  · exact h3 e
  · omega

theorem Rnd.refl {base : Nat} {X : Nat → Prop} (O : Nat → Prop) (W : World) : Rnd base X O W W := ⟨Nat.le_refl _, fun _ _ _ => rfl, fun _ _ _ => rfl⟩

/-- a store into a cell of the caller's -/
theorem Rnd.setCell {base : Nat} {X : Nat → Prop} {O : Nat → Prop} {W W' : World} (h : Rnd base X O W W') {a : Addr} (hO : ¬ O a.block) (hX : X a.block ∨ base ≤ a.block) (v : Value) : Rnd base X O W (W'.setCell a v) :=
  ⟨by have := h.size; simp; exact this, fun k hk hk2 => (Below.heap_setCell _ _ _ _ (fun e => hO (e ▸ hk2))).trans (h.own k hk hk2), fun k hk hk2 => by
    have e : k ≠ a.block := fun e => by subst e; rcases hX with h | h
                                        · exact hk2 h
                                        · omega
    exact (Below.heap_setCell _ _ _ _ e).trans (h.below k hk hk2)⟩

theorem Rnd.ext {base : Nat} {X : Nat → Prop} {O : Nat → Prop} {W W' W2 : World} (h : Rnd base X O W W') (hx : Ext W' W2) (hb : base ≤ W'.heap.size) : Rnd base X O W W2 :=
  ⟨Nat.le_trans h.size hx.size, fun k hk hk2 => (hx.block k (Nat.lt_of_lt_of_le hk h.size)).trans (h.own k hk hk2), fun k hk hk2 => (hx.block k (by omega)).trans (h.below k hk hk2)⟩

theorem Ext.putObj {w W : World} (h : Ext w W) {D : Nat} (hD : w.heap.size ≤ D) (o : Obj) : Ext w (W.putObj D o) :=
  ⟨h.os, h.tape, h.output, by have := h.size; simp [World.putObj]; exact this, fun k hk => (World.putObj_heap_other (by omega)).trans (h.block k hk)⟩

end Go.Proofs.YthlafeefjonkdaaDoor

/-
  GroupIsomorphism of the program.
-/
namespace Go.Proofs.YthlafeefjonkdaaDoor
set_option linter.unusedVariables false
set_option linter.unusedSimpArgs false
open Go.RowKit Go.Shelf
open Go.Deep

attribute [local go_sem] Oper.semAt_some

/-- a list of the caller's own -/
def MineI (lo : Nat) (O : Nat → Prop) (W : World) (b : Nat) (l : List Int) : Prop := OwnI lo W.heap.size W b 0 l ∧ ¬ O b

theorem MineI.next {lo : Nat} {W W' : World} {O O' : Nat → Prop} {b : Nat} {l : List Int} (h : MineI lo O W b l) (ho : Only O W W') (hO : ∀ k, O' k → O k ∨ W.heap.size ≤ k) : MineI lo O' W' b l := by
  obtain ⟨⟨h1, h2, h3, h4⟩, h5⟩ := h
  have e := ho.keep b h2 h5
  refine ⟨⟨h1, Nat.lt_of_lt_of_le h2 ho.size, h3.block e, h4.block e⟩, fun e => ?_⟩
  rcases hO b e with e | e
  · exact h5 e
  · omega

theorem ne_deferred {W : World} {b : Nat} {l : List Int} {D : Nat} {x : Option (List Deferred)} (h : IntsAt W b 0 l) (hl : 0 < l.length) (hK : W.heap[D]? = some (.deferred x)) : b ≠ D := fun e => by
  have hc := h 0 hl
  obtain ⟨o, ho, hc2⟩ := cells_of_cell hc
  subst e
  rw [hK] at ho
  cases ho
  cases hc2

theorem OwnI.putObj {lo hi : Nat} {W : World} {b : Nat} {l : List Int} {D : Nat} {x : Option (List Deferred)} (h : OwnI lo hi W b 0 l) (hl : 0 < l.length) (hK : W.heap[D]? = some (.deferred x)) (o : Obj) : OwnI lo hi (W.putObj D o) b 0 l :=
  h.block (World.putObj_heap_other (ne_deferred h.2.2.1 hl hK))

end Go.Proofs.YthlafeefjonkdaaDoor
