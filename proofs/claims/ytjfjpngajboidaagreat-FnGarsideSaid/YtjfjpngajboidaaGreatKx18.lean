/-
  Two tables that grow in a variable, row by row; two rows that grow side by side. No program in sight.
-/
import Derived.Test.YtjfjpngajboidaaGreatKx11
namespace Go.Proofs.YtjfjpngajboidaaGreat
set_option linter.unusedVariables false
set_option linter.unusedSimpArgs false
open Go.RowKit

def InR (n : Nat) (l : List Int) : Prop := ∀ x, x ∈ l → 0 ≤ x ∧ x < n
theorem InR.nil (n : Nat) : InR n [] := fun x h => by cases h
theorem InR.app {n : Nat} {l : List Int} {x : Int} (h : InR n l) (h0 : 0 ≤ x) (h1 : x < n) : InR n (l ++ [x]) := fun y hy => by
  rcases List.mem_append.1 hy with e | e
  · exact h y e
  · rw [List.mem_singleton.1 e]; exact ⟨h0, h1⟩
theorem InR.ix {n : Nat} {l : List Int} (h : InR n l) {i : Nat} (hi : i < l.length) : 0 ≤ ix l i ∧ ix l i < n := by
  refine h _ ?_
  rw [ix_eq, List.getD_eq_getElem?_getD, List.getElem?_eq_getElem hi]
  exact List.getElem_mem hi
def RowsIn (n : Nat) (t : List (List Int)) : Prop := ∀ r, r ∈ t → r.length = n ∧ InR n r
theorem RowsIn.nil (n : Nat) : RowsIn n [] := fun r h => by cases h
theorem RowsIn.app {n : Nat} {t : List (List Int)} {l : List Int} (h : RowsIn n t) (hl : l.length = n) (hi : InR n l) : RowsIn n (t ++ [l]) := fun y hy => by
  rcases List.mem_append.1 hy with e | e
  · exact h y e
  · rw [List.mem_singleton.1 e]; exact ⟨hl, hi⟩
theorem RowsIn.table {n : Nat} {t : List (List Int)} (h : RowsIn n t) (hl : t.length = n) (h1 : 1 ≤ n) (h12 : n ≤ 12) : TableOk t := by
  have hr : ∀ x, x < n → row t x ∈ t := fun x hx => by rw [row_eq, List.getD_eq_getElem?_getD, List.getElem?_eq_getElem (by omega)]; exact List.getElem_mem (by omega)
  subst hl
  refine ⟨h1, h12, fun x hx => ⟨by rw [(h _ (hr x hx)).1], fun y hy => ?_⟩⟩
  have := (h _ (hr x hx)).2.ix (i := y) (by rw [(h _ (hr x hx)).1]; exact hy)
  rw [ent_def] at this
  omega
theorem RF.extS {lo : Nat} {D : Nat → Prop} {w w' : World} {x : Value} {l : List Int} (h : RF lo D w x l) (hx : Ext w w') : RF lo D w' x l := h.keep hx.size fun k _ hk _ => hx.block k hk
theorem RF.setDS {lo : Nat} {D D' : Nat → Prop} {w : World} {b n c : Nat} {l : List Int} (h : RF lo D w (.slice (some ⟨b, 0, none⟩) n c) l) (hD : ¬ D' b) : RF lo D' w (.slice (some ⟨b, 0, none⟩) n c) l := by
  obtain ⟨h0, b', c', e, h2, h3, h4, h5⟩ := h
  simp only [Value.slice.injEq, Option.some.injEq, Addr.mk.injEq, and_true] at e
  obtain ⟨rfl, rfl, rfl⟩ := e
  exact ⟨h0, b, c, rfl, h2, h3, hD, h5⟩
theorem RF.atS {lo : Nat} {D : Nat → Prop} {w : World} {b n c : Nat} {l : List Int} (h : RF lo D w (.slice (some ⟨b, 0, none⟩) n c) l) : lo ≤ b ∧ b < w.heap.size ∧ l.length = n := by
  obtain ⟨h0, b', c', e, h2, h3, -⟩ := h
  simp only [Value.slice.injEq, Option.some.injEq, Addr.mk.injEq, and_true] at e
  obtain ⟨rfl, e2, rfl⟩ := e
  exact ⟨h2, h3, e2.symm⟩
structure PairG (e lo B C N k m : Nat) (w0 wr : World) (v1 v2 : Value) (xs ys : List Value) (t1 t2 : List (List Int)) : Prop where
  tw : Twin e lo wr v1 v2 xs ys t1 t2
  l1 : t1.length = k
  l2 : t2.length = m
  r1 : RowsIn N t1
  r2 : RowsIn N t2
  bc : BoxV C wr v1 v2
  bb : BoxV B wr (.slice none 0 0) (.slice none 0 0)
  x0 : Ext w0 wr
  lo1 : lo ≤ wr.heap.size
  b1 : B < lo
  c1 : C < lo
  ne : B ≠ C
  b2 : w0.heap.size ≤ B
  c2 : w0.heap.size ≤ C
section
variable {e lo B C N k m : Nat} {w0 wr w' : World} {v1 v2 : Value} {xs ys : List Value} {t1 t2 : List (List Int)} {l : List Int}
theorem PairG.start (e N : Nat) (h1 : BoxV C wr (.slice none 0 0) (.slice none 0 0)) (h2 : BoxV B wr (.slice none 0 0) (.slice none 0 0)) (hx : Ext w0 wr) (hlo : lo ≤ wr.heap.size) (hb : B < lo) (hc : C < lo) (hne : B ≠ C) (hb2 : w0.heap.size ≤ B) (hc2 : w0.heap.size ≤ C) : PairG e lo B C N 0 0 w0 wr (.slice none 0 0) (.slice none 0 0) [] [] [] [] :=
  ⟨Twin.nil _ _ _, rfl, rfl, RowsIn.nil _, RowsIn.nil _, h1, h2, hx, hlo, hb, hc, hne, hb2, hc2⟩
theorem PairG.ext (h : PairG e lo B C N k m w0 wr v1 v2 xs ys t1 t2) (hx : Ext wr w') : PairG e lo B C N k m w0 w' v1 v2 xs ys t1 t2 :=
  ⟨h.tw.ext hx, h.l1, h.l2, h.r1, h.r2, h.bc.ext hx, h.bb.ext hx, h.x0.trans hx, Nat.le_trans h.lo1 hx.size, h.b1, h.c1, h.ne, h.b2, h.c2⟩
theorem PairG.touch {S : Nat} (h : PairG e lo B C N k m w0 wr v1 v2 xs ys t1 t2) (hT : Touch S (S + 1) wr w') (hS : S < w0.heap.size) (hx : Ext w0 w') : PairG e lo B C N k m w0 w' v1 v2 xs ys t1 t2 :=
  ⟨h.tw.touch hT (by have := h.b1; have := h.b2; omega), h.l1, h.l2, h.r1, h.r2, h.bc.keep hT.size (hT.block _ h.bc.1 (by have := h.c2; omega)), h.bb.keep hT.size (hT.block _ h.bb.1 (by have := h.b2; omega)), hx, Nat.le_trans h.lo1 hT.size, h.b1, h.c1, h.ne, h.b2, h.c2⟩
theorem PairG.own1 (h : PairG e lo B C N k m w0 wr v1 v2 xs ys t1 t2) : wr.ownsRow lo e 1 v1 k xs := by have := h.tw.f.own; rwa [h.l1] at this
theorem PairG.own2 (h : PairG e lo B C N k m w0 wr v1 v2 xs ys t1 t2) : wr.ownsRow lo e 1 v2 m ys := by have := h.tw.s.own; rwa [h.l2] at this
theorem PairG.sh1 (h : PairG e lo B C N k m w0 wr v1 v2 xs ys t1 t2) : ∃ a c, v1 = .slice a k c := by have := h.tw.f.shape; rwa [h.l1] at this
theorem PairG.sh2 (h : PairG e lo B C N k m w0 wr v1 v2 xs ys t1 t2) : ∃ a c, v2 = .slice a m c := by have := h.tw.s.shape; rwa [h.l2] at this
theorem PairG.app1 {wa : World} {b c g cap base : Nat} (h : PairG e lo B C N k m w0 wr v1 v2 xs ys t1 t2) (hxa : Ext wr wa) (hr : RF base (fun _ => False) wa (.slice (some ⟨b, 0, none⟩) N c) l) (hi : InR N l) (hb1 : v1.ownBlock ≠ some b) (hb2 : v2.ownBlock ≠ some b) (hlo : lo ≤ base)
    (ho : w'.ownsRow lo e 1 (.slice (some ⟨g, 0, none⟩) (k + 1) cap) (k + 1) (xs ++ [.slice (some ⟨b, 0, none⟩) N c])) (hg : wa.grownBy w' v1.ownBlock) (hb : v1.ownBlock = some g ∨ g = wa.heap.size) :
    BoxV C w' v1 v2 ∧ PairG e lo B C N (k + 1) m w0 (w'.setCell ⟨C, 0, none⟩ (.slice (some ⟨g, 0, none⟩) (k + 1) cap)) (.slice (some ⟨g, 0, none⟩) (k + 1) cap) v2 (xs ++ [.slice (some ⟨b, 0, none⟩) N c]) ys (t1 ++ [l]) t2 := by
  have hh := h.ext hxa
  have hl1 := hh.tw.f.lt
  have hC : ∀ q, v1.ownBlock = some q → lo ≤ q := fun q hq => (hl1 q hq).1
  have ho' : w'.ownsRow lo e 1 (.slice (some ⟨g, 0, none⟩) (k + 1) cap) (t1.length + 1) (xs ++ [.slice (some ⟨b, 0, none⟩) N c]) := by rw [h.l1]; exact ho
  have htw := hh.tw.app (l := l) ((hr.setDS (fun q => q.elim hb1 hb2)).mono hlo fun _ _ _ q => q) ho' hg (hb.imp (fun e => e.symm) (fun e => by rw [e]; rfl))
  have hbc := hh.bc.grown hg (fun e => by have := hC _ e; have := h.c1; omega)
  have hbb := hh.bb.grown hg (fun e => by have := hC _ e; have := h.b1; omega)
  have hx : Ext w0 w' := ext_grown2 hh.x0 hg (fun q hq => by have := hC q hq; have := h.b1; have := h.b2; omega)
  refine ⟨hbc, htw.setOther (by exact h.c1) _, by rw [List.length_append, h.l1]; rfl, h.l2, h.r1.app hr.atS.2.2 hi, h.r2, hbc.set0 _, hbb.setOther (fun e => h.ne e.symm) _, hx.setNew (by exact h.c2) _, by have := hg.size; have := hh.lo1; simp; omega, h.b1, h.c1, h.ne, h.b2, h.c2⟩
theorem PairG.app2 {wa : World} {b c g cap base : Nat} (h : PairG e lo B C N k m w0 wr v1 v2 xs ys t1 t2) (hxa : Ext wr wa) (hr : RF base (fun _ => False) wa (.slice (some ⟨b, 0, none⟩) N c) l) (hi : InR N l) (hb1 : v1.ownBlock ≠ some b) (hb2 : v2.ownBlock ≠ some b) (hlo : lo ≤ base)
    (ho : w'.ownsRow lo e 1 (.slice (some ⟨g, 0, none⟩) (m + 1) cap) (m + 1) (ys ++ [.slice (some ⟨b, 0, none⟩) N c])) (hg : wa.grownBy w' v2.ownBlock) (hb : v2.ownBlock = some g ∨ g = wa.heap.size) :
    BoxV C w' v1 v2 ∧ PairG e lo B C N k (m + 1) w0 (w'.setCell ⟨C, 1, none⟩ (.slice (some ⟨g, 0, none⟩) (m + 1) cap)) v1 (.slice (some ⟨g, 0, none⟩) (m + 1) cap) xs (ys ++ [.slice (some ⟨b, 0, none⟩) N c]) t1 (t2 ++ [l]) := by
  have hh := h.ext hxa
  have hl1 := hh.tw.s.lt
  have hC : ∀ q, v2.ownBlock = some q → lo ≤ q := fun q hq => (hl1 q hq).1
  have ho' : w'.ownsRow lo e 1 (.slice (some ⟨g, 0, none⟩) (m + 1) cap) (t2.length + 1) (ys ++ [.slice (some ⟨b, 0, none⟩) N c]) := by rw [h.l2]; exact ho
  have htw := hh.tw.swap.app (l := l) ((hr.setDS (fun q => q.elim hb2 hb1)).mono hlo fun _ _ _ q => q) ho' hg (hb.imp (fun e => e.symm) (fun e => by rw [e]; rfl))
  have hbc := hh.bc.grown hg (fun e => by have := hC _ e; have := h.c1; omega)
  have hbb := hh.bb.grown hg (fun e => by have := hC _ e; have := h.b1; omega)
  have hx : Ext w0 w' := ext_grown2 hh.x0 hg (fun q hq => by have := hC q hq; have := h.b1; have := h.b2; omega)
  refine ⟨hbc, htw.swap.setOther (by exact h.c1) _, h.l1, by rw [List.length_append, h.l2]; rfl, h.r1, h.r2.app hr.atS.2.2 hi, hbc.set1 _, hbb.setOther (fun e => h.ne e.symm) _, hx.setNew (by exact h.c2) _, by have := hg.size; have := hh.lo1; simp; omega, h.b1, h.c1, h.ne, h.b2, h.c2⟩
theorem PairG.low (h : PairG e lo B C N k m w0 wr v1 v2 xs ys t1 t2) {wa : World} {r : Option Nat} (hxa : Ext wr wa) (hg : wa.grownBy w' r) (hr : ∀ q, r = some q → lo ≤ q) {i : Nat} {u : Value} {p : Addr} {v : Value} (hp : p.block < lo) (hne : p.block ≠ C) (hc : wr.cell? p = some v) : (w'.setCell ⟨C, i, none⟩ u).cell? p = some v := by
  rw [World.cell?_setCell_other _ _ _ _ (fun e => hne (congrArg Addr.block e.symm) |>.elim)]
  have h1 := hxa.cell hc
  have hb : w'.heap[p.block]? = wa.heap[p.block]? := hg.block _ (World.block_lt_of_cell? _ _ h1) (fun e => by have := hr _ e.symm; omega)
  rw [World.cell?_of_block (w := wa) (a := p) hb]
  exact h1
theorem PairG.lt1 (h : PairG e lo B C N k m w0 wr v1 v2 xs ys t1 t2) (q : Nat) (hq : v1.ownBlock = some q) : lo ≤ q := (h.tw.f.lt q hq).1
theorem PairG.lt2 (h : PairG e lo B C N k m w0 wr v1 v2 xs ys t1 t2) (q : Nat) (hq : v2.ownBlock = some q) : lo ≤ q := (h.tw.s.lt q hq).1
theorem PairG.done (h : PairG e lo B C N N N w0 wr v1 v2 xs ys t1 t2) (h1 : 1 ≤ N) (h12 : N ≤ 12) (p q : Value) :
    TabF w0.heap.size ((wr.setCell ⟨B, 0, none⟩ p).setCell ⟨B, 1, none⟩ q) v1 t1 ∧ TabF w0.heap.size ((wr.setCell ⟨B, 0, none⟩ p).setCell ⟨B, 1, none⟩ q) v2 t2 ∧ PairOk t1 t2 ∧ t1.length = N ∧ Ext w0 ((wr.setCell ⟨B, 0, none⟩ p).setCell ⟨B, 1, none⟩ q) := by
  have e1 := h.l1
  have e2 := h.l2
  have hb := h.b1
  have hb2 := h.b2
  have k1 := h.tw.f.tab (by omega) (by omega)
  have k2 := h.tw.s.tab (by omega) (by omega)
  refine ⟨((k1.setOut (p := ⟨B, 0, none⟩) (by exact hb) p).setOut (p := ⟨B, 1, none⟩) (by exact hb) q).low (by omega), ((k2.setOut (p := ⟨B, 0, none⟩) (by exact hb) p).setOut (p := ⟨B, 1, none⟩) (by exact hb) q).low (by omega), ⟨h.r1.table e1 h1 h12, h.r2.table e2 h1 h12, by omega⟩, e1, (h.x0.setNew (by exact hb2) _).setNew (by exact hb2) _⟩
end
structure TwoI (e base : Nat) (w : World) (v1 v2 : Value) (l1 l2 : List Int) : Prop where
  g1 : GrowI e base w v1 l1
  g2 : GrowI e base w v2 l2
  n1 : v1 ≠ .slice none 0 0
  n2 : v2 ≠ .slice none 0 0
  ne : ∀ q, v1.ownBlock = some q → v2.ownBlock ≠ some q
section
variable {e base : Nat} {w w' : World} {v1 v2 v' : Value} {l1 l2 l : List Int} {x : Int}
theorem TwoI.ext (h : TwoI e base w v1 v2 l1 l2) (hx : Ext w w') : TwoI e base w' v1 v2 l1 l2 := ⟨h.g1.ext hx, h.g2.ext hx, h.n1, h.n2, h.ne⟩
theorem TwoI.swap (h : TwoI e base w v1 v2 l1 l2) : TwoI e base w v2 v1 l2 l1 := ⟨h.g2, h.g1, h.n2, h.n1, fun q e1 e2 => h.ne q e2 e1⟩
theorem TwoI.app (h : TwoI e base w v1 v2 l1 l2) (hi : GrowI e base w' v' l) (hg : w.grownBy w' v1.ownBlock) (hv : v' ≠ .slice none 0 0) (hb : v'.ownBlock = v1.ownBlock ∨ v'.ownBlock = some w.heap.size) : TwoI e base w' v' v2 l l2 := by
  refine ⟨hi, World.ownsRow.kept h.g2 hg ?_, hv, h.n2, fun q e1 e2 => ?_⟩
  · cases hq : v2.ownBlock with
    | none => exact .inl rfl
    | some q => exact .inr fun e => h.ne q e.symm hq
  · rcases hb with e | e
    · exact h.ne q (by rw [← e]; exact e1) e2
    · rw [e] at e1
      have := Option.some.inj e1
      have := (h.g2.lt e2).2
      omega
theorem TwoI.start {w : World} {g1 g2 : Nat} (e : Nat) (h1 : g1 = w.heap.size) (h2 : g2 = w.heap.size + 1) (hb : base ≤ w.heap.size) : TwoI e base ((w.alloc (.cells #[] e)).alloc (.cells #[] e)) (.slice (some ⟨g1, 0, none⟩) 0 0) (.slice (some ⟨g2, 0, none⟩) 0 0) [] [] := by
  subst h1 h2
  have k1 := (GrowI.lit (e := e) (base := base) (w := w) hb).alloc (.cells #[] e)
  have k2 := GrowI.lit (e := e) (base := base) (w := w.alloc (.cells #[] e)) (by simp; omega)
  rw [World.size_alloc] at k2
  exact ⟨k1, k2, by simp, by simp, fun q e1 e2 => by
    have h1 := Option.some.inj (show some w.heap.size = some q from e1)
    have h2 := Option.some.inj (show some (w.heap.size + 1) = some q from e2)
    omega⟩
end
end Go.Proofs.YtjfjpngajboidaaGreat


namespace Go.Proofs.YtjfjpngajboidaaGreat
set_option linter.unusedVariables false
set_option linter.unusedSimpArgs false
open Go.RowKit

def BoxOne (B : Nat) (W : World) (v : Value) : Prop := B < W.heap.size ∧ W.cell? ⟨B, 0, none⟩ = some v ∧ W.frozen? ⟨B, 0, none⟩ = false
theorem BoxOne.keep {B : Nat} {W W' : World} {v : Value} (h : BoxOne B W v) (hz : W.heap.size ≤ W'.heap.size) (hb : W'.heap[B]? = W.heap[B]?) : BoxOne B W' v := by
  refine ⟨by have := h.1; omega, ?_, ?_⟩
  · rw [World.cell?_of_block (w := W) (a := ⟨B, 0, none⟩) hb]; exact h.2.1
  · rw [World.frozen?_of_block (w := W) (a := ⟨B, 0, none⟩) hb]; exact h.2.2
theorem BoxOne.ext {B : Nat} {W W' : World} {v : Value} (h : BoxOne B W v) (hx : Ext W W') : BoxOne B W' v := h.keep hx.size (hx.block _ h.1)
theorem BoxOne.grown {B : Nat} {W W' : World} {v : Value} {r : Option Nat} (h : BoxOne B W v) (hg : W.grownBy W' r) (hr : r ≠ some B) : BoxOne B W' v := h.keep hg.size (hg.block _ h.1 (fun e => hr e.symm))
theorem BoxOne.touch {B S : Nat} {W W' : World} {v : Value} (h : BoxOne B W v) (m : Touch S (S + 1) W W') (hne : B ≠ S) : BoxOne B W' v := h.keep m.size (m.block _ h.1 (by omega))
theorem BoxOne.setOther {B : Nat} {W : World} {v : Value} (h : BoxOne B W v) {a : Addr} (ha : a.block ≠ B) (u : Value) : BoxOne B (W.setCell a u) v := h.keep (by simp) (Below.heap_setCell _ _ _ _ (fun e => ha e.symm))
theorem BoxOne.set0 {B : Nat} {W : World} {v : Value} (h : BoxOne B W v) (u : Value) : BoxOne B (W.setCell ⟨B, 0, none⟩ u) u :=
  ⟨by simp; exact h.1, World.cell?_setCell_same _ _ _ h.2.1, by rw [World.frozen?_setCell]; exact h.2.2⟩
theorem BoxOne.new (w : World) (v : Value) (T : TypeId) : BoxOne w.heap.size (w.alloc (.cells #[v] T)) v := ⟨by simp, by simp [go_sem], by simp [go_sem]⟩
structure OneG (e lo B C N k : Nat) (w0 wr : World) (v1 : Value) (xs : List Value) (t1 : List (List Int)) : Prop where
  f : ListF e lo (fun _ => False) wr v1 xs t1
  l1 : t1.length = k
  rl : ∀ r, r ∈ t1 → r.length = N
  bc : BoxOne C wr v1
  bb : BoxOne B wr (.slice none 0 0)
  x0 : Ext w0 wr
  lo1 : lo ≤ wr.heap.size
  b1 : B < lo
  c1 : C < lo
  ne : B ≠ C
  b2 : w0.heap.size ≤ B
  c2 : w0.heap.size ≤ C
section
variable {e lo B C N k : Nat} {w0 wr w' : World} {v1 : Value} {xs : List Value} {t1 : List (List Int)} {l : List Int}
theorem OneG.start (e N : Nat) (h1 : BoxOne C wr (.slice none 0 0)) (h2 : BoxOne B wr (.slice none 0 0)) (hx : Ext w0 wr) (hlo : lo ≤ wr.heap.size) (hb : B < lo) (hc : C < lo) (hne : B ≠ C) (hb2 : w0.heap.size ≤ B) (hc2 : w0.heap.size ≤ C) : OneG e lo B C N 0 w0 wr (.slice none 0 0) [] [] :=
  ⟨ListF.nil _ _ _ _, rfl, (fun r h => by cases h), h1, h2, hx, hlo, hb, hc, hne, hb2, hc2⟩
theorem OneG.ext (h : OneG e lo B C N k w0 wr v1 xs t1) (hx : Ext wr w') : OneG e lo B C N k w0 w' v1 xs t1 :=
  ⟨h.f.ext hx, h.l1, h.rl, h.bc.ext hx, h.bb.ext hx, h.x0.trans hx, Nat.le_trans h.lo1 hx.size, h.b1, h.c1, h.ne, h.b2, h.c2⟩
theorem OneG.own1 (h : OneG e lo B C N k w0 wr v1 xs t1) : wr.ownsRow lo e 1 v1 k xs := by have := h.f.own; rwa [h.l1] at this
theorem OneG.sh1 (h : OneG e lo B C N k w0 wr v1 xs t1) : ∃ a c, v1 = .slice a k c := by have := h.f.shape; rwa [h.l1] at this
theorem OneG.lt1 (h : OneG e lo B C N k w0 wr v1 xs t1) (q : Nat) (hq : v1.ownBlock = some q) : lo ≤ q ∧ q < wr.heap.size := h.f.lt q hq
theorem OneG.app1 {wa : World} {b c g cap base : Nat} (h : OneG e lo B C N k w0 wr v1 xs t1) (hxa : Ext wr wa) (hr : RF base (fun _ => False) wa (.slice (some ⟨b, 0, none⟩) N c) l) (hb1 : v1.ownBlock ≠ some b) (hlo : lo ≤ base)
    (ho : w'.ownsRow lo e 1 (.slice (some ⟨g, 0, none⟩) (k + 1) cap) (k + 1) (xs ++ [.slice (some ⟨b, 0, none⟩) N c])) (hg : wa.grownBy w' v1.ownBlock) (hb : v1.ownBlock = some g ∨ g = wa.heap.size) :
    BoxOne C w' v1 ∧ OneG e lo B C N (k + 1) w0 (w'.setCell ⟨C, 0, none⟩ (.slice (some ⟨g, 0, none⟩) (k + 1) cap)) (.slice (some ⟨g, 0, none⟩) (k + 1) cap) (xs ++ [.slice (some ⟨b, 0, none⟩) N c]) (t1 ++ [l]) := by
  have hh := h.ext hxa
  have hl1 := hh.f.lt
  have hC : ∀ q, v1.ownBlock = some q → lo ≤ q := fun q hq => (hl1 q hq).1
  have ho' : w'.ownsRow lo e 1 (.slice (some ⟨g, 0, none⟩) (k + 1) cap) (t1.length + 1) (xs ++ [.slice (some ⟨b, 0, none⟩) N c]) := by rw [h.l1]; exact ho
  have htw := hh.f.app (l := l) ((hr.setDS (fun q => q.elim hb1 id)).mono hlo fun _ _ _ q => q) ho' hg (hb.imp (fun e => e.symm) (fun e => by rw [e]; rfl)) id
  have hbc := hh.bc.grown hg (fun e => by have := hC _ e; have := h.c1; omega)
  have hbb := hh.bb.grown hg (fun e => by have := hC _ e; have := h.b1; omega)
  have hx : Ext w0 w' := ext_grown2 hh.x0 hg (fun q hq => by have := hC q hq; have := h.b1; have := h.b2; omega)
  have hgs : w'.grownBy (w'.setCell ⟨C, 0, none⟩ (.slice (some ⟨g, 0, none⟩) (k + 1) cap)) (some C) := ⟨rfl, rfl, rfl, by simp, fun k hk hne => Below.heap_setCell _ _ _ _ (fun e => hne (by rw [e]))⟩
  refine ⟨hbc, htw.grown hgs (fun q hq e => by have := (htw.lt q hq).1; have := Option.some.inj e; have := h.c1; omega) (fun q hq e => by have := Option.some.inj e; have := h.c1; omega), by rw [List.length_append, h.l1]; rfl, fun r hr2 => ?_, hbc.set0 _, hbb.setOther (fun e => h.ne e.symm) _, hx.setNew (by exact h.c2) _, by have := hg.size; have := hh.lo1; simp; omega, h.b1, h.c1, h.ne, h.b2, h.c2⟩
  rcases List.mem_append.1 hr2 with e | e
  · exact h.rl r e
  · rw [List.mem_singleton.1 e]; exact hr.atS.2.2
theorem OneG.low (h : OneG e lo B C N k w0 wr v1 xs t1) {wa : World} {r : Option Nat} (hxa : Ext wr wa) (hg : wa.grownBy w' r) (hr : ∀ q, r = some q → lo ≤ q) {u : Value} {p : Addr} {v : Value} (hp : p.block < lo) (hne : p.block ≠ C) (hc : wr.cell? p = some v) : (w'.setCell ⟨C, 0, none⟩ u).cell? p = some v := by
  rw [World.cell?_setCell_other _ _ _ _ (fun e => hne (congrArg Addr.block e.symm) |>.elim)]
  have h1 := hxa.cell hc
  have hb : w'.heap[p.block]? = wa.heap[p.block]? := hg.block _ (World.block_lt_of_cell? _ _ h1) (fun e => by have := hr _ e.symm; omega)
  rw [World.cell?_of_block (w := wa) (a := p) hb]
  exact h1
theorem OneG.done (h : OneG e lo B C N k w0 wr v1 xs t1) (h1 : 1 ≤ k) (h12 : k ≤ 1048576) (p : Value) :
    TabF w0.heap.size (wr.setCell ⟨B, 0, none⟩ p) v1 t1 ∧ t1.length = k ∧ Ext w0 (wr.setCell ⟨B, 0, none⟩ p) := by
  have e1 := h.l1
  have hb := h.b1
  have hb2 := h.b2
  have k1 := h.f.tab (by omega) (by omega)
  exact ⟨(k1.setOut (p := ⟨B, 0, none⟩) (by exact hb) p).low (by omega), e1, h.x0.setNew (by exact hb2) _⟩
end
end Go.Proofs.YtjfjpngajboidaaGreat


namespace Go.Proofs.YtjfjpngajboidaaGreat
set_option linter.unusedVariables false
set_option linter.unusedSimpArgs false
open Go.RowKit

section
variable {e lo : Nat} {w w' : World} {v : Value} {xs : List Value} {t : List (List Int)}
theorem ListK.otherTo {ob ob' : Option Nat} (h : ListK e lo (fun b => ob = some b) w v xs t) (hg : w.grownBy w' ob) (hne : ∀ k, v.ownBlock = some k → ob ≠ some k) (hb : ob' = ob ∨ ob' = some w.heap.size) : ListK e lo (fun b => ob' = some b) w' v xs t := by
  refine ⟨World.ownsRow.kept h.own hg ?_, h.rows.imp fun x l k => ?_⟩
  · cases hv : v.ownBlock with
    | none => exact .inl rfl
    | some k => exact .inr fun e => hne k hv e.symm
  · obtain ⟨h0, b, c, rfl, h1, h2, h3, h4, h5⟩ := k
    refine ⟨h0, b, c, rfl, h1, h2, Nat.lt_of_lt_of_le h3 hg.size, ?_, intsAt_grown h5 hg (fun _ e => h4 (.inr e.symm))⟩
    intro q
    rcases q with q | q
    · exact h4 (.inl q)
    · rcases hb with e | e
      · exact h4 (.inr (by rw [← e]; exact q))
      · rw [e] at q
        have := Option.some.inj q
        omega
end
theorem wpList_append_xsN {P : Program} {w : World} {ops : Array Oper} {rest : List Oper} {o : Oper} {a : Act} {Q : Exit → Act → World → Prop} (hgd : o.guard = none) (s x : Operand) (t e : TypeId)
    (ho : o.op = .call { callee := .builtin .append, args := #[s, x], argTypes := #[t, t] }) (ht : P.underlying t = some (.slice e)) (hinfo : (P.info? e).map (fun i => (i.zero, i.size, i.bytes)) = some (some (.slice none 0 0), 1, 24))
    (base : Nat) (v : Value) (n : Nat) (xs : List Value) (hs : a.eval s = v) (hown : w.ownsRow base e 1 v n xs) (g q c m : Nat) (ys : List Value) (hm : ys.length = m) (hx : a.eval x = .slice (some ⟨g, q, none⟩) m c)
    (hc : ∀ i x, ys[i]? = some x → w.cell? ⟨g, q + i, none⟩ = some x) (h1 : ∀ u ∈ ys, u.oneCell' = true) (hl : n ≤ 1048576) (hl2 : m ≤ 1048576) (hbase : base ≤ w.heap.size)
    (h : ∀ v' w', w'.ownsRow base e 1 v' (n + m) (xs ++ ys) → w.grownBy w' v.ownBlock → (v'.ownBlock = v.ownBlock ∨ v'.ownBlock = some w.heap.size) → wpList P ops Q rest (a.put o.dst v') w') : wpList P ops Q (o :: rest) a w := by
  obtain ⟨i0, hi, hz0, hz1, hz2⟩ := info_parts hinfo
  refine wpList_append_own_at w hgd s x t ho base e i0 (.slice none 0 0) 1 24 ht hi hz0 hz1 hz2 rfl (by decide) v n xs hs hown ⟨g, q, none⟩ m c ys hx (by rw [hm]; simp) ?_ h1 (by unfold maxLen; omega) (by omega) hbase fun v' w' h1 h2 _ h4 => h v' w' h1 h2 h4
  intro j u hj
  rw [Addr.add_lit]
  exact hc j u hj
end Go.Proofs.YtjfjpngajboidaaGreat
