/-
  Tables whose blocks all have a property; lists of such tables; append of nil.
-/
import Derived.Test.YtjbloenjphpngaaProg
import Derived.Maps.AppendAt
import Derived.Test.YtjbloenjphpngaaJx0
import Derived.Test.YtjbloenjphpngaaJx1
import Derived.Test.YtjbloenjphpngaaJx5
import Derived.Test.YtjbloenjphpngaaJx8
import Derived.Test.YtjbloenjphpngaaJx9
import Derived.Test.YtjbloenjphpngaaJx2
import Derived.Test.YtjbloenjphpngaaJx14
import Derived.Test.YtjbloenjphpngaaJx10
import Derived.Test.YtjbloenjphpngaaJx6
import Derived.Test.YtjbloenjphpngaaJx3
import Derived.Test.YtjbloenjphpngaaJx23
import Derived.Test.YtjbloenjphpngaaJx4
import Derived.Test.YtjbloenjphpngaaJx16
import Derived.Test.YtjbloenjphpngaaJx24
import Derived.Test.YtjbloenjphpngaaJx33
import Derived.Test.YtjbloenjphpngaaJx34
import Derived.Test.YtjbloenjphpngaaJx12
namespace Go.Proofs.Ytjbloenjphpngaa
set_option linter.unusedVariables false
set_option linter.unusedSimpArgs false
open Go.RowKit
open Go.Deep

/-- a table; its blocks have the property O -/
def RowsP (O : Nat → Prop) (w : World) (v : Value) (t : List (List Int)) : Prop :=
  t.length ≤ 1048576 ∧ ∃ b o c, v = .slice (some ⟨b, o, none⟩) t.length c ∧ O b ∧ ∀ i, i < t.length → ∃ b1 o1 c1, w.cell? ⟨b, o + i, none⟩ = some (.slice (some ⟨b1, o1, none⟩) (row t i).length c1) ∧ O b1 ∧ (row t i).length ≤ 1048576 ∧ IntsAt w b1 o1 (row t i)
theorem RowsP.rows {O : Nat → Prop} {w : World} {v : Value} {t : List (List Int)} (h : RowsP O w v t) : Rows w v t := by
  obtain ⟨h0, b, o, c, rfl, hb, h⟩ := h
  refine ⟨h0, b, o, c, rfl, fun i hi => ?_⟩
  obtain ⟨b1, o1, c1, h1, h2, h3, h4⟩ := h i hi
  exact ⟨_, h1, h3, b1, o1, c1, rfl, h4⟩
theorem RowsP.shape {O : Nat → Prop} {w : World} {v : Value} {t : List (List Int)} (h : RowsP O w v t) : ∃ b o c, v = .slice (some ⟨b, o, none⟩) t.length c := by
  obtain ⟨-, b, o, c, rfl, -⟩ := h
  exact ⟨b, o, c, rfl⟩
theorem RowsP.weaken {O O' : Nat → Prop} {w : World} {v : Value} {t : List (List Int)} (h : RowsP O w v t) (ho : ∀ k, O k → O' k) : RowsP O' w v t := by
  obtain ⟨h0, b, o, c, rfl, hb, h⟩ := h
  refine ⟨h0, b, o, c, rfl, ho _ hb, fun i hi => ?_⟩
  obtain ⟨b1, o1, c1, h1, h2, h3, h4⟩ := h i hi
  exact ⟨b1, o1, c1, h1, ho _ h2, h3, h4⟩
theorem RowsP.keep {O : Nat → Prop} {w w' : World} {v : Value} {t : List (List Int)} (h : RowsP O w v t) (hn : t ≠ []) (hr : ∀ i, i < t.length → row t i ≠ []) (hk : ∀ k, O k → k < w.heap.size → w'.heap[k]? = w.heap[k]?) : RowsP O w' v t := by
  obtain ⟨h0, b, o, c, rfl, hb, h⟩ := h
  refine ⟨h0, b, o, c, rfl, hb, fun i hi => ?_⟩
  obtain ⟨b1, o1, c1, h1, h2, h3, h4⟩ := h i hi
  refine ⟨b1, o1, c1, ?_, h2, h3, fun j hj => ?_⟩
  · rw [World.cell?_of_block (w := w) (a := ⟨b, o + i, none⟩) (hk b hb (World.block_lt_of_cell? _ _ h1))]; exact h1
  · rw [World.cell?_of_block (w := w) (a := ⟨b1, o1 + j, none⟩) (hk b1 h2 (World.block_lt_of_cell? _ _ (h4 j hj)))]; exact h4 j hj
theorem RowsP.keep0 {O : Nat → Prop} {w w' : World} {v : Value} {t : List (List Int)} (h : RowsP O w v t) (hk : ∀ k, O k → k < w.heap.size → w'.heap[k]? = w.heap[k]?) : RowsP O w' v t := by
  obtain ⟨h0, b, o, c, rfl, hb, h⟩ := h
  refine ⟨h0, b, o, c, rfl, hb, fun i hi => ?_⟩
  obtain ⟨b1, o1, c1, h1, h2, h3, h4⟩ := h i hi
  refine ⟨b1, o1, c1, ?_, h2, h3, fun j hj => ?_⟩
  · rw [World.cell?_of_block (w := w) (a := ⟨b, o + i, none⟩) (hk b hb (World.block_lt_of_cell? _ _ h1))]; exact h1
  · rw [World.cell?_of_block (w := w) (a := ⟨b1, o1 + j, none⟩) (hk b1 h2 (World.block_lt_of_cell? _ _ (h4 j hj)))]; exact h4 j hj
theorem RowsP.ext {O : Nat → Prop} {w w' : World} {v : Value} {t : List (List Int)} (h : RowsP O w v t) (hx : Ext w w') : RowsP O w' v t := h.keep0 fun k _ hl => hx.block k hl
theorem RowsP.touch {O : Nat → Prop} {lo hi : Nat} {w w' : World} {v : Value} {t : List (List Int)} (h : RowsP O w v t) (hT : Touch lo hi w w') (ho : ∀ k, O k → k < lo ∨ hi ≤ k) : RowsP O w' v t :=
  h.keep0 fun k hk hl => hT.block k hl (by have := ho k hk; omega)
/-- blocks lo and above, new since lo -/
theorem OwnT.rowsP {lo hi : Nat} {w : World} {b : Nat} {t : List (List Int)} (h : OwnT lo hi w b 0 t) (hs : Small t) (c : Nat) : RowsP (fun k => lo ≤ k ∧ k < hi) w (.slice (some ⟨b, 0, none⟩) t.length c) t := by
  obtain ⟨h1, h2, B, O, C, h3, h4⟩ := h
  refine ⟨hs.1, b, 0, c, rfl, ⟨h1, h2⟩, fun i hi => ?_⟩
  obtain ⟨a1, a2, a3⟩ := h3 i hi
  exact ⟨B i, O i, C i, a1, ⟨a2.1, a2.2.1⟩, hs.2 i, a2.2.2.1⟩

/-- a list of tables of n elements, all in blocks base and above -/
def ListP (base n : Nat) (w : World) (v : Value) (ts : List (List (List Int))) : Prop :=
  ∃ a c, v = .slice a ts.length c ∧ ts.length ≤ c ∧ TabsOk n ts ∧ (ts ≠ [] → ∃ b o, a = some ⟨b, o, none⟩) ∧ (ts = [] → a = none ∧ c = 0) ∧
    ∀ b o, a = some ⟨b, o, none⟩ → ∀ i, i < ts.length → ∃ r, w.cell? ⟨b, o + i, none⟩ = some r ∧ RowsP (fun k => base ≤ k) w r (tab ts i)
theorem ListP.nil (base n : Nat) (w : World) : ListP base n w (.slice none 0 0) [] :=
  ⟨none, 0, rfl, Nat.le_refl _, fun k hk => by simp at hk, fun h => absurd rfl h, fun _ => ⟨rfl, rfl⟩, fun b o e => by cases e⟩
theorem ListP.ext {base n : Nat} {w w' : World} {v : Value} {ts : List (List (List Int))} (h : ListP base n w v ts) (hx : Ext w w') : ListP base n w' v ts := by
  obtain ⟨a, c, rfl, h1, h2, h3, h4, h5⟩ := h
  refine ⟨a, c, rfl, h1, h2, h3, h4, fun b o e i hi => ?_⟩
  obtain ⟨r, k1, k2⟩ := h5 b o e i hi
  exact ⟨r, hx.cell k1, k2.ext hx⟩

/-- append(v, nil) -/
theorem wpList_append_none {P : Program} {w : World} {ops : Array Oper} {rest : List Oper} {o : Oper} {a : Act} {Q : Exit → Act → World → Prop} (hgd : o.guard = none) (s x : Operand) (t e : TypeId)
    (ho : o.op = .call { callee := .builtin .append, args := #[s, x], argTypes := #[t, t] }) (ht : P.underlying t = some (.slice e)) {z : Value} (hinfo : (P.info? e).map (fun i => (i.zero, i.size, i.bytes)) = some (some z, 1, 24))
    (b n cap : Nat) (hs : a.eval s = .slice (some ⟨b, 0, none⟩) n cap) (hx : a.eval x = .slice none 0 0) (hl : n ≤ cap)
    (h : wpList P ops Q rest (a.put o.dst (.slice (some ⟨b, 0, none⟩) n cap)) w) : wpList P ops Q (o :: rest) a w := by
  obtain ⟨i0, hi, hz0, hz1, hz2⟩ := info_parts hinfo
  refine wpList_plain hgd fun K hK => ?_
  have hr : (Builtin.append_ #[t, t] o.type #[.slice (some ⟨b, 0, none⟩) n cap, .slice none 0 0]).run P w = .ok (.slice (some ⟨b, 0, none⟩) n cap) w := by
    simp [Builtin.append_, run_underlying ht, sizeOf, typeInfo, hi, Builtin.lenOf, Builtin.firstCells, loadCells, loadCellsFrom, storeCells, hl]
  unfold Oper.wp execOp
  simp only [ho, resolve, invoke, builtin, Sem.run_bind, Sem.run_pure, Result.andThen_ok, List.map_toArray, List.map_cons, List.map_nil, hs, hx, hr]
  exact hK _ _ h
end Go.Proofs.Ytjbloenjphpngaa

/-
  Tables that grow row by row, all rows in blocks base and above.
-/
namespace Go.Proofs.Ytjbloenjphpngaa
set_option linter.unusedVariables false
set_option linter.unusedSimpArgs false
open Go.RowKit
open Go.Deep

/-- a table that grows; its rows lie in blocks base and above -/
def GrowP (e base : Nat) (w : World) (v : Value) (t : List (List Int)) : Prop :=
  ∃ xs : List Value, w.ownsRow base e 1 v t.length xs ∧ ∀ i, i < t.length → (row t i).length ≤ 1048576 ∧ ∃ b c, xs[i]? = some (.slice (some ⟨b, 0, none⟩) (row t i).length c) ∧ base ≤ b ∧ IntsAt w b 0 (row t i)

theorem GrowP.lit {e base : Nat} {w : World} (hb : base ≤ w.heap.size) : GrowP e base (w.alloc (.cells #[] e)) (.slice (some ⟨w.heap.size, 0, none⟩) 0 0) [] :=
  ⟨[], World.ownsRow_made w #[] 0 hb (Nat.zero_le _) rfl, fun i hi => by simp at hi⟩

theorem GrowP.nil (e base : Nat) (w : World) : GrowP e base w (.slice none 0 0) [] := ⟨[], World.ownsRow_nil w base e 1, fun i hi => by simp at hi⟩

theorem GrowP.ext {e base : Nat} {w w' : World} {v : Value} {t : List (List Int)} (h : GrowP e base w v t) (hx : Ext w w') : GrowP e base w' v t := by
  obtain ⟨xs, h1, h2⟩ := h
  refine ⟨xs, ownsRow_ext h1 hx, fun i hi => ?_⟩
  obtain ⟨g0, b, c, g1, g3, g2⟩ := h2 i hi
  exact ⟨g0, b, c, g1, g3, g2.ext hx⟩

theorem GrowP.lt {e base : Nat} {w : World} {v : Value} {t : List (List Int)} (h : GrowP e base w v t) : ∀ k, v.ownBlock = some k → base ≤ k ∧ k < w.heap.size := by
  obtain ⟨xs, h1, h2⟩ := h
  exact h1.lt

theorem GrowP.own {e base : Nat} {w : World} {v : Value} {t : List (List Int)} (h : GrowP e base w v t) : ∃ xs, w.ownsRow base e 1 v t.length xs := h.imp fun _ h => h.1

theorem GrowP.rowsP {e base : Nat} {w : World} {v : Value} {t : List (List Int)} (h : GrowP e base w v t) (hl : t.length ≤ 1048576) (hv : v ≠ .slice none 0 0) : RowsP (fun k => base ≤ k) w v t := by
  obtain ⟨xs, h1, h2⟩ := h
  rcases id h1.2 with ⟨rfl, hn⟩ | ⟨g, cap, cur, rfl, hb, hg, hnc, _, hcs, htake⟩
  · exact absurd rfl hv
  · refine ⟨hl, g, 0, cap, rfl, hb, fun i hi => ?_⟩
    obtain ⟨g0, b, c, g1, g3, g2⟩ := h2 i hi
    have := World.ownsRow.cells h1 (g := g) rfl i _ g1
    rw [Addr.add_lit] at this
    exact ⟨b, 0, c, this, g3, g0, g2⟩

theorem GrowP.slice {e base : Nat} {w : World} {v : Value} {t : List (List Int)} (h : GrowP e base w v t) : ∃ a c, v = .slice a t.length c := by
  obtain ⟨xs, h1, h2⟩ := h
  rcases h1.2 with ⟨rfl, hn⟩ | ⟨g, cap, cur, rfl, _⟩
  · exact ⟨none, 0, by rw [hn]⟩
  · exact ⟨_, cap, rfl⟩

theorem GrowP.setSl {e base : Nat} {w : World} {v : Value} {t : List (List Int)} (h : GrowP e base w v t) {a : Addr} {p n c} (ha : w.cell? a = some (.slice p n c)) (hb : a.block < base) (u : Value) : GrowP e base (w.setCell a u) v t := by
  obtain ⟨xs, h1, h2⟩ := h
  refine ⟨xs, ownsRow_setOther h1 hb u, fun i hi => ?_⟩
  obtain ⟨g0, b, c, g1, g3, g2⟩ := h2 i hi
  exact ⟨g0, b, c, g1, g3, g2.setSl ha u⟩

/-- append(v, r) at such a slice -/
theorem wpList_append_row_p {P : Program} {w : World} {ops : Array Oper} {rest : List Oper} {o : Oper} {a : Act} {Q : Exit → Act → World → Prop} (hgd : o.guard = none) (s x : Operand) (t e : TypeId)
    (ho : o.op = .call { callee := .builtin .append, args := #[s, x], argTypes := #[t, t] }) (ht : P.underlying t = some (.slice e)) (hinfo : (P.info? e).map (fun i => (i.zero, i.size, i.bytes)) = some (some (.slice none 0 0), 1, 24))
    (base : Nat) (v : Value) (tb : List (List Int)) (hs : a.eval s = v) (hown : GrowP e base w v tb) (g : Nat) (br cr : Nat) (l : List Int) (hx : a.eval x = .slice (some ⟨g, 0, none⟩) 1 1) (hc : w.cell? ⟨g, 0, none⟩ = some (.slice (some ⟨br, 0, none⟩) l.length cr)) (hr : IntsAt w br 0 l)
    (hrl : l.length ≤ 1048576) (hbr : base ≤ br) (hne : some br ≠ v.ownBlock)
    (hl : tb.length ≤ 1048576) (hbase : base ≤ w.heap.size)
    (h : ∀ v' w', GrowP e base w' v' (tb ++ [l]) → w.grownBy w' v.ownBlock → v' ≠ .slice none 0 0 → wpList P ops Q rest (a.put o.dst v') w') : wpList P ops Q (o :: rest) a w := by
  obtain ⟨i0, hi, hz0, hz1, hz2⟩ := info_parts hinfo
  obtain ⟨xs, h1, h2⟩ := hown
  refine wpList_append_own w hgd s x t ho base e i0 (.slice none 0 0) 1 24 ht hi hz0 hz1 hz2 rfl (by decide) v tb.length xs hs h1 ⟨g, 0, none⟩ 1 1 [.slice (some ⟨br, 0, none⟩) l.length cr] hx rfl ?_ ?_ (by unfold maxLen; omega) (by omega) hbase ?_
  · intro j u hj
    match j, hj with
    | 0, hj => simp at hj; subst hj; simpa [Addr.add] using hc
  · intro u hu; simp at hu; subst hu; rfl
  · intro v' w' k1 k2 k3
    refine h v' w' ⟨xs ++ [.slice (some ⟨br, 0, none⟩) l.length cr], by simpa using k1, fun i hi => ?_⟩ k2 (fun e => by have := k3.1 e; simp at this)
    have hxl : xs.length = tb.length := by simpa using h1.1
    by_cases hi' : i < tb.length
    · obtain ⟨q0, b, c, q1, q3, q2⟩ := h2 i hi'
      have hrow : row (tb ++ [l]) i = row tb i := by rw [row_eq, row_eq]; simp [List.getD, List.getElem?_append_left hi']
      rw [hrow]
      refine ⟨q0, b, c, by rw [List.getElem?_append_left (by omega)]; exact q1, q3, intsAt_grown q2 k2 (fun hne' hb => ?_)⟩
      have hpos : 0 < (row tb i).length := List.length_pos_iff.2 hne'
      have hcc := q2 0 hpos
      obtain ⟨_, b0, c0, z1, _⟩ := h2 0 (by omega)
      have := World.ownsRow.cells h1 (g := b) hb.symm 0 _ z1
      rw [Addr.add_lit] at this
      rw [this] at hcc
      simp at hcc
    · have hie : i = tb.length := by simp at hi; omega
      subst hie
      have hrow : row (tb ++ [l]) tb.length = l := by rw [row_eq]; simp [List.getD]
      rw [hrow]
      exact ⟨hrl, br, cr, by rw [List.getElem?_append_right (by omega), hxl]; simp, hbr, intsAt_grown hr k2 (fun _ => hne)⟩
end Go.Proofs.Ytjbloenjphpngaa

/-
  Lists of circles in memory: each element is some table of n elements in blocks base and above; append at such lists.
-/
namespace Go.Proofs.Ytjbloenjphpngaa
set_option linter.unusedVariables false
set_option linter.unusedSimpArgs false
open Go.RowKit
open Go.Deep

/-- some table of n elements, in blocks base and above -/
def CircAt (base n : Nat) (w : World) (r : Value) : Prop := ∃ T, RowsP (fun k => base ≤ k) w r T ∧ TableOk T ∧ T.length = n

theorem CircAt.ext {base n : Nat} {w w' : World} {r : Value} (h : CircAt base n w r) (hx : Ext w w') : CircAt base n w' r := by
  obtain ⟨T, h1, h2⟩ := h
  exact ⟨T, h1.ext hx, h2⟩

theorem CircAt.one {base n : Nat} {w : World} {r : Value} (h : CircAt base n w r) : r.oneCell' = true := by
  obtain ⟨T, h1, h2⟩ := h
  obtain ⟨b, o, c, rfl⟩ := h1.shape
  rfl

theorem CircAt.shape {base n : Nat} {w : World} {r : Value} (h : CircAt base n w r) : ∃ b o c, r = .slice (some ⟨b, o, none⟩) n c := by
  obtain ⟨T, h1, -, rfl⟩ := h
  exact h1.shape

theorem CircAt.lower {base base2 n : Nat} {w : World} {r : Value} (h : CircAt base n w r) (hb : base2 ≤ base) : CircAt base2 n w r := by
  obtain ⟨T, h1, h2⟩ := h
  exact ⟨T, h1.weaken (fun k hk => Nat.le_trans hb hk), h2⟩

/-- a list of such tables, grown -/
def CircL (base n : Nat) (w : World) (v : Value) (xs : List Value) : Prop := w.ownsRow base 24 1 v xs.length xs ∧ (∀ r, r ∈ xs → CircAt base n w r) ∧ (xs = [] → v = .slice none 0 0)

theorem CircL.ext {base n : Nat} {w w' : World} {v : Value} {xs : List Value} (h : CircL base n w v xs) (hx : Ext w w') : CircL base n w' v xs :=
  ⟨ownsRow_ext h.1 hx, fun r hr => (h.2.1 r hr).ext hx, h.2.2⟩

theorem CircL.nil (base n : Nat) (w : World) : CircL base n w (.slice none 0 0) [] := ⟨World.ownsRow_nil w base _ 1, fun r hr => (List.not_mem_nil hr).elim, fun _ => rfl⟩

theorem CircL.slice {base n : Nat} {w : World} {v : Value} {xs : List Value} (h : CircL base n w v xs) : ∃ a c, v = .slice a xs.length c := by
  rcases h.1.2 with ⟨rfl, hn⟩ | ⟨g, cap, cur, rfl, _⟩
  · exact ⟨none, 0, by rw [hn]⟩
  · exact ⟨_, cap, rfl⟩

theorem CircL.cases {base n : Nat} {w : World} {v : Value} {xs : List Value} (h : CircL base n w v xs) : (v = .slice none 0 0 ∧ xs = []) ∨ v ≠ .slice none 0 0 := by
  rcases h.1.2 with ⟨rfl, hn⟩ | ⟨g, cap, cur, rfl, _⟩
  · exact .inl ⟨rfl, List.length_eq_zero_iff.1 hn⟩
  · exact .inr (by simp)

/-- append of values at a slice of the call's own, long lists too -/
theorem wpList_append_big {P : Program} {w : World} {ops : Array Oper} {rest : List Oper} {o : Oper} {a : Act} {Q : Exit → Act → World → Prop} (hgd : o.guard = none) (s x : Operand) (t e : TypeId)
    (ho : o.op = .call { callee := .builtin .append, args := #[s, x], argTypes := #[t, t] }) (ht : P.underlying t = some (.slice e)) (hinfo : (P.info? e).map (fun i => (i.zero, i.size, i.bytes)) = some (some (.slice none 0 0), 1, 24))
    (base : Nat) (v : Value) (n : Nat) (xs : List Value) (hs : a.eval s = v) (hown : w.ownsRow base e 1 v n xs) (hv : v ≠ .slice none 0 0) (g q c m : Nat) (ys : List Value) (hm : ys.length = m) (hx : a.eval x = .slice (some ⟨g, q, none⟩) m c)
    (hc : ∀ i x, ys[i]? = some x → w.cell? ⟨g, q + i, none⟩ = some x) (h1 : ∀ u ∈ ys, u.oneCell' = true) (hl : n + m ≤ 4398046511104) (hbase : base ≤ w.heap.size)
    (h : ∀ v' w', w'.ownsRow base e 1 v' (n + m) (xs ++ ys) → w.grownBy w' v.ownBlock → v' ≠ .slice none 0 0 → wpList P ops Q rest (a.put o.dst v') w') : wpList P ops Q (o :: rest) a w := by
  obtain ⟨i0, hi, hz0, hz1, hz2⟩ := info_parts hinfo
  refine wpList_append_own w hgd s x t ho base e i0 (.slice none 0 0) 1 24 ht hi hz0 hz1 hz2 rfl (by decide) v n xs hs hown ⟨g, q, none⟩ m c ys hx (by rw [hm]; simp) ?_ h1 (by unfold maxLen; omega) (by omega) hbase fun v' w' h1 h2 h3 => h v' w' h1 h2 (fun e => hv (h3.1 e).1)
  intro j u hj
  rw [Addr.add_lit]
  exact hc j u hj
end Go.Proofs.Ytjbloenjphpngaa

/-
  Lists of tables, each table in memory of its own, apart from the others and from the list; append of some at once.
-/
namespace Go.Proofs.Ytjbloenjphpngaa
set_option linter.unusedVariables false
set_option linter.unusedSimpArgs false
open Go.RowKit
open Go.Deep

/-- r is the table t, in the blocks p -/
def TabV (w : World) (base : Nat) (r : Value) (t : List (List Int)) (p : Nat × Nat) : Prop :=
  ∃ b c, r = .slice (some ⟨b, 0, none⟩) t.length c ∧ OwnT p.1 p.2 w b 0 t ∧ Small t ∧ base ≤ p.1 ∧ p.2 ≤ w.heap.size
def TabsV (w : World) (base : Nat) : List Value → List (List (List Int)) → List (Nat × Nat) → Prop
  | [], [], [] => True
  | r :: rs, t :: ts, p :: ps => TabV w base r t p ∧ TabsV w base rs ts ps
  | _, _, _ => False
def Apart (ps : List (Nat × Nat)) : Prop := ps.Pairwise (fun p q => p.2 ≤ q.1 ∨ q.2 ≤ p.1)
def Off (g : Option Nat) (ps : List (Nat × Nat)) : Prop := ∀ p ∈ ps, ∀ k, g = some k → ¬ (p.1 ≤ k ∧ k < p.2)

theorem TabV.keep {w w' : World} {base : Nat} {r : Value} {t : List (List Int)} {p : Nat × Nat} (h : TabV w base r t p) (hs : w.heap.size ≤ w'.heap.size) (hk : ∀ k, p.1 ≤ k → k < p.2 → w'.heap[k]? = w.heap[k]?) : TabV w' base r t p := by
  obtain ⟨b, c, rfl, h1, h2, h3, h4⟩ := h
  exact ⟨b, c, rfl, h1.keep hk, h2, h3, by omega⟩
theorem TabsV.keep {w w' : World} {base : Nat} (hs : w.heap.size ≤ w'.heap.size) : ∀ {rs : List Value} {ts : List (List (List Int))} {ps : List (Nat × Nat)}, TabsV w base rs ts ps → (∀ p ∈ ps, ∀ k, p.1 ≤ k → k < p.2 → w'.heap[k]? = w.heap[k]?) → TabsV w' base rs ts ps
  | [], [], [], _, _ => trivial
  | r :: rs, t :: ts, p :: ps, h, hk => ⟨h.1.keep hs (hk p (by simp)), TabsV.keep hs h.2 (fun q hq => hk q (by simp [hq]))⟩
theorem TabsV.top {w : World} {base : Nat} : ∀ {rs : List Value} {ts : List (List (List Int))} {ps : List (Nat × Nat)}, TabsV w base rs ts ps → ∀ p ∈ ps, base ≤ p.1 ∧ p.2 ≤ w.heap.size
  | [], [], [], _, p, hp => by simp at hp
  | r :: rs, t :: ts, q :: ps, h, p, hp => by
    rcases List.mem_cons.1 hp with rfl | hp
    · obtain ⟨_, _, _, _, _, h3, h4⟩ := h.1
      exact ⟨h3, h4⟩
    · exact TabsV.top h.2 p hp
theorem TabsV.ext {w w' : World} {base : Nat} {rs : List Value} {ts : List (List (List Int))} {ps : List (Nat × Nat)} (h : TabsV w base rs ts ps) (hx : Ext w w') : TabsV w' base rs ts ps :=
  h.keep hx.size (fun p hp k _ h2 => hx.block k (by have := (h.top p hp).2; omega))
theorem TabsV.append {w : World} {base : Nat} : ∀ {rs qs : List Value} {ts us : List (List (List Int))} {ps os : List (Nat × Nat)}, TabsV w base rs ts ps → TabsV w base qs us os → TabsV w base (rs ++ qs) (ts ++ us) (ps ++ os)
  | [], _, [], _, [], _, _, h => h
  | r :: rs, _, t :: ts, _, p :: ps, _, h, k => ⟨h.1, TabsV.append h.2 k⟩
theorem TabsV.length {w : World} {base : Nat} : ∀ {rs : List Value} {ts : List (List (List Int))} {ps : List (Nat × Nat)}, TabsV w base rs ts ps → rs.length = ts.length ∧ ps.length = ts.length
  | [], [], [], _ => ⟨rfl, rfl⟩
  | r :: rs, t :: ts, p :: ps, h => by
    have := TabsV.length h.2
    simp [this.1, this.2]
theorem TabsV.get {w : World} {base : Nat} : ∀ {rs : List Value} {ts : List (List (List Int))} {ps : List (Nat × Nat)}, TabsV w base rs ts ps → ∀ i, i < ts.length → ∃ r p, rs[i]? = some r ∧ ps[i]? = some p ∧ TabV w base r (tab ts i) p
  | [], [], [], _, i, hi => by simp at hi
  | r :: rs, t :: ts, p :: ps, h, 0, hi => ⟨r, p, rfl, rfl, by rw [tab_eq]; exact h.1⟩
  | r :: rs, t :: ts, p :: ps, h, i + 1, hi => by
    obtain ⟨r1, p1, h1, h2, h3⟩ := TabsV.get h.2 i (by simpa using hi)
    refine ⟨r1, p1, by simpa using h1, by simpa using h2, ?_⟩
    rw [tab_eq] at h3 ⊢
    simpa using h3
theorem TabsV.lower {w : World} {base base2 : Nat} (hb : base2 ≤ base) : ∀ {rs : List Value} {ts : List (List (List Int))} {ps : List (Nat × Nat)}, TabsV w base rs ts ps → TabsV w base2 rs ts ps
  | [], [], [], _ => trivial
  | r :: rs, t :: ts, p :: ps, h => by
    obtain ⟨b, c, h0, h1, h2, h3, h4⟩ := h.1
    exact ⟨⟨b, c, h0, h1, h2, by omega, h4⟩, TabsV.lower hb h.2⟩
theorem TabsV.nil (w : World) (base : Nat) : TabsV w base [] [] [] := trivial
theorem TabsV.cons {w : World} {base lo hi b c : Nat} {t : List (List Int)} {rs : List Value} {ts : List (List (List Int))} {ps : List (Nat × Nat)} (h : OwnT lo hi w b 0 t) (hs : Small t) (h1 : base ≤ lo) (h2 : hi ≤ w.heap.size) (k : TabsV w base rs ts ps) :
    TabsV w base (.slice (some ⟨b, 0, none⟩) t.length c :: rs) (t :: ts) ((lo, hi) :: ps) := ⟨⟨b, c, rfl, h, hs, h1, h2⟩, k⟩
theorem TabV.rows {w : World} {base : Nat} {r : Value} {t : List (List Int)} {p : Nat × Nat} (h : TabV w base r t p) : Rows w r t := by
  obtain ⟨b, c, rfl, h1, h2, h3, h4⟩ := h
  exact (h1.rowsAt h2).rows h2.1 c

/-- a list of tables that grows -/
def GrowD (e base : Nat) (w : World) (v : Value) (ts : List (List (List Int))) : Prop :=
  ∃ xs ps, w.ownsRow base e 1 v ts.length xs ∧ TabsV w base xs ts ps ∧ Apart ps ∧ Off v.ownBlock ps
theorem GrowD.ext {e base : Nat} {w w' : World} {v : Value} {ts : List (List (List Int))} (h : GrowD e base w v ts) (hx : Ext w w') : GrowD e base w' v ts := by
  obtain ⟨xs, ps, h1, h2, h3, h4⟩ := h
  exact ⟨xs, ps, ownsRow_ext h1 hx, h2.ext hx, h3, h4⟩
theorem GrowD.lt {e base : Nat} {w : World} {v : Value} {ts : List (List (List Int))} (h : GrowD e base w v ts) (k : Nat) (hk : v.ownBlock = some k) : base ≤ k ∧ k < w.heap.size := by
  obtain ⟨xs, ps, h1, -⟩ := h
  exact h1.lt k hk
theorem GrowD.one {e base : Nat} {w : World} {lo hi b c : Nat} {t : List (List Int)} (h : OwnT lo hi w b 0 t) (hs : Small t) (h1 : base ≤ lo) (h2 : hi ≤ w.heap.size) (hb : base ≤ w.heap.size) :
    GrowD e base (w.alloc (.cells #[.slice (some ⟨b, 0, none⟩) t.length c] e)) (.slice (some ⟨w.heap.size, 0, none⟩) 1 1) [t] :=
  ⟨_, [(lo, hi)], ownsRow_one hb, ((TabsV.nil w base).cons (c := c) h hs h1 h2).ext ((Ext.refl w).alloc _), by simp [Apart], fun p hp k hk => by
    have : p = (lo, hi) := by simpa using hp
    subst this
    have : w.heap.size = k := Option.some.inj hk
    simp only []
    omega⟩
theorem GrowD.slice {e base : Nat} {w : World} {v : Value} {ts : List (List (List Int))} (h : GrowD e base w v ts) (h0 : 0 < ts.length) : ∃ g c, v = .slice (some ⟨g, 0, none⟩) ts.length c := by
  obtain ⟨xs, ps, h1, -⟩ := h
  rcases h1.2 with ⟨rfl, hn⟩ | ⟨g, cap, cur, rfl, _⟩
  · omega
  · exact ⟨_, cap, rfl⟩
theorem GrowD.cell {e base : Nat} {w : World} {g n c : Nat} {ts : List (List (List Int))} (h : GrowD e base w (.slice (some ⟨g, 0, none⟩) n c) ts) {i : Nat} (hi : i < ts.length) : ∃ b d p, w.cell? ⟨g, i, none⟩ = some (.slice (some ⟨b, 0, none⟩) (tab ts i).length d) ∧ TabV w base (.slice (some ⟨b, 0, none⟩) (tab ts i).length d) (tab ts i) p := by
  obtain ⟨xs, ps, h1, h2, -⟩ := h
  obtain ⟨r, p, g1, g2, g3⟩ := h2.get i hi
  have hc := World.ownsRow.cells h1 (g := g) rfl i _ g1
  rw [Addr.add_lit, Nat.zero_add] at hc
  obtain ⟨b, d, rfl, -⟩ := id g3
  exact ⟨b, d, p, hc, g3⟩
theorem GrowD.tabs {e base : Nat} {w : World} {v : Value} {ts : List (List (List Int))} (h : GrowD e base w v ts) (hl : ts.length ≤ 1048576) (h0 : 0 < ts.length) : Tabs w v ts := by
  obtain ⟨g, c, rfl⟩ := h.slice h0
  refine ⟨hl, g, 0, c, rfl, fun i hi => ?_⟩
  obtain ⟨b, d, p, h1, h2⟩ := h.cell hi
  exact ⟨_, by rw [Nat.zero_add]; exact h1, h2.rows⟩

/-- append(v, tables) -/
theorem wpList_append_tabs {P : Program} {w1 w : World} {ops : Array Oper} {rest : List Oper} {o : Oper} {a : Act} {Q : Exit → Act → World → Prop} (hgd : o.guard = none) (s x : Operand) (t e : TypeId)
    (ho : o.op = .call { callee := .builtin .append, args := #[s, x], argTypes := #[t, t] }) (ht : P.underlying t = some (.slice e)) {z : Value} (hinfo : (P.info? e).map (fun i => (i.zero, i.size, i.bytes)) = some (some z, 1, 24)) (hz1c : z.cells.size = 1)
    (base : Nat) (v : Value) (ts : List (List (List Int))) (hs : a.eval s = v) (hown : GrowD e base w1 v ts) (hx1 : Ext w1 w) (g m : Nat) (rs : List Value) (ls : List (List (List Int))) (qs : List (Nat × Nat)) (hx : a.eval x = .slice (some ⟨g, 0, none⟩) m m) (hm : m = ls.length) (hc : ∀ j u, rs[j]? = some u → w.cell? ⟨g, j, none⟩ = some u)
    (hr : TabsV w w1.heap.size rs ls qs) (hap : Apart qs) (hl : ts.length + ls.length ≤ 1048576) (hbase : base ≤ w1.heap.size)
    (h : ∀ v' w', GrowD e base w' v' (ts ++ ls) → w.grownBy w' v.ownBlock → (v'.ownBlock = v.ownBlock ∨ v'.ownBlock = some w.heap.size) → wpList P ops Q rest (a.put o.dst v') w') : wpList P ops Q (o :: rest) a w := by
  subst hm
  obtain ⟨i0, hi, hz0, hz1, hz2⟩ := info_parts hinfo
  obtain ⟨xs, ps, h1, h2, h3, h4⟩ := id hown
  have hlt := hown.lt
  have hz := hx1.size
  refine wpList_append_own_at w hgd s x t ho base e i0 z 1 24 ht hi hz0 hz1 hz2 hz1c (by decide) v ts.length xs hs (ownsRow_ext h1 hx1) ⟨g, 0, none⟩ ls.length ls.length rs hx (by rw [hr.length.1, Nat.mul_one]) ?_ ?_ (by unfold maxLen; omega) (by omega) (by omega) ?_
  · intro j u hj
    rw [Addr.add_lit, Nat.zero_add]
    exact hc j u hj
  · intro u hu
    obtain ⟨i, hi, rfl⟩ := List.mem_iff_getElem.1 hu
    obtain ⟨r, p, g1, g2, b, c, rfl, -⟩ := hr.get i (by rw [← hr.length.1]; exact hi)
    rw [List.getElem?_eq_getElem hi] at g1
    rw [Option.some.inj g1]; rfl
  · intro v' w' k1 k2 k3 k4
    have top1 := h2.top
    have top2 := hr.top
    refine h v' w' ⟨xs ++ rs, ps ++ qs, by simpa using k1, TabsV.append ?_ ?_, ?_, ?_⟩ k2 k4
    · refine (h2.ext hx1).keep k2.size (fun p hp k g1 g2 => k2.block k (by have := (top1 p hp).2; omega) (fun e => h4 p hp k e.symm ⟨g1, g2⟩))
    · refine (hr.lower hbase).keep k2.size (fun p hp k g1 g2 => k2.block k (by have := (top2 p hp).2; omega) (fun e => by have := hlt k e.symm; have := (top2 p hp).1; omega))
    · unfold Apart at *
      rw [List.pairwise_append]
      exact ⟨h3, hap, fun p hp q hq => .inl (by have := (top1 p hp).2; have := (top2 q hq).1; omega)⟩
    · intro p hp k hk
      rcases k4 with e4 | e4
      · rw [e4] at hk
        rcases List.mem_append.1 hp with hp | hp
        · exact h4 p hp k hk
        · have := hlt k hk; have := (top2 p hp).1; omega
      · rw [e4] at hk
        have hk := Option.some.inj hk
        rcases List.mem_append.1 hp with hp | hp
        · have := (top1 p hp).2; omega
        · have := (top2 p hp).2; omega
end Go.Proofs.Ytjbloenjphpngaa

/-
  l01Turn of the reference: its table lies in new memory.
-/
namespace Go.Proofs.Ytjbloenjphpngaa
set_option linter.unusedVariables false
set_option linter.unusedSimpArgs false
open Go.RowKit


theorem l01Turn_p (t : List (List Int)) (v : Value) (w : World) (hv : Rows w v t) (hT : TableOk t) :
    Calls Try.prog 46 #[v] w fun e w' => ∃ v, e = .returned v ∧ RowsP (fun k => w.heap.size ≤ k) w' v (turnT t) ∧ Ext w w' := by
  obtain ⟨hlen, b, o, c, rfl, hc⟩ := id hv
  have HLT := Lib.hid (length_turnT t)
  go_enter Try.func46, Try.ntmps46
  go_wp2
  have hx0 : Ext w (w.alloc (.cells #[] 28)) := (Ext.refl _).alloc _
  have hg0 := GrowP.lit (e := 28) (base := w.heap.size) (w := w) (Nat.le_refl _)
  go_loopw [3, 4] (fun v x wr => ∃ k : Nat, k ≤ t.length ∧ x = .int .i64 k ∧ GrowP 28 w.heap.size wr v ((turnT t).take k) ∧ v ≠ .slice none 0 0 ∧ Ext w wr) (fun _ x _ => t.length - (intOf x).toNat)
  case atStart => exact ⟨0, Nat.zero_le _, rfl, hg0, by simp, hx0⟩
  case round =>
    clear hx0 hg0
    obtain ⟨k, hk, rfl, hg, hv', hx⟩ := hrel
    have HV := Lib.hid hv'
    clear hv'
    by_cases hkl : k < t.length
    case neg =>
      go_wp2
      go_ret
      refine ⟨u3, rfl, ?_, hx⟩
      have : (turnT t).take k = turnT t := List.take_of_length_le (by rw [HLT.out]; omega)
      rw [this] at hg
      exact hg.rowsP (by rw [HLT.out]; omega) HV.out
    case pos =>
      have HO := Lib.hid hg.lt
      have HRL := Lib.hid (length_row_turnT t k hkl)
      obtain ⟨w2, rfl⟩ : ∃ w2 : World, w2 = wr := ⟨_, rfl⟩
      go_wp2_with fail
      refine (l01Column_any t _ k _ (hv.ext hx) hT hkl).mono ?_
      rintro e w3 ⟨br, cr, rfl, hri, hrb, hrb2, hx2⟩
      have hgw := hg.ext hx2
      have hne : some br ≠ u3.ownBlock := fun e => by have := HO.out br e.symm; omega
      have htl : ((turnT t).take k).length = k := by rw [List.length_take, HLT.out]; omega
      have HTL := Lib.hid htl
      clear htl hg
      go_wp2_with (at_builtin; refine wpList_append_row_p rfl _ _ 24 28 rfl Try.underlying24 infoSl w.heap.size _ _ rfl (hgw.ext (ext_box _ _ _)) _ br cr (row (turnT t) k) rfl (by rw [HRL.out]; exact cell_new _ _ _) (hri.ext (ext_box _ _ _)) (by rw [HRL.out]; omega) (by have := hx.size; omega) hne (by rw [HTL.out]; omega) (by have := hx.size; have := hx2.size; simp; omega) ?_)
      intro v' w4 hg3 hgr hv3
      have hx3 : Ext w w4 := (hx.trans (hx2.trans (ext_box _ _ _))).grown hgr (hgw.ext (ext_box _ _ _)).own.choose_spec (Nat.le_refl _)
      clear hgr hne hgw
      go_wp2
      go_roundw
      case rel => exact ⟨k + 1, by omega, by go_num, by rw [take_row _ _ (by rw [HLT.out]; exact hkl)]; exact hg3, hv3, hx3⟩
      case measure => simp [intOf]; omega
end Go.Proofs.Ytjbloenjphpngaa
