/-
  Slices that grow by append. No program in sight.
-/
import Derived.Maps.AppendAt
import Derived.Test.YthlafeefjonkdaaDoorJx0
import Derived.Test.YthlafeefjonkdaaDoorJx1
namespace Go.Proofs.YthlafeefjonkdaaDoor
set_option linter.unusedVariables false
set_option linter.unusedSimpArgs false
open Go.RowKit

theorem Ext.grown {a w w' : World} {base n size : Nat} {e : TypeId} {v : Value} {xs : List Value} (h : Ext a w) (hg : w.grownBy w' v.ownBlock) (ho : w.ownsRow base e size v n xs) (hb : a.heap.size ≤ base) : Ext a w' :=
  Below.grown h hg h.size (fun k hk => by have := (ho.lt k hk).1; omega)

/-- v is a slice of the call's own (blocks from base on) that holds l and may grow -/
def GrowI (e base : Nat) (w : World) (v : Value) (l : List Int) : Prop := w.ownsRow base e 1 v l.length (l.map (Value.int .i64))
theorem GrowI.nil (e base : Nat) (w : World) : GrowI e base w (.slice none 0 0) [] := World.ownsRow_nil w base e 1
theorem GrowI.alloc {e base : Nat} {w : World} {v : Value} {l : List Int} (h : GrowI e base w v l) (o : Obj) : GrowI e base (w.alloc o) v l := World.ownsRow.alloc h o
theorem ownsRow_ext {base n size : Nat} {e : TypeId} {w w' : World} {v : Value} {xs : List Value} (h : w.ownsRow base e size v n xs) (hx : Ext w w') : w'.ownsRow base e size v n xs := by
  refine ⟨h.1, ?_⟩
  rcases h.2 with hn | ⟨g, cap, cur, rfl, hb, hg, rest⟩
  · exact .inl hn
  · exact .inr ⟨g, cap, cur, rfl, hb, by rw [hx.block g (Array.getElem?_eq_some_iff.1 hg).1]; exact hg, rest⟩
theorem GrowI.ext {e base : Nat} {w w' : World} {v : Value} {l : List Int} (h : GrowI e base w v l) (hx : Ext w w') : GrowI e base w' v l := ownsRow_ext h hx
/-- a slice of no elements, just made -/
theorem GrowI.lit {e base : Nat} {w : World} (hb : base ≤ w.heap.size) : GrowI e base (w.alloc (.cells #[] e)) (.slice (some ⟨w.heap.size, 0, none⟩) 0 0) [] :=
  World.ownsRow_made w #[] 0 hb (Nat.zero_le _) rfl
theorem GrowI.slice {e base : Nat} {w : World} {v : Value} {l : List Int} (h : GrowI e base w v l) : ∃ a c, v = .slice a l.length c := by
  rcases h.2 with ⟨rfl, hn⟩ | ⟨g, cap, cur, rfl, _⟩
  · exact ⟨none, 0, by rw [hn]⟩
  · exact ⟨_, cap, rfl⟩
theorem GrowI.ownIV {e base hi : Nat} {w : World} {v : Value} {l : List Int} (h : GrowI e base w v l) (hl : l.length ≤ 1048576) (hh : w.heap.size ≤ hi) : OwnIV base hi w v l := by
  have hlen := h.1
  have hlt := World.ownsRow.lt h
  refine ⟨hl, ?_⟩
  rcases h.2 with ⟨rfl, hn⟩ | ⟨g, cap, cur, rfl, hb, hg, hnc, _, hcs, htake⟩
  · exact ⟨none, 0, by rw [hn], fun hne => absurd (List.length_eq_zero_iff.1 hn) hne⟩
  · refine ⟨_, cap, rfl, fun _ => ⟨g, 0, rfl, hb, by have := (hlt g rfl).2; omega, fun i hi => ?_, fun i _ => ?_⟩⟩
    · have := World.ownsRow.cells h (g := g) rfl i (.int .i64 (ix l i)) (by
        rw [ix_eq]
        simp [List.getD, hi])
      rwa [Addr.add_lit] at this
    · simp [World.frozen?, hg]
theorem GrowI.ints {e base : Nat} {w : World} {v : Value} {l : List Int} (h : GrowI e base w v l) (hl : l.length ≤ 1048576) (hv : v ≠ .slice none 0 0) : Ints w v l := by
  have h' := h.ownIV hl (Nat.le_refl _)
  rcases h.2 with ⟨rfl, hn⟩ | ⟨g, cap, cur, rfl, hb, hg, hnc, _, hcs, htake⟩
  · exact absurd rfl hv
  · refine ⟨hl, g, 0, cap, rfl, fun i hi => ?_⟩
    have := World.ownsRow.cells h (g := g) rfl i (.int .i64 (ix l i)) (by
        rw [ix_eq]
        simp [List.getD, hi])
    rwa [Addr.add_lit] at this

/-- append(v, y) at such a slice -/
theorem wpList_append_int {P : Program} {w : World} {ops : Array Oper} {rest : List Oper} {o : Oper} {a : Act} {Q : Exit → Act → World → Prop} (hgd : o.guard = none) (s x : Operand) (t e : TypeId)
    (ho : o.op = .call { callee := .builtin .append, args := #[s, x], argTypes := #[t, t] }) (ht : P.underlying t = some (.slice e)) (hinfo : (P.info? e).map (fun i => (i.zero, i.size, i.bytes)) = some (some (.int .i64 0), 1, 8))
    (base : Nat) (v : Value) (l : List Int) (hs : a.eval s = v) (hown : GrowI e base w v l) (g : Nat) (y : Int) (hx : a.eval x = .slice (some ⟨g, 0, none⟩) 1 1) (hc : w.cell? ⟨g, 0, none⟩ = some (.int .i64 y))
    (hl : l.length ≤ 1048576) (hbase : base ≤ w.heap.size)
    (h : ∀ v' w', GrowI e base w' v' (l ++ [y]) → w.grownBy w' v.ownBlock → v' ≠ .slice none 0 0 → wpList P ops Q rest (a.put o.dst v') w') : wpList P ops Q (o :: rest) a w := by
  obtain ⟨i0, hi, hz0, hz1, hz2⟩ := info_parts hinfo
  refine wpList_append_own w hgd s x t ho base e i0 (.int .i64 0) 1 8 ht hi hz0 hz1 hz2 rfl (by decide) v l.length (l.map (Value.int .i64)) hs hown ⟨g, 0, none⟩ 1 1 [.int .i64 y] hx rfl ?_ ?_ (by unfold maxLen; omega) (by omega) hbase ?_
  · intro j u hj
    match j, hj with
    | 0, hj => simp at hj; subst hj; simpa [Addr.add] using hc
  · intro u hu; simp at hu; subst hu; rfl
  · intro v' w' h1 h2 h3
    refine h v' w' ?_ h2 (fun e => by have := h3.1 e; simp at this)
    have : (l.map (Value.int .i64)) ++ [Value.int .i64 y] = (l ++ [y]).map (Value.int .i64) := by simp
    rw [this] at h1
    have hlen : (l ++ [y]).length = l.length + 1 := by simp
    unfold GrowI
    rw [hlen]; exact h1

theorem GrowI.row {e base : Nat} {w : World} {v : Value} {l : List Int} (h : GrowI e base w v l) (hv : v ≠ .slice none 0 0) : ∃ b c, v = .slice (some ⟨b, 0, none⟩) l.length c ∧ IntsAt w b 0 l ∧ base ≤ b ∧ b < w.heap.size := by
  rcases h.2 with ⟨rfl, hn⟩ | ⟨g, cap, cur, rfl, hb, hg, hnc, _, hcs, htake⟩
  · exact absurd rfl hv
  · refine ⟨g, cap, rfl, fun i hi => ?_, hb, (World.ownsRow.lt h g rfl).2⟩
    have := World.ownsRow.cells h (g := g) rfl i (.int .i64 (ix l i)) (by
        rw [ix_eq]
        simp [List.getD, hi])
    rwa [Addr.add_lit] at this

/-- v is a slice of the call's own that holds slices of the rows of t, each at the head of its block -/
def GrowT (e base : Nat) (w : World) (v : Value) (t : List (List Int)) : Prop :=
  ∃ xs : List Value, w.ownsRow base e 1 v t.length xs ∧ ∀ i, i < t.length → (row t i).length ≤ 1048576 ∧ ∃ b c, xs[i]? = some (.slice (some ⟨b, 0, none⟩) (row t i).length c) ∧ IntsAt w b 0 (row t i)
theorem GrowT.lit {e base : Nat} {w : World} (hb : base ≤ w.heap.size) : GrowT e base (w.alloc (.cells #[] e)) (.slice (some ⟨w.heap.size, 0, none⟩) 0 0) [] :=
  ⟨[], World.ownsRow_made w #[] 0 hb (Nat.zero_le _) rfl, fun i hi => by simp at hi⟩
theorem GrowT.nil (e base : Nat) (w : World) : GrowT e base w (.slice none 0 0) [] := ⟨[], World.ownsRow_nil w base e 1, fun i hi => by simp at hi⟩
theorem GrowT.ext {e base : Nat} {w w' : World} {v : Value} {t : List (List Int)} (h : GrowT e base w v t) (hx : Ext w w') : GrowT e base w' v t := by
  obtain ⟨xs, h1, h2⟩ := h
  refine ⟨xs, ownsRow_ext h1 hx, fun i hi => ?_⟩
  obtain ⟨g0, b, c, g1, g2⟩ := h2 i hi
  exact ⟨g0, b, c, g1, g2.ext hx⟩
theorem GrowT.lt {e base : Nat} {w : World} {v : Value} {t : List (List Int)} (h : GrowT e base w v t) : ∀ k, v.ownBlock = some k → base ≤ k ∧ k < w.heap.size := by
  obtain ⟨xs, h1, h2⟩ := h
  exact h1.lt
theorem GrowT.own {e base : Nat} {w : World} {v : Value} {t : List (List Int)} (h : GrowT e base w v t) : ∃ xs, w.ownsRow base e 1 v t.length xs := h.imp fun _ h => h.1
theorem GrowT.slice {e base : Nat} {w : World} {v : Value} {t : List (List Int)} (h : GrowT e base w v t) : ∃ a c, v = .slice a t.length c := by
  obtain ⟨xs, h1, h2⟩ := h
  rcases h1.2 with ⟨rfl, hn⟩ | ⟨g, cap, cur, rfl, _⟩
  · exact ⟨none, 0, by rw [hn]⟩
  · exact ⟨_, cap, rfl⟩
theorem GrowT.rows {e base : Nat} {w : World} {v : Value} {t : List (List Int)} (h : GrowT e base w v t) (hl : t.length ≤ 1048576) (hv : v ≠ .slice none 0 0) : Rows w v t := by
  obtain ⟨xs, h1, h2⟩ := h
  rcases id h1.2 with ⟨rfl, hn⟩ | ⟨g, cap, cur, rfl, hb, hg, hnc, _, hcs, htake⟩
  · exact absurd rfl hv
  · refine ⟨hl, g, 0, cap, rfl, fun i hi => ?_⟩
    obtain ⟨g0, b, c, g1, g2⟩ := h2 i hi
    have := World.ownsRow.cells h1 (g := g) rfl i _ g1
    rw [Addr.add_lit] at this
    exact ⟨_, this, g2.ints g0 c⟩
theorem GrowT.toR {e base : Nat} {w : World} {v : Value} {t : List (List Int)} (h : GrowT e base w v t) : RowsR w v t := by
  obtain ⟨xs, h1, h2⟩ := h
  rcases id h1.2 with ⟨rfl, hn⟩ | ⟨g, cap, cur, rfl, hb, hg, hnc, _, hcs, htake⟩
  · exact ⟨none, 0, by rw [hn], fun hne => absurd (List.length_eq_zero_iff.1 hn) hne⟩
  · refine ⟨_, cap, rfl, fun _ => ⟨g, 0, rfl, fun i hi => ?_⟩⟩
    obtain ⟨g0, b, c, g1, g2⟩ := h2 i hi
    have := World.ownsRow.cells h1 (g := g) rfl i _ g1
    rw [Addr.add_lit] at this
    exact ⟨_, this, (g2.ints g0 c).toR⟩
theorem intsAt_grown {w w' : World} {b : Nat} {l : List Int} {g : Option Nat} (h : IntsAt w b 0 l) (hg : w.grownBy w' g) (hne : l ≠ [] → some b ≠ g) : IntsAt w' b 0 l := fun i hi =>
  hg.cell (h i hi) (hne (ne_nil_of_lt hi))

/-- append(v, r) at such a slice -/
theorem wpList_append_row {P : Program} {w : World} {ops : Array Oper} {rest : List Oper} {o : Oper} {a : Act} {Q : Exit → Act → World → Prop} (hgd : o.guard = none) (s x : Operand) (t e : TypeId)
    (ho : o.op = .call { callee := .builtin .append, args := #[s, x], argTypes := #[t, t] }) (ht : P.underlying t = some (.slice e)) (hinfo : (P.info? e).map (fun i => (i.zero, i.size, i.bytes)) = some (some (.slice none 0 0), 1, 24))
    (base : Nat) (v : Value) (tb : List (List Int)) (hs : a.eval s = v) (hown : GrowT e base w v tb) (g : Nat) (br cr : Nat) (l : List Int) (hx : a.eval x = .slice (some ⟨g, 0, none⟩) 1 1) (hc : w.cell? ⟨g, 0, none⟩ = some (.slice (some ⟨br, 0, none⟩) l.length cr)) (hr : IntsAt w br 0 l)
    (hrl : l.length ≤ 1048576) (hne : some br ≠ v.ownBlock)
    (hl : tb.length ≤ 1048576) (hbase : base ≤ w.heap.size)
    (h : ∀ v' w', GrowT e base w' v' (tb ++ [l]) → w.grownBy w' v.ownBlock → v' ≠ .slice none 0 0 → wpList P ops Q rest (a.put o.dst v') w') : wpList P ops Q (o :: rest) a w := by
  obtain ⟨i0, hi, hz0, hz1, hz2⟩ := info_parts hinfo
  obtain ⟨xs, h1, h2⟩ := hown
  refine wpList_append_own w hgd s x t ho base e i0 (.slice none 0 0) 1 24 ht hi hz0 hz1 hz2 rfl (by decide) v tb.length xs hs h1 ⟨g, 0, none⟩ 1 1 [.slice (some ⟨br, 0, none⟩) l.length cr] hx rfl ?_ ?_ (by unfold maxLen; omega) (by omega) hbase ?_
  · intro j u hj
    match j, hj with
    | 0, hj => simp at hj; subst hj; simpa [Addr.add] using hc
  · intro u hu; simp at hu; subst hu; rfl
  · intro v' w' k1 k2 k3
    refine h v' w' ⟨xs ++ [.slice (some ⟨br, 0, none⟩) l.length cr], by simpa using k1, fun i hi => ?_⟩ k2 (fun e => by have := k3.1 e; simp at this)
    have hxl : xs.length = tb.length := by simpa using h1.1
    by_cases hi' : i < tb.length
    · obtain ⟨q0, b, c, q1, q2⟩ := h2 i hi'
      have hrow : row (tb ++ [l]) i = row tb i := by rw [row_eq, row_eq]; simp [List.getD, List.getElem?_append_left hi']
      rw [hrow]
      refine ⟨q0, b, c, by rw [List.getElem?_append_left (by omega)]; exact q1, intsAt_grown q2 k2 (fun hne' hb => ?_)⟩
      have hpos : 0 < (row tb i).length := List.length_pos_iff.2 hne'
      have hcc := q2 0 hpos
      obtain ⟨_, b0, c0, z1, _⟩ := h2 0 (by omega)
      have := World.ownsRow.cells h1 (g := b) hb.symm 0 _ z1
      rw [Addr.add_lit] at this
      rw [this] at hcc
      simp at hcc
    · have hie : i = tb.length := by simp at hi; omega
      subst hie
      have hrow : row (tb ++ [l]) tb.length = l := by rw [row_eq]; simp [List.getD]
      rw [hrow]
      exact ⟨hrl, br, cr, by rw [List.getElem?_append_right (by omega), hxl]; simp, intsAt_grown hr k2 (fun _ => hne)⟩

theorem GrowI.own {e base : Nat} {w : World} {v : Value} {l : List Int} (h : GrowI e base w v l) (hv : v ≠ .slice none 0 0) : ∃ b c, v = .slice (some ⟨b, 0, none⟩) l.length c ∧ OwnI base w.heap.size w b 0 l := by
  rcases h.2 with ⟨rfl, hn⟩ | ⟨g, cap, cur, rfl, hb, hg, hnc, _, hcs, htake⟩
  · exact absurd rfl hv
  · refine ⟨g, cap, rfl, hb, (World.ownsRow.lt h g rfl).2, fun i hi => ?_, fun i _ => ?_⟩
    · have := World.ownsRow.cells h (g := g) rfl i (.int .i64 (ix l i)) (by
        rw [ix_eq]
        simp [List.getD, hi])
      rwa [Addr.add_lit] at this
    · simp [World.frozen?, hg]
end Go.Proofs.YthlafeefjonkdaaDoor

/-
  What the exported functions return: shapes of results.
-/
namespace Go.Proofs.YthlafeefjonkdaaDoor
set_option linter.unusedVariables false
set_option linter.unusedSimpArgs false
open Go.RowKit

theorem IntsAt.setNil {w : World} {b o : Nat} {l : List Int} (h : IntsAt w b o l) {a : Addr} (ha : w.cell? a = some (.slice none 0 0)) (u : Value) : IntsAt (w.setCell a u) b o l := fun i hi => by
  have := h i hi
  rw [World.cell?_setCell_other _ _ _ _ (fun e => by rw [e, this] at ha; simp at ha)]; exact this
theorem Ints.setNil {w : World} {v : Value} {l : List Int} (h : Ints w v l) {a : Addr} (ha : w.cell? a = some (.slice none 0 0)) (u : Value) : Ints (w.setCell a u) v l := by
  obtain ⟨hl, b, o, c, rfl, hc⟩ := h
  exact ⟨hl, b, o, c, rfl, hc.setNil ha u⟩
/-- a store into a cell that holds nil turns no table -/
theorem Rows.setNil {w : World} {v : Value} {t : List (List Int)} (h : Rows w v t) {a : Addr} (ha : w.cell? a = some (.slice none 0 0)) (u : Value) : Rows (w.setCell a u) v t := by
  obtain ⟨hl, b, o, c, rfl, hc⟩ := h
  refine ⟨hl, b, o, c, rfl, fun i hi => ?_⟩
  obtain ⟨r, h1, h2⟩ := hc i hi
  refine ⟨r, ?_, h2.setNil ha u⟩
  rw [World.cell?_setCell_other _ _ _ _ (fun e => by
    obtain ⟨_, b', o', c', rfl, _⟩ := h2
    rw [e, h1] at ha; simp at ha)]
  exact h1

end Go.Proofs.YthlafeefjonkdaaDoor

/-
  Appends that say where the new slice lies: for two slices that grow side by side. No program in sight.
-/
namespace Go.Proofs.YthlafeefjonkdaaDoor
set_option linter.unusedVariables false
set_option linter.unusedSimpArgs false
open Go.RowKit

theorem GrowI.lt {e base : Nat} {w : World} {v : Value} {l : List Int} (h : GrowI e base w v l) {k : Nat} (hk : v.ownBlock = some k) : base ≤ k ∧ k < w.heap.size := World.ownsRow.lt h k hk
end Go.Proofs.YthlafeefjonkdaaDoor

/-
  A slice that grew by append, cut short. No program in sight.
-/
namespace Go.Proofs.YthlafeefjonkdaaDoor
set_option linter.unusedVariables false
set_option linter.unusedSimpArgs false
open Go.RowKit

theorem GrowI.cut {e base : Nat} {w : World} {a : Option Addr} {c : Nat} {l : List Int} (h : GrowI e base w (.slice a l.length c) l) {k : Nat} (hk : k ≤ l.length) : GrowI e base w (.slice a k c) (l.take k) := by
  refine ⟨by simp, ?_⟩
  have hl : (l.take k).length = k := by simp; omega
  rw [hl]
  rcases h.2 with ⟨hv, hn⟩ | ⟨g, cap, cur, hv, hb, hg, hnc, hm, hcs, htake⟩
  · simp only [Value.slice.injEq] at hv
    obtain ⟨rfl, -, rfl⟩ := hv
    exact .inl ⟨by rw [show k = 0 by omega], by omega⟩
  · simp only [Value.slice.injEq, true_and] at hv
    obtain ⟨rfl, rfl⟩ := hv
    refine .inr ⟨g, c, cur, rfl, hb, hg, by omega, hm, hcs, ?_⟩
    have := congrArg (List.take (k * 1)) htake
    rw [List.take_take, Nat.mul_one, Nat.mul_one, Nat.min_eq_left hk] at this
    rw [Nat.mul_one, this, List.map_take]
end Go.Proofs.YthlafeefjonkdaaDoor

/-
  A slice of texts that grows by append. No program in sight.
-/
namespace Go.Proofs.YthlafeefjonkdaaDoor
set_option linter.unusedVariables false
set_option linter.unusedSimpArgs false
open Go.RowKit

/-- a text as a value -/
@[irreducible] def txtV (l : List UInt8) : Value := .string ⟨l.toArray⟩
theorem txtV_eq (l : List UInt8) : Value.string ⟨l.toArray⟩ = txtV l := by unfold txtV; rfl

/-- v is a slice of the call's own that holds texts and may grow -/
def GrowS (e base : Nat) (w : World) (v : Value) (l : List (List UInt8)) : Prop := w.ownsRow base e 1 v l.length (l.map txtV)
theorem GrowS.ext {e base : Nat} {w w' : World} {v : Value} {l : List (List UInt8)} (h : GrowS e base w v l) (hx : Ext w w') : GrowS e base w' v l := ownsRow_ext h hx
theorem GrowS.lit {e base : Nat} {w : World} (hb : base ≤ w.heap.size) : GrowS e base (w.alloc (.cells #[] e)) (.slice (some ⟨w.heap.size, 0, none⟩) 0 0) [] :=
  World.ownsRow_made w #[] 0 hb (Nat.zero_le _) rfl
theorem GrowS.slice {e base : Nat} {w : World} {v : Value} {l : List (List UInt8)} (h : GrowS e base w v l) : ∃ a c, v = .slice a l.length c := by
  rcases h.2 with ⟨rfl, hn⟩ | ⟨g, cap, cur, rfl, _⟩
  · exact ⟨none, 0, by rw [hn]⟩
  · exact ⟨_, cap, rfl⟩

/-- a slice of texts -/
def StrsAt (w : World) (b : Nat) (l : List (List UInt8)) : Prop := ∀ i x, l[i]? = some x → w.cell? ⟨b, i, none⟩ = some (txtV x)
theorem StrsAt.ext {w w' : World} {b : Nat} {l : List (List UInt8)} (h : StrsAt w b l) (hx : Ext w w') : StrsAt w' b l := fun i x hi => hx.cell (h i x hi)
def Strs (w : World) (v : Value) (l : List (List UInt8)) : Prop := ∃ b c, v = .slice (some ⟨b, 0, none⟩) l.length c ∧ StrsAt w b l
theorem Strs.ext {w w' : World} {v : Value} {l : List (List UInt8)} (h : Strs w v l) (hx : Ext w w') : Strs w' v l := by
  obtain ⟨b, c, h1, h2⟩ := h
  exact ⟨b, c, h1, h2.ext hx⟩
theorem GrowS.strs {e base : Nat} {w : World} {v : Value} {l : List (List UInt8)} (h : GrowS e base w v l) (hv : v ≠ .slice none 0 0) : Strs w v l := by
  rcases h.2 with ⟨rfl, hn⟩ | ⟨g, cap, cur, rfl, hb, hg, hnc, _, hcs, htake⟩
  · exact absurd rfl hv
  · refine ⟨g, cap, rfl, fun i x hi => ?_⟩
    have := World.ownsRow.cells h (g := g) rfl i (txtV x) (by simp [hi])
    rwa [Addr.add_lit, Nat.zero_add] at this

/-- append(v, y) at such a slice -/
theorem wpList_append_str {P : Program} {w : World} {ops : Array Oper} {rest : List Oper} {o : Oper} {a : Act} {Q : Exit → Act → World → Prop} (hgd : o.guard = none) (s x : Operand) (t e : TypeId)
    (ho : o.op = .call { callee := .builtin .append, args := #[s, x], argTypes := #[t, t] }) (ht : P.underlying t = some (.slice e)) (hinfo : (P.info? e).map (fun i => (i.zero, i.size, i.bytes)) = some (some (.string ByteArray.empty), 1, 16))
    (base : Nat) (v : Value) (l : List (List UInt8)) (hs : a.eval s = v) (hown : GrowS e base w v l) (g : Nat) (y : List UInt8) (hx : a.eval x = .slice (some ⟨g, 0, none⟩) 1 1) (hc : w.cell? ⟨g, 0, none⟩ = some (txtV y))
    (hl : l.length ≤ 1048577) (hbase : base ≤ w.heap.size)
    (h : ∀ v' w', GrowS e base w' v' (l ++ [y]) → w.grownBy w' v.ownBlock → v' ≠ .slice none 0 0 → wpList P ops Q rest (a.put o.dst v') w') : wpList P ops Q (o :: rest) a w := by
  obtain ⟨i0, hi, hz0, hz1, hz2⟩ := info_parts hinfo
  refine wpList_append_own w hgd s x t ho base e i0 (.string ByteArray.empty) 1 16 ht hi hz0 hz1 hz2 rfl (by decide) v l.length (l.map txtV) hs hown ⟨g, 0, none⟩ 1 1 [txtV y] hx rfl ?_ ?_ (by unfold maxLen; omega) (by omega) hbase ?_
  · intro j u hj
    match j, hj with
    | 0, hj => simp at hj; subst hj; simpa [Addr.add] using hc
  · intro u hu; simp at hu; subst hu; unfold txtV; rfl
  · intro v' w' h1 h2 h3
    refine h v' w' ?_ h2 (fun e => by have := h3.1 e; simp at this)
    have : (l.map txtV) ++ [txtV y] = (l ++ [y]).map txtV := by simp
    rw [this] at h1
    have hlen : (l ++ [y]).length = l.length + 1 := by simp
    unfold GrowS
    rw [hlen]; exact h1

end Go.Proofs.YthlafeefjonkdaaDoor

/-
  Slices of slices of integers that grow by several rows at once. No program in sight.
-/
namespace Go.Proofs.YthlafeefjonkdaaDoor
set_option linter.unusedVariables false
set_option linter.unusedSimpArgs false
open Go.RowKit

/-- the values xs are slices that hold the rows of s -/
def XS (w : World) (xs : List Value) (s : List (List Int)) : Prop := xs.length = s.length ∧ ∀ i, i < s.length → ∃ x, xs[i]? = some x ∧ Ints w x (row s i)
theorem XS.nil (w : World) : XS w [] [] := ⟨rfl, fun i hi => by simp at hi⟩
theorem XS.one {w : World} {x : Value} {l : List Int} (h : Ints w x l) : XS w [x] [l] := ⟨rfl, fun i hi => by
  have : i = 0 := by simpa using hi
  subst this
  exact ⟨x, rfl, by rw [row_eq]; exact h⟩⟩
theorem XS.ext {w w' : World} {xs : List Value} {s : List (List Int)} (h : XS w xs s) (hx : Ext w w') : XS w' xs s := ⟨h.1, fun i hi => by
  obtain ⟨x, h1, h2⟩ := h.2 i hi
  exact ⟨x, h1, h2.ext hx⟩⟩
theorem XS.append {w : World} {xs ys : List Value} {s t : List (List Int)} (h : XS w xs s) (k : XS w ys t) : XS w (xs ++ ys) (s ++ t) := by
  refine ⟨by simp [h.1, k.1], fun i hi => ?_⟩
  by_cases hs : i < s.length
  · obtain ⟨x, h1, h2⟩ := h.2 i hs
    refine ⟨x, by rw [List.getElem?_append_left (by rw [h.1]; exact hs)]; exact h1, ?_⟩
    rw [row_eq]
    rw [row_eq] at h2
    simpa [List.getD, List.getElem?_append_left hs] using h2
  · have hl : i - s.length < t.length := by simp at hi; omega
    obtain ⟨x, h1, h2⟩ := k.2 (i - s.length) hl
    refine ⟨x, by rw [List.getElem?_append_right (by rw [h.1]; omega), h.1]; exact h1, ?_⟩
    rw [row_eq]
    rw [row_eq] at h2
    simpa [List.getD, List.getElem?_append_right (Nat.le_of_not_lt hs)] using h2
theorem XS.take {w : World} {xs : List Value} {s : List (List Int)} (h : XS w xs s) (k : Nat) : XS w (xs.take k) (s.take k) := by
  refine ⟨by simp [h.1], fun i hi => ?_⟩
  have hi' : i < k ∧ i < s.length := by rw [List.length_take] at hi; omega
  obtain ⟨x, h1, h2⟩ := h.2 i hi'.2
  refine ⟨x, by rw [List.getElem?_take, if_pos hi'.1]; exact h1, ?_⟩
  rw [row_eq]
  rw [row_eq] at h2
  simpa [List.getD, List.getElem?_take, hi'.1] using h2
theorem XS.drop {w : World} {xs : List Value} {s : List (List Int)} (h : XS w xs s) (k : Nat) : XS w (xs.drop k) (s.drop k) := by
  refine ⟨by simp [h.1], fun i hi => ?_⟩
  have hi' : k + i < s.length := by rw [List.length_drop] at hi; omega
  obtain ⟨x, h1, h2⟩ := h.2 (k + i) hi'
  refine ⟨x, by rw [List.getElem?_drop]; exact h1, ?_⟩
  rw [row_eq]
  rw [row_eq] at h2
  simpa [List.getD, List.getElem?_drop] using h2
theorem XS.cell {w : World} {xs : List Value} {s : List (List Int)} (h : XS w xs s) : ∀ u ∈ xs, u.oneCell' = true := by
  intro u hu
  obtain ⟨i, hi, rfl⟩ := List.mem_iff_getElem.1 hu
  obtain ⟨x, h1, _, b, o, c, rfl, _⟩ := h.2 i (by rw [← h.1]; exact hi)
  rw [List.getElem?_eq_getElem hi] at h1
  have h1 := Option.some.inj h1
  rw [h1]; rfl
/-- v is a slice of the call's own of slices that hold the rows of s -/
def GrowX (e base : Nat) (w : World) (v : Value) (s : List (List Int)) : Prop := ∃ xs, w.ownsRow base e 1 v s.length xs ∧ XS w xs s
theorem GrowX.ext {e base : Nat} {w w' : World} {v : Value} {s : List (List Int)} (h : GrowX e base w v s) (hx : Ext w w') : GrowX e base w' v s := by
  obtain ⟨xs, h1, h2⟩ := h
  exact ⟨xs, ownsRow_ext h1 hx, h2.ext hx⟩
theorem GrowX.lit {e base : Nat} {w : World} (hb : base ≤ w.heap.size) : GrowX e base (w.alloc (.cells #[] e)) (.slice (some ⟨w.heap.size, 0, none⟩) 0 0) [] :=
  ⟨[], World.ownsRow_made w #[] 0 hb (Nat.zero_le _) rfl, XS.nil _⟩
/-- its parts -/
theorem GrowX.parts {e base : Nat} {w : World} {v : Value} {s : List (List Int)} (h : GrowX e base w v s) (hv : v ≠ .slice none 0 0) :
    ∃ g cap xs, v = .slice (some ⟨g, 0, none⟩) s.length cap ∧ s.length ≤ cap ∧ base ≤ g ∧ g < w.heap.size ∧ XS w xs s ∧ (∀ i x, xs[i]? = some x → w.cell? ⟨g, i, none⟩ = some x) ∧ w.ownsRow base e 1 v s.length xs := by
  obtain ⟨xs, h1, h2⟩ := h
  rcases id h1.2 with ⟨rfl, _⟩ | ⟨g, cap, cur, rfl, hb, hg, hnc, _⟩
  · exact absurd rfl hv
  · refine ⟨g, cap, xs, rfl, hnc, hb, (h1.lt g rfl).2, h2, fun i x hi => ?_, h1⟩
    have := h1.cells (g := g) rfl i x hi
    rwa [Addr.add_lit, Nat.zero_add] at this
theorem GrowX.rows {e base : Nat} {w : World} {v : Value} {s : List (List Int)} (h : GrowX e base w v s) (hv : v ≠ .slice none 0 0) (hl : s.length ≤ 1048576) : Rows w v s := by
  obtain ⟨g, cap, xs, rfl, _, _, _, h2, h3, _⟩ := h.parts hv
  refine ⟨hl, g, 0, cap, rfl, fun i hi => ?_⟩
  obtain ⟨x, k1, k2⟩ := h2.2 i hi
  exact ⟨x, by rw [Nat.zero_add]; exact h3 i x k1, k2⟩

end Go.Proofs.YthlafeefjonkdaaDoor

/-
  The plain mathematics of tables and groups: no program in sight.
-/
namespace Go.Proofs.YthlafeefjonkdaaDoor
set_option linter.unusedVariables false
set_option linter.unusedSimpArgs false

/-- lo <= n <= hi -/
@[irreducible] def inR (n lo hi : Int) : Bool := decide (lo ≤ n) && decide (n ≤ hi)
theorem inR_iff {n lo hi : Int} : inR n lo hi = true ↔ lo ≤ n ∧ n ≤ hi := by unfold inR; simp
theorem inR_false {n lo hi : Int} : inR n lo hi = false ↔ ¬ (lo ≤ n ∧ n ≤ hi) := by rw [← inR_iff]; simp

/-- the first index of n in l at or behind k (counted from k), or -1 -/
def indexFrom (n : Int) : List Int → Nat → Int
  | [], _ => -1
  | x :: r, k => if x = n then (k : Int) else indexFrom n r (k + 1)
/-- the first index of n in l, or -1 -/
@[irreducible] def indexOf (l : List Int) (n : Int) : Int := indexFrom n l 0

theorem drop_cons (l : List Int) (k : Nat) (h : k < l.length) : l.drop k = ix l k :: l.drop (k + 1) := by
  rw [List.drop_eq_getElem_cons h, ix_eq]; simp [List.getD, h]

theorem indexFrom_hit (l : List Int) (n : Int) (k : Nat) (h : k < l.length) (e : ix l k = n) : indexFrom n (l.drop k) k = k := by
  rw [drop_cons l k h, indexFrom, if_pos e]
theorem indexFrom_miss (l : List Int) (n : Int) (k : Nat) (h : k < l.length) (e : ¬ ix l k = n) : indexFrom n (l.drop k) k = indexFrom n (l.drop (k + 1)) (k + 1) := by
  rw [drop_cons l k h, indexFrom, if_neg e]
theorem indexFrom_end (l : List Int) (n : Int) (k : Nat) (h : l.length ≤ k) : indexFrom n (l.drop k) k = -1 := by
  rw [List.drop_of_length_le h]; rfl
theorem indexFrom_spec (n : Int) : ∀ (l : List Int) (k : Nat), (indexFrom n l k = -1 ∧ ∀ i, i < l.length → l.getD i 0 ≠ n) ∨
    ∃ i, i < l.length ∧ indexFrom n l k = ((k + i : Nat) : Int) ∧ l.getD i 0 = n ∧ ∀ j, j < i → l.getD j 0 ≠ n := by
  intro l
  induction l with
  | nil => intro k; left; exact ⟨rfl, fun i hi => by simp at hi⟩
  | cons x r ih =>
    intro k
    by_cases hx : x = n
    · right; exact ⟨0, by simp, by simp [indexFrom, hx], by simpa using hx, fun j hj => by omega⟩
    · rcases ih (k + 1) with ⟨h1, h2⟩ | ⟨i, h1, h2, h3, h4⟩
      · left
        refine ⟨by simp [indexFrom, hx, h1], fun i hi => ?_⟩
        cases i with
        | zero => simpa using hx
        | succ i => simpa using h2 i (by simpa using hi)
      · right
        refine ⟨i + 1, by simpa using h1, by simp only [indexFrom, if_neg hx, h2]; omega, by simpa using h3, fun j hj => ?_⟩
        cases j with
        | zero => simpa using hx
        | succ j => simpa using h4 j (by omega)
theorem indexOf_spec (l : List Int) (n : Int) : (indexOf l n = -1 ∧ ∀ i, i < l.length → ix l i ≠ n) ∨
    ∃ i : Nat, i < l.length ∧ indexOf l n = (i : Int) ∧ ix l i = n ∧ ∀ j, j < i → ix l j ≠ n := by
  have := indexFrom_spec n l 0
  simp only [Nat.zero_add] at this
  unfold indexOf
  simpa only [ix_eq] using this

/-- n occurs in l -/
@[irreducible] def hasB (l : List Int) (n : Int) : Bool := decide (0 ≤ indexOf l n)
theorem hasB_def (l : List Int) (n : Int) : hasB l n = decide (0 ≤ indexOf l n) := by unfold hasB; rfl
theorem hasB_iff {l : List Int} {n : Int} : hasB l n = true ↔ 0 ≤ indexOf l n := by unfold hasB; simp
theorem hasB_no {l : List Int} {n : Int} : hasB l n = false ↔ ¬ 0 ≤ indexOf l n := by unfold hasB; simp

/-! ### tables -/
def RowTo (t : List (List Int)) (n x j : Nat) : Prop := ∀ y, y < j → 0 ≤ ent t x y ∧ ent t x y ≤ (n : Int) - 1
def RowOk (t : List (List Int)) (n x : Nat) : Prop := (row t x).length = n ∧ RowTo t n x n
def RowsOk (t : List (List Int)) (n k : Nat) : Prop := ∀ x, x < k → RowOk t n x
/-- t is a table -/
def TableOk (t : List (List Int)) : Prop := 1 ≤ t.length ∧ t.length ≤ 12 ∧ RowsOk t t.length t.length
instance (t n x j) : Decidable (RowTo t n x j) := by unfold RowTo; infer_instance
instance (t n x) : Decidable (RowOk t n x) := by unfold RowOk; infer_instance
instance (t n k) : Decidable (RowsOk t n k) := by unfold RowsOk; infer_instance
instance (t) : Decidable (TableOk t) := by unfold TableOk; infer_instance
@[irreducible] def tableB (t : List (List Int)) : Bool := decide (TableOk t)
theorem tableB_iff {t : List (List Int)} : tableB t = true ↔ TableOk t := by unfold tableB; simp
theorem tableB_yes {t : List (List Int)} (h : TableOk t) : tableB t = true := tableB_iff.2 h
theorem tableB_no {t : List (List Int)} (h : ¬ TableOk t) : tableB t = false := by rw [← Bool.not_eq_true, tableB_iff]; exact h
theorem RowTo.mono {t n x j j'} (h : RowTo t n x j) (hj : j' ≤ j) : RowTo t n x j' := fun y hy => h y (by omega)
theorem RowsOk.mono {t n k k'} (h : RowsOk t n k) (hk : k' ≤ k) : RowsOk t n k' := fun y hy => h y (by omega)
theorem RowTo.zero (t n x) : RowTo t n x 0 := fun y hy => by omega
theorem RowTo.succ {t n x j} (h : RowTo t n x j) (hj : 0 ≤ ent t x j ∧ ent t x j ≤ (n : Int) - 1) : RowTo t n x (j + 1) := fun y hy => by
  by_cases e : y = j
  · subst e; exact hj
  · exact h y (by omega)
theorem RowsOk.zero (t n) : RowsOk t n 0 := fun y hy => by omega
theorem RowsOk.succ {t n k} (h : RowsOk t n k) (hk : RowOk t n k) : RowsOk t n (k + 1) := fun y hy => by
  by_cases e : y = k
  · subst e; exact hk
  · exact h y (by omega)

/-! ### permutations -/
theorem pigeon {α : Type} [DecidableEq α] : ∀ (a b : List α), a.Nodup → (∀ x, x ∈ a → x ∈ b) → b.length ≤ a.length → (∀ x, x ∈ b → x ∈ a) ∧ b.Nodup
  | [], b, _, _, hl => by
    have : b = [] := List.length_eq_zero_iff.1 (by simpa using hl)
    subst this; simp
  | x :: r, b, hn, hs, hl => by
    have hx : x ∈ b := hs x (by simp)
    have hn' := List.nodup_cons.1 hn
    have hp := List.perm_cons_erase hx
    have hlen := List.length_erase_of_mem hx
    have ⟨i1, i2⟩ := pigeon r (b.erase x) hn'.2 (fun y hy => by
      have hy' := hs y (by simp [hy])
      have hne : y ≠ x := fun e => hn'.1 (e ▸ hy)
      exact (List.mem_erase_of_ne hne).2 hy') (by simp at hl; omega)
    refine ⟨fun y hy => ?_, ?_⟩
    · have := (hp.mem_iff (a := y)).1 hy
      simp only [List.mem_cons] at this ⊢
      exact this.imp id (i1 y)
    · rw [hp.nodup_iff, List.nodup_cons]
      exact ⟨fun h => hn'.1 (i1 x h), i2⟩

theorem ix_mem (l : List Int) (i : Nat) (h : i < l.length) : ix l i ∈ l := by
  rw [ix_eq]; simp [List.getD, h]
theorem mem_ix {l : List Int} {x : Int} (h : x ∈ l) : ∃ i, i < l.length ∧ ix l i = x := by
  obtain ⟨i, hi, e⟩ := List.mem_iff_getElem.1 h
  exact ⟨i, hi, by rw [ix_eq]; simp [List.getD, hi, e]⟩

/-- entries in range -/
def InTo (l : List Int) (k : Nat) : Prop := ∀ i, i < k → 0 ≤ ix l i ∧ ix l i ≤ (l.length : Int) - 1
/-- entries differ -/
def DistinctTo (l : List Int) (k : Nat) : Prop := ∀ i, i < k → ∀ j, j < i → ix l j ≠ ix l i
/-- a list has each of its indices once -/
def PermOk (l : List Int) : Prop := InTo l l.length ∧ DistinctTo l l.length
instance (l k) : Decidable (InTo l k) := by unfold InTo; infer_instance
instance (l k) : Decidable (DistinctTo l k) := by unfold DistinctTo; infer_instance
instance (l) : Decidable (PermOk l) := by unfold PermOk; infer_instance
@[irreducible] def permB (l : List Int) : Bool := decide (PermOk l)
theorem permB_iff {l : List Int} : permB l = true ↔ PermOk l := by unfold permB; simp
theorem permB_yes {l : List Int} (h : PermOk l) : permB l = true := permB_iff.2 h
theorem permB_no {l : List Int} (h : ¬ PermOk l) : permB l = false := by rw [← Bool.not_eq_true, permB_iff]; exact h

def HasTo (l : List Int) (k : Nat) : Prop := ∀ x : Nat, x < k → 0 ≤ indexOf l x
theorem HasTo.zero (l) : HasTo l 0 := fun y hy => by omega
theorem HasTo.mono {l k k'} (h : HasTo l k) (hk : k' ≤ k) : HasTo l k' := fun y hy => h y (by omega)
theorem HasTo.succ {l k} (h : HasTo l k) (hk : 0 ≤ indexOf l k) : HasTo l (k + 1) := fun y hy => by
  by_cases e : y = k
  · subst e; exact hk
  · exact h y (by omega)

theorem nodup_of_distinct : ∀ (l : List Int), DistinctTo l l.length → l.Nodup := by
  intro l h
  rw [List.nodup_iff_pairwise_ne, List.pairwise_iff_getElem]
  intro i j hi hj hij
  have := h j hj i hij
  rw [ix_eq, ix_eq] at this
  simpa [List.getD, hi, hj] using this
theorem distinct_of_nodup (l : List Int) (h : l.Nodup) : DistinctTo l l.length := by
  intro i hi j hj
  rw [List.nodup_iff_pairwise_ne, List.pairwise_iff_getElem] at h
  have := h j i (by omega) hi hj
  rw [ix_eq, ix_eq]
  have hj' : j < l.length := by omega
  simpa [List.getD, hi, hj'] using this

def intRange (n : Nat) : List Int := (List.range n).map fun (i : Nat) => (i : Int)
theorem mem_intRange {n : Nat} {x : Int} : x ∈ intRange n ↔ 0 ≤ x ∧ x < n := by
  unfold intRange
  simp only [List.mem_map, List.mem_range]
  constructor
  · rintro ⟨i, hi, rfl⟩; omega
  · rintro ⟨h0, h1⟩; exact ⟨x.toNat, by omega, by omega⟩
theorem nodup_intRange (n : Nat) : (intRange n).Nodup := by
  unfold intRange
  rw [List.nodup_iff_pairwise_ne, List.pairwise_map]
  exact (List.nodup_iff_pairwise_ne.1 List.nodup_range).imp (fun h => by omega)
theorem length_intRange (n : Nat) : (intRange n).length = n := by simp [intRange]

theorem permOk_iff_has (l : List Int) : PermOk l ↔ HasTo l l.length := by
  constructor
  · intro ⟨h1, h2⟩
    have hp := pigeon l (intRange l.length) (nodup_of_distinct l h2) (fun x hx => by
      obtain ⟨i, hi, rfl⟩ := mem_ix hx
      have := h1 i hi
      rw [mem_intRange]; omega) (by rw [length_intRange]; omega)
    intro x hx
    have hm : (x : Int) ∈ l := hp.1 x (mem_intRange.2 (by omega))
    obtain ⟨i, hi, e⟩ := mem_ix hm
    rcases indexOf_spec l x with ⟨_, h⟩ | ⟨j, _, hj, _⟩
    · exact absurd e (h i hi)
    · rw [hj]; omega
  · intro h
    have hp := pigeon (intRange l.length) l (nodup_intRange _) (fun x hx => by
      have hx' := mem_intRange.1 hx
      have := h x.toNat (by omega)
      rcases indexOf_spec l (x.toNat : Nat) with ⟨h1, _⟩ | ⟨j, h1, _, h3, _⟩
      · omega
      · have : x = ix l j := by omega
        rw [this]; exact ix_mem l j h1) (by rw [length_intRange]; omega)
    refine ⟨fun i hi => ?_, distinct_of_nodup l hp.2⟩
    have := mem_intRange.1 (hp.1 _ (ix_mem l i hi))
    omega

def AllInTo (l : List Int) (lo hi : Int) (k : Nat) : Prop := ∀ i, i < k → lo ≤ ix l i ∧ ix l i ≤ hi
instance (l lo hi k) : Decidable (AllInTo l lo hi k) := by unfold AllInTo; infer_instance
@[irreducible] def allInB (l : List Int) (lo hi : Int) : Bool := decide (AllInTo l lo hi l.length)
theorem allInB_iff {l lo hi} : allInB l lo hi = true ↔ AllInTo l lo hi l.length := by unfold allInB; simp
theorem allInB_yes {l lo hi} (h : AllInTo l lo hi l.length) : allInB l lo hi = true := allInB_iff.2 h
theorem allInB_no {l lo hi} (h : ¬ AllInTo l lo hi l.length) : allInB l lo hi = false := by rw [← Bool.not_eq_true, allInB_iff]; exact h
theorem AllInTo.zero (l lo hi) : AllInTo l lo hi 0 := fun y hy => by omega
theorem AllInTo.mono {l lo hi k k'} (h : AllInTo l lo hi k) (hk : k' ≤ k) : AllInTo l lo hi k' := fun y hy => h y (by omega)
theorem AllInTo.succ {l lo hi k} (h : AllInTo l lo hi k) (hk : lo ≤ ix l k ∧ ix l k ≤ hi) : AllInTo l lo hi (k + 1) := fun y hy => by
  by_cases e : y = k
  · subst e; exact hk
  · exact h y (by omega)

/-- the first index at or behind k at which p holds, or -1 -/
def findFrom {α : Type} (p : α → Bool) : List α → Nat → Int
  | [], _ => -1
  | x :: r, k => if p x then (k : Int) else findFrom p r (k + 1)
@[irreducible] def findIx {α : Type} (p : α → Bool) (l : List α) : Int := findFrom p l 0
theorem row_drop (l : List (List Int)) (k : Nat) (h : k < l.length) : l.drop k = row l k :: l.drop (k + 1) := by
  rw [List.drop_eq_getElem_cons h, row_eq]; simp [List.getD, h]
theorem findFrom_hit (p : List Int → Bool) (l : List (List Int)) (k : Nat) (h : k < l.length) (e : p (row l k) = true) : findFrom p (l.drop k) k = k := by
  rw [row_drop l k h, findFrom, if_pos e]
theorem findFrom_miss (p : List Int → Bool) (l : List (List Int)) (k : Nat) (h : k < l.length) (e : p (row l k) = false) : findFrom p (l.drop k) k = findFrom p (l.drop (k + 1)) (k + 1) := by
  rw [row_drop l k h, findFrom, if_neg (by rw [e]; simp)]
theorem findFrom_end {α : Type} (p : α → Bool) (l : List α) (k : Nat) (h : l.length ≤ k) : findFrom p (l.drop k) k = -1 := by
  rw [List.drop_of_length_le h]; rfl
theorem findFrom_any {α : Type} (p : α → Bool) : ∀ (l : List α) (k : Nat), (0 ≤ findFrom p l k ↔ l.any p = true)
  | [], k => by simp [findFrom]
  | x :: r, k => by
    unfold findFrom
    by_cases h : p x = true
    · simp [h]
    · have h' : p x = false := by simpa using h
      simp only [h', Bool.false_eq_true, if_false, List.any_cons, Bool.false_or]
      exact findFrom_any p r (k + 1)
/-- p holds somewhere in l -/
@[irreducible] def anyB {α : Type} (p : α → Bool) (l : List α) : Bool := l.any p
theorem anyB_find {α : Type} (p : α → Bool) (l : List α) : anyB p l = decide (0 ≤ findIx p l) := by
  unfold anyB findIx
  rw [Bool.eq_iff_iff, decide_eq_true_iff, findFrom_any]
theorem anyB_row (p : List Int → Bool) (t : List (List Int)) : anyB p t = false ↔ ∀ x, x < t.length → p (row t x) = false := by
  unfold anyB
  rw [List.any_eq_false]
  constructor
  · intro h x hx
    have := h (row t x) (by rw [row_eq]; simp [List.getD, hx])
    simpa using this
  · intro h y hy
    obtain ⟨i, hi, rfl⟩ := List.mem_iff_getElem.1 hy
    have := h i hi
    rw [row_eq] at this
    simpa [List.getD, hi] using this

/-- what makes a row no row of a table of n elements -/
@[irreducible] def badRow (n : Int) (l : List Int) : Bool := (((l.length : Int) != n) || !allInB l 0 (n - 1))
theorem badRow_def (n : Int) (l : List Int) : badRow n l = (((l.length : Int) != n) || !allInB l 0 (n - 1)) := by unfold badRow; rfl
theorem tableB_any (t : List (List Int)) : tableB t = (inR t.length 1 12 && !anyB (badRow t.length) t) := by
  rw [Bool.eq_iff_iff, tableB_iff, Bool.and_eq_true, inR_iff, Bool.not_eq_true', anyB_row]
  unfold TableOk
  constructor
  · rintro ⟨h1, h2, h3⟩
    refine ⟨by omega, fun x hx => ?_⟩
    have := h3 x hx
    rw [badRow_def]
    simp only [Bool.or_eq_false_iff, Bool.not_eq_false']
    refine ⟨by have := this.1; simp; omega, allInB_yes (fun i hi => ?_)⟩
    have := this.2 i (by rw [← (h3 x hx).1]; exact hi)
    rw [← ent_def] at this
    exact this
  · rintro ⟨h1, h2⟩
    refine ⟨by omega, by omega, fun x hx => ?_⟩
    have := h2 x hx
    rw [badRow_def] at this
    simp only [Bool.or_eq_false_iff, Bool.not_eq_false'] at this
    have hl : (row t x).length = t.length := by have := this.1; simp at this; omega
    refine ⟨hl, fun y hy => ?_⟩
    have := allInB_iff.1 this.2 y (by rw [hl]; exact hy)
    rw [ent_def] at this
    exact this

/-- element x is among the first k -/
@[irreducible] def seenB (l : List Int) (k x : Nat) : Bool := decide (∃ j, j < k ∧ ix l j = (x : Int))
theorem seenB_zero (l : List Int) (x : Nat) : seenB l 0 x = false := by unfold seenB; simp
theorem seenB_iff {l : List Int} {k x : Nat} : seenB l k x = true ↔ ∃ j, j < k ∧ ix l j = (x : Int) := by unfold seenB; simp
theorem seenB_no {l : List Int} {k x : Nat} : seenB l k x = false ↔ ∀ j, j < k → ix l j ≠ (x : Int) := by
  rw [← Bool.not_eq_true, seenB_iff]
  constructor
  · exact fun h j hj e => h ⟨j, hj, e⟩
  · rintro h ⟨j, hj, e⟩; exact h j hj e
theorem seenB_succ (l : List Int) (k x : Nat) (h0 : 0 ≤ ix l k) : seenB l (k + 1) x = if x = (ix l k).toNat then true else seenB l k x := by
  by_cases e : x = (ix l k).toNat
  · rw [if_pos e, seenB_iff]; exact ⟨k, by omega, by omega⟩
  · rw [if_neg e, Bool.eq_iff_iff, seenB_iff, seenB_iff]
    constructor
    · rintro ⟨j, hj, e'⟩
      exact ⟨j, by
        have : j ≠ k := fun h => by subst h; omega
        omega, e'⟩
    · rintro ⟨j, hj, e'⟩; exact ⟨j, by omega, e'⟩
theorem InTo.zero (l) : InTo l 0 := fun y hy => by omega
theorem InTo.succ {l k} (h : InTo l k) (hk : 0 ≤ ix l k ∧ ix l k ≤ (l.length : Int) - 1) : InTo l (k + 1) := fun y hy => by
  by_cases e : y = k
  · subst e; exact hk
  · exact h y (by omega)
theorem InTo.mono {l k k'} (h : InTo l k) (hk : k' ≤ k) : InTo l k' := fun y hy => h y (by omega)
theorem DistinctTo.zero (l) : DistinctTo l 0 := fun y hy => by omega
theorem DistinctTo.succ {l k} (h : DistinctTo l k) (hk : ∀ j, j < k → ix l j ≠ ix l k) : DistinctTo l (k + 1) := fun y hy => by
  by_cases e : y = k
  · subst e; exact hk
  · exact h y (by omega)
theorem DistinctTo.mono {l k k'} (h : DistinctTo l k) (hk : k' ≤ k) : DistinctTo l k' := fun y hy => h y (by omega)
/-- all rows are permutations -/
@[irreducible] def permRowsB (t : List (List Int)) : Bool := !anyB (fun l => !permB l) t
theorem permRowsB_def (t : List (List Int)) : permRowsB t = !anyB (fun l => !permB l) t := by unfold permRowsB; rfl
theorem permRowsB_iff {t : List (List Int)} : permRowsB t = true ↔ ∀ x, x < t.length → PermOk (row t x) := by
  rw [permRowsB_def, Bool.not_eq_true', anyB_row]
  constructor
  · intro h x hx
    have := h x hx
    exact permB_iff.1 (by simpa using this)
  · intro h x hx
    have := permB_yes (h x hx)
    simpa using this

/-! ### groups -/
def AssocTo (t : List (List Int)) (x y k : Nat) : Prop := ∀ z, z < k → ent t (ent t x y).toNat z = ent t x (ent t y z).toNat
def AssocY (t : List (List Int)) (n x k : Nat) : Prop := ∀ y, y < k → AssocTo t x y n
def UnitAt (t : List (List Int)) (x : Nat) : Prop := ent t 0 x = x ∧ ent t x 0 = x
def PermRows (t : List (List Int)) (k : Nat) : Prop := ∀ x, x < k → PermOk (row t x)
def UnitAssocTo (t : List (List Int)) (n k : Nat) : Prop := ∀ x, x < k → UnitAt t x ∧ AssocY t n x n
/-- t is the table of a group -/
def GroupOk (t : List (List Int)) : Prop := TableOk t ∧ PermRows t t.length ∧ UnitAssocTo t t.length t.length
instance (t x y k) : Decidable (AssocTo t x y k) := by unfold AssocTo; infer_instance
instance (t n x k) : Decidable (AssocY t n x k) := by unfold AssocY; infer_instance
instance (t x) : Decidable (UnitAt t x) := by unfold UnitAt; infer_instance
instance (t k) : Decidable (PermRows t k) := by unfold PermRows; infer_instance
instance (t n k) : Decidable (UnitAssocTo t n k) := by unfold UnitAssocTo; infer_instance
instance (t) : Decidable (GroupOk t) := by unfold GroupOk; infer_instance
@[irreducible] def groupB (t : List (List Int)) : Bool := decide (GroupOk t)
theorem groupB_iff {t : List (List Int)} : groupB t = true ↔ GroupOk t := by unfold groupB; simp
theorem groupB_yes {t : List (List Int)} (h : GroupOk t) : groupB t = true := groupB_iff.2 h
theorem groupB_no {t : List (List Int)} (h : ¬ GroupOk t) : groupB t = false := by rw [← Bool.not_eq_true, groupB_iff]; exact h

theorem all_zero {p : Nat → Prop} : ∀ x, x < 0 → p x := fun x h => by omega
theorem all_succ {p : Nat → Prop} {k : Nat} (h : ∀ x, x < k → p x) (hk : p k) : ∀ x, x < k + 1 → p x := fun y hy => by
  by_cases e : y = k
  · subst e; exact hk
  · exact h y (by omega)
theorem all_mono {p : Nat → Prop} {k k' : Nat} (h : ∀ x, x < k → p x) (hk : k' ≤ k) : ∀ x, x < k' → p x := fun y hy => h y (by omega)
theorem AssocTo.zero (t x y) : AssocTo t x y 0 := all_zero
theorem AssocTo.succ {t x y k} (h : AssocTo t x y k) (hk : ent t (ent t x y).toNat k = ent t x (ent t y k).toNat) : AssocTo t x y (k + 1) := all_succ h hk
theorem AssocTo.mono {t x y k k'} (h : AssocTo t x y k) (hk : k' ≤ k) : AssocTo t x y k' := all_mono h hk
theorem AssocY.zero (t n x) : AssocY t n x 0 := all_zero
theorem AssocY.succ {t n x k} (h : AssocY t n x k) (hk : AssocTo t x k n) : AssocY t n x (k + 1) := all_succ h hk
theorem AssocY.mono {t n x k k'} (h : AssocY t n x k) (hk : k' ≤ k) : AssocY t n x k' := all_mono h hk
theorem PermRows.zero (t) : PermRows t 0 := all_zero
theorem PermRows.succ {t k} (h : PermRows t k) (hk : PermOk (row t k)) : PermRows t (k + 1) := all_succ h hk
theorem PermRows.mono {t k k'} (h : PermRows t k) (hk : k' ≤ k) : PermRows t k' := all_mono h hk
theorem UnitAssocTo.zero (t n) : UnitAssocTo t n 0 := all_zero
theorem UnitAssocTo.succ {t n k} (h : UnitAssocTo t n k) (hk : UnitAt t k) (ha : AssocY t n k n) : UnitAssocTo t n (k + 1) := all_succ h ⟨hk, ha⟩
theorem UnitAssocTo.mono {t n k k'} (h : UnitAssocTo t n k) (hk : k' ≤ k) : UnitAssocTo t n k' := all_mono h hk
theorem TableOk.len {t} (h : TableOk t) {x : Nat} (hx : x < t.length) : (row t x).length = t.length := (h.2.2 x hx).1
theorem TableOk.bd {t} (h : TableOk t) {x y : Nat} (hx : x < t.length) (hy : y < t.length) : 0 ≤ ent t x y ∧ ent t x y ≤ (t.length : Int) - 1 := (h.2.2 x hx).2 y hy
end Go.Proofs.YthlafeefjonkdaaDoor
