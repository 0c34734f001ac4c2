/-
  Slices that grow by append. No program in sight.
-/
import Derived.Maps.AppendAt
import Derived.Test.YtjfjpngajboidaaGreatKx1
namespace Go.Proofs.YtjfjpngajboidaaGreat
set_option linter.unusedVariables false
set_option linter.unusedSimpArgs false
open Go.RowKit

theorem Ext.grown {a w w' : World} {base n size : Nat} {e : TypeId} {v : Value} {xs : List Value} (h : Ext a w) (hg : w.grownBy w' v.ownBlock) (ho : w.ownsRow base e size v n xs) (hb : a.heap.size ≤ base) : Ext a w' :=
  Below.grown h hg h.size (fun k hk => by have := (ho.lt k hk).1; omega)

def GrowI (e base : Nat) (w : World) (v : Value) (l : List Int) : Prop := w.ownsRow base e 1 v l.length (l.map (Value.int .i64))
theorem GrowI.nil (e base : Nat) (w : World) : GrowI e base w (.slice none 0 0) [] := World.ownsRow_nil w base e 1
theorem GrowI.alloc {e base : Nat} {w : World} {v : Value} {l : List Int} (h : GrowI e base w v l) (o : Obj) : GrowI e base (w.alloc o) v l := World.ownsRow.alloc h o
theorem ownsRow_ext {base n size : Nat} {e : TypeId} {w w' : World} {v : Value} {xs : List Value} (h : w.ownsRow base e size v n xs) (hx : Ext w w') : w'.ownsRow base e size v n xs := by
  refine ⟨h.1, ?_⟩
  rcases h.2 with hn | ⟨g, cap, cur, rfl, hb, hg, rest⟩
  · exact .inl hn
  · exact .inr ⟨g, cap, cur, rfl, hb, by rw [hx.block g (Array.getElem?_eq_some_iff.1 hg).1]; exact hg, rest⟩
theorem GrowI.ext {e base : Nat} {w w' : World} {v : Value} {l : List Int} (h : GrowI e base w v l) (hx : Ext w w') : GrowI e base w' v l := ownsRow_ext h hx
theorem GrowI.lit {e base : Nat} {w : World} (hb : base ≤ w.heap.size) : GrowI e base (w.alloc (.cells #[] e)) (.slice (some ⟨w.heap.size, 0, none⟩) 0 0) [] :=
  World.ownsRow_made w #[] 0 hb (Nat.zero_le _) rfl
theorem GrowI.slice {e base : Nat} {w : World} {v : Value} {l : List Int} (h : GrowI e base w v l) : ∃ a c, v = .slice a l.length c := by
  rcases h.2 with ⟨rfl, hn⟩ | ⟨g, cap, cur, rfl, _⟩
  · exact ⟨none, 0, by rw [hn]⟩
  · exact ⟨_, cap, rfl⟩
theorem GrowI.ownIV {e base hi : Nat} {w : World} {v : Value} {l : List Int} (h : GrowI e base w v l) (hl : l.length ≤ 1048576) (hh : w.heap.size ≤ hi) : OwnIV base hi w v l := by
  have hlen := h.1
  have hlt := World.ownsRow.lt h
  refine ⟨hl, ?_⟩
  rcases h.2 with ⟨rfl, hn⟩ | ⟨g, cap, cur, rfl, hb, hg, hnc, _, hcs, htake⟩
  · exact ⟨none, 0, by rw [hn], fun hne => absurd (List.length_eq_zero_iff.1 hn) hne⟩
  · refine ⟨_, cap, rfl, fun _ => ⟨g, 0, rfl, hb, by have := (hlt g rfl).2; omega, fun i hi => ?_, fun i _ => ?_⟩⟩
    · have := World.ownsRow.cells h (g := g) rfl i (.int .i64 (ix l i)) (by
        rw [ix_eq]
        simp [List.getD, hi])
      rwa [Addr.add_lit] at this
    · simp [World.frozen?, hg]
theorem GrowI.ints {e base : Nat} {w : World} {v : Value} {l : List Int} (h : GrowI e base w v l) (hl : l.length ≤ 1048576) (hv : v ≠ .slice none 0 0) : Ints w v l := by
  have h' := h.ownIV hl (Nat.le_refl _)
  rcases h.2 with ⟨rfl, hn⟩ | ⟨g, cap, cur, rfl, hb, hg, hnc, _, hcs, htake⟩
  · exact absurd rfl hv
  · refine ⟨hl, g, 0, cap, rfl, fun i hi => ?_⟩
    have := World.ownsRow.cells h (g := g) rfl i (.int .i64 (ix l i)) (by
        rw [ix_eq]
        simp [List.getD, hi])
    rwa [Addr.add_lit] at this

theorem wpList_append_int {P : Program} {w : World} {ops : Array Oper} {rest : List Oper} {o : Oper} {a : Act} {Q : Exit → Act → World → Prop} (hgd : o.guard = none) (s x : Operand) (t e : TypeId)
    (ho : o.op = .call { callee := .builtin .append, args := #[s, x], argTypes := #[t, t] }) (ht : P.underlying t = some (.slice e)) (hinfo : (P.info? e).map (fun i => (i.zero, i.size, i.bytes)) = some (some (.int .i64 0), 1, 8))
    (base : Nat) (v : Value) (l : List Int) (hs : a.eval s = v) (hown : GrowI e base w v l) (g : Nat) (y : Int) (hx : a.eval x = .slice (some ⟨g, 0, none⟩) 1 1) (hc : w.cell? ⟨g, 0, none⟩ = some (.int .i64 y))
    (hl : l.length ≤ 1048576) (hbase : base ≤ w.heap.size)
    (h : ∀ v' w', GrowI e base w' v' (l ++ [y]) → w.grownBy w' v.ownBlock → v' ≠ .slice none 0 0 → wpList P ops Q rest (a.put o.dst v') w') : wpList P ops Q (o :: rest) a w := by
  obtain ⟨i0, hi, hz0, hz1, hz2⟩ := info_parts hinfo
  refine wpList_append_own w hgd s x t ho base e i0 (.int .i64 0) 1 8 ht hi hz0 hz1 hz2 rfl (by decide) v l.length (l.map (Value.int .i64)) hs hown ⟨g, 0, none⟩ 1 1 [.int .i64 y] hx rfl ?_ ?_ (by unfold maxLen; omega) (by omega) hbase ?_
  · intro j u hj
    match j, hj with
    | 0, hj => simp at hj; subst hj; simpa [Addr.add] using hc
  · intro u hu; simp at hu; subst hu; rfl
  · intro v' w' h1 h2 h3
    refine h v' w' ?_ h2 (fun e => by have := h3.1 e; simp at this)
    have : (l.map (Value.int .i64)) ++ [Value.int .i64 y] = (l ++ [y]).map (Value.int .i64) := by simp
    rw [this] at h1
    have hlen : (l ++ [y]).length = l.length + 1 := by simp
    unfold GrowI
    rw [hlen]; exact h1

theorem GrowI.row {e base : Nat} {w : World} {v : Value} {l : List Int} (h : GrowI e base w v l) (hv : v ≠ .slice none 0 0) : ∃ b c, v = .slice (some ⟨b, 0, none⟩) l.length c ∧ IntsAt w b 0 l ∧ base ≤ b ∧ b < w.heap.size := by
  rcases h.2 with ⟨rfl, hn⟩ | ⟨g, cap, cur, rfl, hb, hg, hnc, _, hcs, htake⟩
  · exact absurd rfl hv
  · refine ⟨g, cap, rfl, fun i hi => ?_, hb, (World.ownsRow.lt h g rfl).2⟩
    have := World.ownsRow.cells h (g := g) rfl i (.int .i64 (ix l i)) (by
        rw [ix_eq]
        simp [List.getD, hi])
    rwa [Addr.add_lit] at this

def GrowT (e base : Nat) (w : World) (v : Value) (t : List (List Int)) : Prop :=
  ∃ xs : List Value, w.ownsRow base e 1 v t.length xs ∧ ∀ i, i < t.length → (row t i).length ≤ 1048576 ∧ ∃ b c, xs[i]? = some (.slice (some ⟨b, 0, none⟩) (row t i).length c) ∧ IntsAt w b 0 (row t i)
theorem GrowT.lit {e base : Nat} {w : World} (hb : base ≤ w.heap.size) : GrowT e base (w.alloc (.cells #[] e)) (.slice (some ⟨w.heap.size, 0, none⟩) 0 0) [] :=
  ⟨[], World.ownsRow_made w #[] 0 hb (Nat.zero_le _) rfl, fun i hi => by simp at hi⟩
theorem GrowT.nil (e base : Nat) (w : World) : GrowT e base w (.slice none 0 0) [] := ⟨[], World.ownsRow_nil w base e 1, fun i hi => by simp at hi⟩
theorem GrowT.ext {e base : Nat} {w w' : World} {v : Value} {t : List (List Int)} (h : GrowT e base w v t) (hx : Ext w w') : GrowT e base w' v t := by
  obtain ⟨xs, h1, h2⟩ := h
  refine ⟨xs, ownsRow_ext h1 hx, fun i hi => ?_⟩
  obtain ⟨g0, b, c, g1, g2⟩ := h2 i hi
  exact ⟨g0, b, c, g1, g2.ext hx⟩
theorem GrowT.lt {e base : Nat} {w : World} {v : Value} {t : List (List Int)} (h : GrowT e base w v t) : ∀ k, v.ownBlock = some k → base ≤ k ∧ k < w.heap.size := by
  obtain ⟨xs, h1, h2⟩ := h
  exact h1.lt
theorem GrowT.own {e base : Nat} {w : World} {v : Value} {t : List (List Int)} (h : GrowT e base w v t) : ∃ xs, w.ownsRow base e 1 v t.length xs := h.imp fun _ h => h.1
theorem GrowT.slice {e base : Nat} {w : World} {v : Value} {t : List (List Int)} (h : GrowT e base w v t) : ∃ a c, v = .slice a t.length c := by
  obtain ⟨xs, h1, h2⟩ := h
  rcases h1.2 with ⟨rfl, hn⟩ | ⟨g, cap, cur, rfl, _⟩
  · exact ⟨none, 0, by rw [hn]⟩
  · exact ⟨_, cap, rfl⟩
theorem GrowT.rows {e base : Nat} {w : World} {v : Value} {t : List (List Int)} (h : GrowT e base w v t) (hl : t.length ≤ 1048576) (hv : v ≠ .slice none 0 0) : Rows w v t := by
  obtain ⟨xs, h1, h2⟩ := h
  rcases id h1.2 with ⟨rfl, hn⟩ | ⟨g, cap, cur, rfl, hb, hg, hnc, _, hcs, htake⟩
  · exact absurd rfl hv
  · refine ⟨hl, g, 0, cap, rfl, fun i hi => ?_⟩
    obtain ⟨g0, b, c, g1, g2⟩ := h2 i hi
    have := World.ownsRow.cells h1 (g := g) rfl i _ g1
    rw [Addr.add_lit] at this
    exact ⟨_, this, g2.ints g0 c⟩
theorem GrowT.toR {e base : Nat} {w : World} {v : Value} {t : List (List Int)} (h : GrowT e base w v t) : RowsR w v t := by
  obtain ⟨xs, h1, h2⟩ := h
  rcases id h1.2 with ⟨rfl, hn⟩ | ⟨g, cap, cur, rfl, hb, hg, hnc, _, hcs, htake⟩
  · exact ⟨none, 0, by rw [hn], fun hne => absurd (List.length_eq_zero_iff.1 hn) hne⟩
  · refine ⟨_, cap, rfl, fun _ => ⟨g, 0, rfl, fun i hi => ?_⟩⟩
    obtain ⟨g0, b, c, g1, g2⟩ := h2 i hi
    have := World.ownsRow.cells h1 (g := g) rfl i _ g1
    rw [Addr.add_lit] at this
    exact ⟨_, this, (g2.ints g0 c).toR⟩
theorem intsAt_grown {w w' : World} {b : Nat} {l : List Int} {g : Option Nat} (h : IntsAt w b 0 l) (hg : w.grownBy w' g) (hne : l ≠ [] → some b ≠ g) : IntsAt w' b 0 l := fun i hi =>
  hg.cell (h i hi) (hne (ne_nil_of_lt hi))

theorem wpList_append_row {P : Program} {w : World} {ops : Array Oper} {rest : List Oper} {o : Oper} {a : Act} {Q : Exit → Act → World → Prop} (hgd : o.guard = none) (s x : Operand) (t e : TypeId)
    (ho : o.op = .call { callee := .builtin .append, args := #[s, x], argTypes := #[t, t] }) (ht : P.underlying t = some (.slice e)) (hinfo : (P.info? e).map (fun i => (i.zero, i.size, i.bytes)) = some (some (.slice none 0 0), 1, 24))
    (base : Nat) (v : Value) (tb : List (List Int)) (hs : a.eval s = v) (hown : GrowT e base w v tb) (g : Nat) (br cr : Nat) (l : List Int) (hx : a.eval x = .slice (some ⟨g, 0, none⟩) 1 1) (hc : w.cell? ⟨g, 0, none⟩ = some (.slice (some ⟨br, 0, none⟩) l.length cr)) (hr : IntsAt w br 0 l)
    (hrl : l.length ≤ 1048576) (hne : some br ≠ v.ownBlock)
    (hl : tb.length ≤ 1048576) (hbase : base ≤ w.heap.size)
    (h : ∀ v' w', GrowT e base w' v' (tb ++ [l]) → w.grownBy w' v.ownBlock → v' ≠ .slice none 0 0 → wpList P ops Q rest (a.put o.dst v') w') : wpList P ops Q (o :: rest) a w := by
  obtain ⟨i0, hi, hz0, hz1, hz2⟩ := info_parts hinfo
  obtain ⟨xs, h1, h2⟩ := hown
  refine wpList_append_own w hgd s x t ho base e i0 (.slice none 0 0) 1 24 ht hi hz0 hz1 hz2 rfl (by decide) v tb.length xs hs h1 ⟨g, 0, none⟩ 1 1 [.slice (some ⟨br, 0, none⟩) l.length cr] hx rfl ?_ ?_ (by unfold maxLen; omega) (by omega) hbase ?_
  · intro j u hj
    match j, hj with
    | 0, hj => simp at hj; subst hj; simpa [Addr.add] using hc
  · intro u hu; simp at hu; subst hu; rfl
  · intro v' w' k1 k2 k3
    refine h v' w' ⟨xs ++ [.slice (some ⟨br, 0, none⟩) l.length cr], by simpa using k1, fun i hi => ?_⟩ k2 (fun e => by have := k3.1 e; simp at this)
    have hxl : xs.length = tb.length := by simpa using h1.1
    by_cases hi' : i < tb.length
    · obtain ⟨q0, b, c, q1, q2⟩ := h2 i hi'
      have hrow : row (tb ++ [l]) i = row tb i := by rw [row_eq, row_eq]; simp [List.getD, List.getElem?_append_left hi']
      rw [hrow]
      refine ⟨q0, b, c, by rw [List.getElem?_append_left (by omega)]; exact q1, intsAt_grown q2 k2 (fun hne' hb => ?_)⟩
      have hpos : 0 < (row tb i).length := List.length_pos_iff.2 hne'
      have hcc := q2 0 hpos
      obtain ⟨_, b0, c0, z1, _⟩ := h2 0 (by omega)
      have := World.ownsRow.cells h1 (g := b) hb.symm 0 _ z1
      rw [Addr.add_lit] at this
      rw [this] at hcc
      simp at hcc
    · have hie : i = tb.length := by simp at hi; omega
      subst hie
      have hrow : row (tb ++ [l]) tb.length = l := by rw [row_eq]; simp [List.getD]
      rw [hrow]
      exact ⟨hrl, br, cr, by rw [List.getElem?_append_right (by omega), hxl]; simp, intsAt_grown hr k2 (fun _ => hne)⟩

theorem wpList_append_ints {P : Program} {w : World} {ops : Array Oper} {rest : List Oper} {o : Oper} {a : Act} {Q : Exit → Act → World → Prop} (hgd : o.guard = none) (s x : Operand) (t e : TypeId)
    (ho : o.op = .call { callee := .builtin .append, args := #[s, x], argTypes := #[t, t] }) (ht : P.underlying t = some (.slice e)) (hinfo : (P.info? e).map (fun i => (i.zero, i.size, i.bytes)) = some (some (.int .i64 0), 1, 8))
    (base : Nat) (v : Value) (l : List Int) (hs : a.eval s = v) (hown : GrowI e base w v l) (b q c : Nat) (m : List Int) (hx : a.eval x = .slice (some ⟨b, q, none⟩) m.length c) (hc : IntsAt w b q m)
    (hl : l.length ≤ 1048576) (hm : m.length ≤ 1048576) (hbase : base ≤ w.heap.size)
    (h : ∀ v' w', GrowI e base w' v' (l ++ m) → w.grownBy w' v.ownBlock → (v' = .slice none 0 0 ↔ v = .slice none 0 0 ∧ m.length = 0) → wpList P ops Q rest (a.put o.dst v') w') : wpList P ops Q (o :: rest) a w := by
  obtain ⟨i0, hi, hz0, hz1, hz2⟩ := info_parts hinfo
  refine wpList_append_own w hgd s x t ho base e i0 (.int .i64 0) 1 8 ht hi hz0 hz1 hz2 rfl (by decide) v l.length (l.map (Value.int .i64)) hs hown ⟨b, q, none⟩ m.length c (m.map (Value.int .i64)) hx (by simp) ?_ ?_ (by unfold maxLen; omega) (by omega) hbase ?_
  · intro j u hj
    have hj' : j < m.length := by
      have := (List.getElem?_eq_some_iff.1 hj).1
      simpa using this
    have hc' := hc j hj'
    rw [ix_eq] at hc'
    simp [List.getD, hj'] at hj hc'
    rw [← hj]
    simpa [Addr.add_lit, Nat.add_comm] using hc'
  · intro u hu
    simp at hu
    obtain ⟨z, _, rfl⟩ := hu
    rfl
  · intro v' w' h1 h2 h3
    refine h v' w' ?_ h2 h3
    have : (l.map (Value.int .i64)) ++ (m.map (Value.int .i64)) = (l ++ m).map (Value.int .i64) := by simp
    rw [this] at h1
    have hlen : (l ++ m).length = l.length + m.length := by simp
    unfold GrowI
    rw [hlen]; exact h1

theorem GrowI.own {e base : Nat} {w : World} {v : Value} {l : List Int} (h : GrowI e base w v l) (hv : v ≠ .slice none 0 0) : ∃ b c, v = .slice (some ⟨b, 0, none⟩) l.length c ∧ OwnI base w.heap.size w b 0 l := by
  rcases h.2 with ⟨rfl, hn⟩ | ⟨g, cap, cur, rfl, hb, hg, hnc, _, hcs, htake⟩
  · exact absurd rfl hv
  · refine ⟨g, cap, rfl, hb, (World.ownsRow.lt h g rfl).2, fun i hi => ?_, fun i _ => ?_⟩
    · have := World.ownsRow.cells h (g := g) rfl i (.int .i64 (ix l i)) (by
        rw [ix_eq]
        simp [List.getD, hi])
      rwa [Addr.add_lit] at this
    · simp [World.frozen?, hg]
end Go.Proofs.YtjfjpngajboidaaGreat


namespace Go.Proofs.YtjfjpngajboidaaGreat
set_option linter.unusedVariables false
set_option linter.unusedSimpArgs false
open Go.RowKit

theorem wpList_append_int_at {P : Program} {w : World} {ops : Array Oper} {rest : List Oper} {o : Oper} {a : Act} {Q : Exit → Act → World → Prop} (hgd : o.guard = none) (s x : Operand) (t e : TypeId)
    (ho : o.op = .call { callee := .builtin .append, args := #[s, x], argTypes := #[t, t] }) (ht : P.underlying t = some (.slice e)) (hinfo : (P.info? e).map (fun i => (i.zero, i.size, i.bytes)) = some (some (.int .i64 0), 1, 8))
    (base : Nat) (v : Value) (l : List Int) (hs : a.eval s = v) (hown : GrowI e base w v l) (g : Nat) (y : Int) (hx : a.eval x = .slice (some ⟨g, 0, none⟩) 1 1) (hc : w.cell? ⟨g, 0, none⟩ = some (.int .i64 y))
    (hl : l.length ≤ 1048576) (hbase : base ≤ w.heap.size)
    (h : ∀ v' w', GrowI e base w' v' (l ++ [y]) → w.grownBy w' v.ownBlock → v' ≠ .slice none 0 0 → (v'.ownBlock = v.ownBlock ∨ v'.ownBlock = some w.heap.size) → wpList P ops Q rest (a.put o.dst v') w') : wpList P ops Q (o :: rest) a w := by
  obtain ⟨i0, hi, hz0, hz1, hz2⟩ := info_parts hinfo
  refine wpList_append_own_at w hgd s x t ho base e i0 (.int .i64 0) 1 8 ht hi hz0 hz1 hz2 rfl (by decide) v l.length (l.map (Value.int .i64)) hs hown ⟨g, 0, none⟩ 1 1 [.int .i64 y] hx rfl ?_ ?_ (by unfold maxLen; omega) (by omega) hbase ?_
  · intro j u hj
    match j, hj with
    | 0, hj => simp at hj; subst hj; simpa [Addr.add] using hc
  · intro u hu; simp at hu; subst hu; rfl
  · intro v' w' h1 h2 h3 h4
    refine h v' w' ?_ h2 (fun e => by have := h3.1 e; simp at this) h4
    have : (l.map (Value.int .i64)) ++ [Value.int .i64 y] = (l ++ [y]).map (Value.int .i64) := by simp
    rw [this] at h1
    have hlen : (l ++ [y]).length = l.length + 1 := by simp
    unfold GrowI
    rw [hlen]; exact h1
theorem GrowI.kept {e base : Nat} {w w' : World} {v : Value} {l : List Int} {row : Option Nat} (h : GrowI e base w v l) (hg : w.grownBy w' row) (hne : v.ownBlock ≠ row) : GrowI e base w' v l := World.ownsRow.kept h hg (.inr hne)
theorem GrowI.lt {e base : Nat} {w : World} {v : Value} {l : List Int} (h : GrowI e base w v l) {k : Nat} (hk : v.ownBlock = some k) : base ≤ k ∧ k < w.heap.size := World.ownsRow.lt h k hk
end Go.Proofs.YtjfjpngajboidaaGreat
