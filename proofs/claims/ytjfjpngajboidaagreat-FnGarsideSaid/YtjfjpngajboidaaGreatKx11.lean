/-
  TwoM tables that grow side by side, row by row, and are then written into: all rows apart from each other. No program in sight.
-/
import Derived.Test.YtjfjpngajboidaaGreatKx10
namespace Go.Proofs.YtjfjpngajboidaaGreat
set_option linter.unusedVariables false
set_option linter.unusedSimpArgs false
open Go.RowKit

theorem step_append_one {P : Program} {w : World} {ops : Array Oper} {o : Oper} {a : Act} {K : Act → World → Prop} {Q : Exit → Act → World → Prop} {E : Prop} (hgd : o.guard = none) (s x : Operand) (t e : TypeId)
    (ho : o.op = .call { callee := .builtin .append, args := #[s, x], argTypes := #[t, t] }) (ht : P.underlying t = some (.slice e)) (hinfo : (P.info? e).map (fun i => (i.zero, i.size, i.bytes)) = some (some (.slice none 0 0), 1, 24))
    (base : Nat) (v : Value) (n : Nat) (xs : List Value) (hs : a.eval s = v) (hown : w.ownsRow base e 1 v n xs) (g : Nat) (y : Value) (hx : a.eval x = .slice (some ⟨g, 0, none⟩) 1 1) (hc : w.cell? ⟨g, 0, none⟩ = some y) (hy : y.oneCell' = true)
    (hl : n ≤ 1048576) (hbase : base ≤ w.heap.size)
    (h : ∀ g' cap w', w'.ownsRow base e 1 (.slice (some ⟨g', 0, none⟩) (n + 1) cap) (n + 1) (xs ++ [y]) → w.grownBy w' v.ownBlock → (v.ownBlock = some g' ∨ g' = w.heap.size) → K (a.put o.dst (.slice (some ⟨g', 0, none⟩) (n + 1) cap)) w') : if Region.wanted o (yielded ops a.tmps) = true then Oper.wp P o a w K Q else E := by
  obtain ⟨i0, hi, hz0, hz1, hz2⟩ := info_parts hinfo
  refine step_append_lies w hgd s x t ho base e i0 (.slice none 0 0) 1 24 ht hi hz0 hz1 hz2 rfl (by decide) v n xs hs hown ⟨g, 0, none⟩ 1 1 [y] hx rfl ?_ ?_ (by omega) (by unfold maxLen; omega) (by omega) hbase w.heap.size rfl ?_
  · intro j u hj
    match j, hj with
    | 0, hj => simp at hj; subst hj; simpa [Addr.add] using hc
  · intro u hu; simp at hu; subst hu; exact hy
  · intro g' cap w' h1 h2 h3 h4
    exact h g' cap w' (by simpa using h1) h2 h3

abbrev zrow (n : Nat) (ei : TypeId) : Obj := .cells (madeCells #[.int .i64 0] n) ei
def slsN (n k : Nat) (B : Nat → Nat) : List Value := (List.range k).map fun i => Value.slice (some ⟨B i, 0, none⟩) n n
theorem slsN_succ (n k : Nat) (B : Nat → Nat) (R : Nat) : slsN n k B ++ [.slice (some ⟨R, 0, none⟩) n n] = slsN n (k + 1) (fun i => if i = k then R else B i) := by
  unfold slsN
  rw [List.range_succ, List.map_append]
  congr 1
  · refine List.map_congr_left fun i hi => ?_
    have : i ≠ k := by have := List.mem_range.1 hi; omega
    simp [this]
  · simp
theorem slsN_at (n k : Nat) (B : Nat → Nat) {i : Nat} (hi : i < k) : (slsN n k B)[i]? = some (.slice (some ⟨B i, 0, none⟩) n n) := by unfold slsN; simp [hi]

structure TwoG (e ei base n k m : Nat) (w : World) (v1 v2 : Value) (B D : Nat → Nat) : Prop where
  o1 : w.ownsRow base e 1 v1 k (slsN n k B)
  o2 : w.ownsRow base e 1 v2 m (slsN n m D)
  r1 : ∀ i, i < k → w.heap[B i]? = some (zrow n ei) ∧ base ≤ B i ∧ v1.ownBlock ≠ some (B i) ∧ v2.ownBlock ≠ some (B i)
  r2 : ∀ i, i < m → w.heap[D i]? = some (zrow n ei) ∧ base ≤ D i ∧ v1.ownBlock ≠ some (D i) ∧ v2.ownBlock ≠ some (D i)
  b1 : ∀ i j, i < k → j < k → B i = B j → i = j
  b2 : ∀ i j, i < m → j < m → D i = D j → i = j
  bd : ∀ i j, i < k → j < m → B i ≠ D j
  vv : ∀ g, v1.ownBlock = some g → v2.ownBlock ≠ some g
theorem TwoG.start (e ei base n : Nat) (w : World) : TwoG e ei base n 0 0 w (.slice none 0 0) (.slice none 0 0) (fun _ => 0) (fun _ => 0) :=
  ⟨World.ownsRow_nil w base e 1, World.ownsRow_nil w base e 1, fun i hi => by omega, fun i hi => by omega, fun i _ hi => by omega, fun i _ hi => by omega, fun i _ hi => by omega, fun g h => by cases h⟩
theorem TwoG.swap {e ei base n k m : Nat} {w : World} {v1 v2 : Value} {B D : Nat → Nat} (h : TwoG e ei base n k m w v1 v2 B D) : TwoG e ei base n m k w v2 v1 D B :=
  ⟨h.o2, h.o1, fun i hi => ⟨(h.r2 i hi).1, (h.r2 i hi).2.1, (h.r2 i hi).2.2.2, (h.r2 i hi).2.2.1⟩, fun i hi => ⟨(h.r1 i hi).1, (h.r1 i hi).2.1, (h.r1 i hi).2.2.2, (h.r1 i hi).2.2.1⟩, h.b2, h.b1, fun i j hi hj e => h.bd j i hj hi e.symm, fun g k1 k2 => h.vv g k2 k1⟩
theorem heap_lt {w : World} {k : Nat} {o : Obj} (h : w.heap[k]? = some o) : k < w.heap.size := by
  rcases Nat.lt_or_ge k w.heap.size with h1 | h1
  · exact h1
  · rw [Array.getElem?_eq_none h1] at h; cases h
theorem TwoG.ext {e ei base n k m : Nat} {w w' : World} {v1 v2 : Value} {B D : Nat → Nat} (h : TwoG e ei base n k m w v1 v2 B D) (hx : Ext w w') : TwoG e ei base n k m w' v1 v2 B D :=
  ⟨ownsRow_ext h.o1 hx, ownsRow_ext h.o2 hx, fun i hi => ⟨(hx.block _ (heap_lt (h.r1 i hi).1)).trans (h.r1 i hi).1, (h.r1 i hi).2⟩, fun i hi => ⟨(hx.block _ (heap_lt (h.r2 i hi).1)).trans (h.r2 i hi).1, (h.r2 i hi).2⟩, h.b1, h.b2, h.bd, h.vv⟩
theorem TwoG.add {e ei base n k m : Nat} {w wA w' : World} {v1 v2 : Value} {B D : Nat → Nat} (h : TwoG e ei base n k m w v1 v2 B D) (hb : base ≤ w.heap.size) (hx : Ext w wA) {R g' cap : Nat} (hR : wA.heap[R]? = some (zrow n ei)) (hRn : w.heap.size ≤ R)
    (ho : w'.ownsRow base e 1 (.slice (some ⟨g', 0, none⟩) (k + 1) cap) (k + 1) (slsN n k B ++ [.slice (some ⟨R, 0, none⟩) n n])) (hg : wA.grownBy w' v1.ownBlock) (hv : v1.ownBlock = some g' ∨ g' = wA.heap.size) :
    TwoG e ei base n (k + 1) m w' (.slice (some ⟨g', 0, none⟩) (k + 1) cap) v2 (fun i => if i = k then R else B i) D := by
  have hRl := heap_lt hR
  have l1 : ∀ g, v1.ownBlock = some g → g < w.heap.size := fun g e => (h.o1.lt g e).2
  have l2 : ∀ g, v2.ownBlock = some g → g < w.heap.size := fun g e => (h.o2.lt g e).2
  have hA := h.ext hx
  have kr1 : ∀ i, i < k → w'.heap[B i]? = some (zrow n ei) := fun i hi => (hg.block _ (heap_lt (hA.r1 i hi).1) (fun e => (h.r1 i hi).2.2.1 e.symm)).trans (hA.r1 i hi).1
  have kr2 : ∀ i, i < m → w'.heap[D i]? = some (zrow n ei) := fun i hi => (hg.block _ (heap_lt (hA.r2 i hi).1) (fun e => (h.r2 i hi).2.2.1 e.symm)).trans (hA.r2 i hi).1
  have kR : w'.heap[R]? = some (zrow n ei) := (hg.block _ hRl (fun e => by have := l1 R e.symm; omega)).trans hR
  have hgn : ∀ q o, w.heap[q]? = some o → v1.ownBlock ≠ some q → g' ≠ q := fun q o hq hne e => by
    have := heap_lt hq
    have := hx.size
    rcases hv with h1 | h1
    · rw [e] at h1; exact hne h1
    · omega
  refine ⟨by rw [← slsN_succ]; exact ho, World.ownsRow.kept hA.o2 hg ?_, fun i hi => ?_, fun i hi => ?_, fun i j hi hj e => ?_, h.b2, fun i j hi hj e => ?_, fun g e1 e2 => ?_⟩
  · cases hq : v2.ownBlock with
    | none => exact .inl rfl
    | some g => exact .inr fun e => h.vv g e.symm hq
  · by_cases hk : i = k
    · subst hk
      simp only [↓reduceIte]
      refine ⟨kR, by omega, fun e => ?_, fun e => by have := l2 R e; omega⟩
      have e : g' = R := Option.some.inj e
      rcases hv with h1 | h1
      · have := l1 g' h1; omega
      · omega
    · have hi2 : i < k := by omega
      simp only [if_neg hk]
      exact ⟨kr1 i hi2, (h.r1 i hi2).2.1, fun e => hgn _ _ (h.r1 i hi2).1 (h.r1 i hi2).2.2.1 (Option.some.inj e), (h.r1 i hi2).2.2.2⟩
  · exact ⟨kr2 i hi, (h.r2 i hi).2.1, fun e => hgn _ _ (h.r2 i hi).1 (h.r2 i hi).2.2.1 (Option.some.inj e), (h.r2 i hi).2.2.2⟩
  · by_cases h1 : i = k
    · by_cases h2 : j = k
      · omega
      · simp only [if_pos h1, if_neg h2] at e
        have := heap_lt (h.r1 j (by omega)).1
        omega
    · by_cases h2 : j = k
      · simp only [if_neg h1, if_pos h2] at e
        have := heap_lt (h.r1 i (by omega)).1
        omega
      · simp only [if_neg h1, if_neg h2] at e
        exact h.b1 i j (by omega) (by omega) e
  · by_cases h1 : i = k
    · simp only [if_pos h1] at e
      have := heap_lt (h.r2 j hj).1
      omega
    · simp only [if_neg h1] at e
      exact h.bd i j (by omega) hj e
  · have e1 : g' = g := Option.some.inj e1
    subst e1
    have := l2 g' e2
    have := hx.size
    rcases hv with h1 | h1
    · exact h.vv g' h1 e2
    · omega
theorem TwoG.setOther {e ei base n k m : Nat} {w : World} {v1 v2 : Value} {B D : Nat → Nat} (h : TwoG e ei base n k m w v1 v2 B D) {a : Addr} (ha : a.block < base) (u : Value) : TwoG e ei base n k m (w.setCell a u) v1 v2 B D :=
  ⟨ownsRow_setOther h.o1 ha u, ownsRow_setOther h.o2 ha u, fun i hi => ⟨(Below.heap_setCell _ _ _ _ (fun e => by have := (h.r1 i hi).2.1; omega)).trans (h.r1 i hi).1, (h.r1 i hi).2⟩, fun i hi => ⟨(Below.heap_setCell _ _ _ _ (fun e => by have := (h.r2 i hi).2.1; omega)).trans (h.r2 i hi).1, (h.r2 i hi).2⟩, h.b1, h.b2, h.bd, h.vv⟩

structure TwoM (base n : Nat) (w : World) (bA bB : Nat) (B D : Nat → Nat) (T U : List (List Int)) : Prop where
  a : ∀ i, i < n → w.cell? ⟨bA, i, none⟩ = some (.slice (some ⟨B i, 0, none⟩) n n)
  b : ∀ i, i < n → w.cell? ⟨bB, i, none⟩ = some (.slice (some ⟨D i, 0, none⟩) n n)
  t : ∀ i, i < n → IntsAt w (B i) 0 (row T i) ∧ FreeAt w (B i) 0 n ∧ (row T i).length = n ∧ base ≤ B i ∧ B i ≠ bA ∧ B i ≠ bB
  u : ∀ i, i < n → IntsAt w (D i) 0 (row U i) ∧ FreeAt w (D i) 0 n ∧ (row U i).length = n ∧ base ≤ D i ∧ D i ≠ bA ∧ D i ≠ bB
  b1 : ∀ i j, i < n → j < n → B i = B j → i = j
  b2 : ∀ i j, i < n → j < n → D i = D j → i = j
  bd : ∀ i j, i < n → j < n → B i ≠ D j
  lt : T.length = n
  lu : U.length = n
theorem TwoM.swap {base n : Nat} {w : World} {bA bB : Nat} {B D : Nat → Nat} {T U : List (List Int)} (h : TwoM base n w bA bB B D T U) : TwoM base n w bB bA D B U T :=
  ⟨h.b, h.a, fun i hi => ⟨(h.u i hi).1, (h.u i hi).2.1, (h.u i hi).2.2.1, (h.u i hi).2.2.2.1, (h.u i hi).2.2.2.2.2, (h.u i hi).2.2.2.2.1⟩, fun i hi => ⟨(h.t i hi).1, (h.t i hi).2.1, (h.t i hi).2.2.1, (h.t i hi).2.2.2.1, (h.t i hi).2.2.2.2.2, (h.t i hi).2.2.2.2.1⟩, h.b2, h.b1, fun i j hi hj e => h.bd j i hj hi e.symm, h.lu, h.lt⟩
theorem TwoM.ext {base n : Nat} {w w' : World} {bA bB : Nat} {B D : Nat → Nat} {T U : List (List Int)} (h : TwoM base n w bA bB B D T U) (hx : Ext w w') (hb : ∀ i, i < n → B i < w.heap.size ∧ D i < w.heap.size) : TwoM base n w' bA bB B D T U :=
  ⟨fun i hi => hx.cell (h.a i hi), fun i hi => hx.cell (h.b i hi), fun i hi => ⟨(h.t i hi).1.ext hx, (h.t i hi).2.1.block (hx.block _ (hb i hi).1), (h.t i hi).2.2⟩, fun i hi => ⟨(h.u i hi).1.ext hx, (h.u i hi).2.1.block (hx.block _ (hb i hi).2), (h.u i hi).2.2⟩, h.b1, h.b2, h.bd, h.lt, h.lu⟩
theorem TwoM.put {base n : Nat} {w : World} {bA bB : Nat} {B D : Nat → Nat} {T U : List (List Int)} (h : TwoM base n w bA bB B D T U) {i j : Nat} (hi : i < n) (hj : j < n) (x : Int) : TwoM base n (w.setCell ⟨B i, j, none⟩ (.int .i64 x)) bA bB B D (setE T i j x) U := by
  have hT := h.t i hi
  have hl : i < T.length := by rw [h.lt]; exact hi
  refine ⟨fun q hq => ?_, fun q hq => ?_, fun q hq => ?_, fun q hq => ?_, h.b1, h.b2, h.bd, by rw [length_setE]; exact h.lt, h.lu⟩
  · rw [World.cell?_setCell_other _ _ _ _ (fun e => hT.2.2.2.2.1 (by have := congrArg Addr.block e; simp only [] at this; exact this))]
    exact h.a q hq
  · rw [World.cell?_setCell_other _ _ _ _ (fun e => hT.2.2.2.2.2 (by have := congrArg Addr.block e; simp only [] at this; exact this))]
    exact h.b q hq
  · have hq2 := h.t q hq
    refine ⟨?_, hq2.2.1.set _ _, by rw [length_row_setE _ _ _ _ _ hl]; exact hq2.2.2.1, hq2.2.2.2⟩
    by_cases e : q = i
    · subst e
      rw [row_setE_same _ _ _ _ hl]
      have := hT.1.set j x (l' := (row T q).set j x) (by rw [hT.2.2.1]; exact hj) (by simp) (fun i hi _ => ix_set_ne _ _ _ _ hi) (ix_set_eq _ _ _ (by rw [hT.2.2.1]; exact hj))
      rwa [Nat.zero_add] at this
    · rw [row_setE_other _ _ _ _ _ e]
      exact hq2.1.block (Below.heap_setCell _ _ _ _ (fun e2 => e (h.b1 _ _ hq hi (by first | exact e2 | exact e2.symm))))
  · have hq2 := h.u q hq
    exact ⟨hq2.1.block (Below.heap_setCell _ _ _ _ (fun e2 => h.bd i q hi hq (by first | exact e2 | exact e2.symm))), hq2.2.1.set _ _, hq2.2.2⟩
theorem TwoM.setOther {base n : Nat} {w : World} {bA bB : Nat} {B D : Nat → Nat} {T U : List (List Int)} (h : TwoM base n w bA bB B D T U) {a : Addr} (ha : a.block < base) (h1 : base ≤ bA) (h2 : base ≤ bB) (u : Value) : TwoM base n (w.setCell a u) bA bB B D T U :=
  ⟨fun q hq => by rw [World.cell?_setCell_other _ _ _ _ (fun e => by have := congrArg Addr.block e; simp only [] at this; omega)]; exact h.a q hq,
   fun q hq => by rw [World.cell?_setCell_other _ _ _ _ (fun e => by have := congrArg Addr.block e; simp only [] at this; omega)]; exact h.b q hq,
   fun q hq => ⟨(h.t q hq).1.block (Below.heap_setCell _ _ _ _ (fun e => by have := (h.t q hq).2.2.2.1; omega)), (h.t q hq).2.1.set _ _, (h.t q hq).2.2⟩,
   fun q hq => ⟨(h.u q hq).1.block (Below.heap_setCell _ _ _ _ (fun e => by have := (h.u q hq).2.2.2.1; omega)), (h.u q hq).2.1.set _ _, (h.u q hq).2.2⟩, h.b1, h.b2, h.bd, h.lt, h.lu⟩
def zerT (n : Nat) : List (List Int) := List.replicate n (List.replicate n 0)
theorem row_zerT {n i : Nat} (hi : i < n) : row (zerT n) i = List.replicate n 0 := by rw [row_eq]; simp [zerT, List.getD, hi]
theorem zrow_ints {w : World} {b n : Nat} {ei : TypeId} (h : w.heap[b]? = some (zrow n ei)) : IntsAt w b 0 (List.replicate n 0) ∧ FreeAt w b 0 n := by
  refine ⟨fun i hi => ?_, fun i hi => ?_⟩
  · have hi' : i < n := by simpa using hi
    rw [Nat.zero_add]
    have e : ix (List.replicate n 0) i = 0 := by rw [ix_eq]; simp [List.getD, hi']
    rw [e]
    simp [World.cell?, h, madeCells, hi', Nat.mod_one]
  · simp [World.frozen?, h]
theorem TwoG.two {e ei base n : Nat} {w : World} {bA bB cA cB : Nat} {B D : Nat → Nat} (h : TwoG e ei base n n n w (.slice (some ⟨bA, 0, none⟩) n cA) (.slice (some ⟨bB, 0, none⟩) n cB) B D) : TwoM base n w bA bB B D (zerT n) (zerT n) := by
  refine ⟨fun i hi => ?_, fun i hi => ?_, fun i hi => ?_, fun i hi => ?_, h.b1, h.b2, h.bd, by simp [zerT], by simp [zerT]⟩
  · rw [h.o1.cellAt i (by omega)]; exact slsN_at _ _ _ hi
  · rw [h.o2.cellAt i (by omega)]; exact slsN_at _ _ _ hi
  · obtain ⟨k1, k2⟩ := zrow_ints (h.r1 i hi).1
    rw [row_zerT hi]
    exact ⟨k1, k2, by simp, (h.r1 i hi).2.1, fun e => (h.r1 i hi).2.2.1 (by rw [e]; rfl), fun e => (h.r1 i hi).2.2.2 (by rw [e]; rfl)⟩
  · obtain ⟨k1, k2⟩ := zrow_ints (h.r2 i hi).1
    rw [row_zerT hi]
    exact ⟨k1, k2, by simp, (h.r2 i hi).2.1, fun e => (h.r2 i hi).2.2.1 (by rw [e]; rfl), fun e => (h.r2 i hi).2.2.2 (by rw [e]; rfl)⟩
def BoxV (B : Nat) (W : World) (v y : Value) : Prop := B < W.heap.size ∧ W.cell? ⟨B, 0, none⟩ = some v ∧ W.cell? ⟨B, 1, none⟩ = some y ∧ W.frozen? ⟨B, 0, none⟩ = false ∧ W.frozen? ⟨B, 1, none⟩ = false
theorem BoxV.keep {B : Nat} {W W' : World} {v y : Value} (h : BoxV B W v y) (hz : W.heap.size ≤ W'.heap.size) (hb : W'.heap[B]? = W.heap[B]?) : BoxV B W' v y := by
  refine ⟨by have := h.1; omega, ?_, ?_, ?_, ?_⟩
  · rw [World.cell?_of_block (w := W) (a := ⟨B, 0, none⟩) hb]; exact h.2.1
  · rw [World.cell?_of_block (w := W) (a := ⟨B, 1, none⟩) hb]; exact h.2.2.1
  · rw [World.frozen?_of_block (w := W) (a := ⟨B, 0, none⟩) hb]; exact h.2.2.2.1
  · rw [World.frozen?_of_block (w := W) (a := ⟨B, 1, none⟩) hb]; exact h.2.2.2.2
theorem BoxV.ext {B : Nat} {W W' : World} {v y : Value} (h : BoxV B W v y) (hx : Ext W W') : BoxV B W' v y := h.keep hx.size (hx.block _ h.1)
theorem BoxV.grown {B : Nat} {W W' : World} {v y : Value} {r : Option Nat} (h : BoxV B W v y) (hg : W.grownBy W' r) (hr : r ≠ some B) : BoxV B W' v y := h.keep hg.size (hg.block _ h.1 (fun e => hr e.symm))
theorem BoxV.setOther {B : Nat} {W : World} {v y : Value} (h : BoxV B W v y) {a : Addr} (ha : a.block ≠ B) (u : Value) : BoxV B (W.setCell a u) v y := h.keep (by simp) (Below.heap_setCell _ _ _ _ (fun e => ha e.symm))
theorem BoxV.set0 {B : Nat} {W : World} {v y : Value} (h : BoxV B W v y) (u : Value) : BoxV B (W.setCell ⟨B, 0, none⟩ u) u y := by
  refine ⟨by simp; exact h.1, World.cell?_setCell_same _ _ _ h.2.1, ?_, by rw [World.frozen?_setCell]; exact h.2.2.2.1, by rw [World.frozen?_setCell]; exact h.2.2.2.2⟩
  rw [World.cell?_setCell_other _ _ _ _ (by simp)]; exact h.2.2.1
theorem BoxV.set1 {B : Nat} {W : World} {v y : Value} (h : BoxV B W v y) (u : Value) : BoxV B (W.setCell ⟨B, 1, none⟩ u) v u := by
  refine ⟨by simp; exact h.1, ?_, World.cell?_setCell_same _ _ _ h.2.2.1, by rw [World.frozen?_setCell]; exact h.2.2.2.1, by rw [World.frozen?_setCell]; exact h.2.2.2.2⟩
  rw [World.cell?_setCell_other _ _ _ _ (by simp)]; exact h.2.1
theorem BoxV.new (w : World) (v y : Value) (T : TypeId) : BoxV w.heap.size (w.alloc (.cells #[v, y] T)) v y := ⟨by simp, by simp [go_sem], by simp [go_sem], by simp [go_sem], by simp [go_sem]⟩
theorem heap_two (w : World) (o p : Obj) : ((w.alloc o).alloc p).heap[w.heap.size]? = some o := by
  rw [((Ext.refl (w.alloc o)).alloc p).block _ (by simp)]
  exact heap_alloc_new w o
theorem heap_twoD (w : World) (o p : Obj) : ((w.alloc o).alloc p).drew.heap[w.heap.size]? = some o := heap_two w o p
theorem ext_grown2 {a w w' : World} {row : Option Nat} (h : Ext a w) (hg : w.grownBy w' row) (hr : ∀ k, row = some k → a.heap.size ≤ k) : Ext a w' := Below.grown h hg h.size hr
theorem ownsRow_shape {base : Nat} {e : TypeId} {w : World} {v : Value} {n : Nat} {xs : List Value} (h : w.ownsRow base e 1 v n xs) : ∃ a c, v = .slice a n c := by
  rcases h.2 with ⟨rfl, rfl, _⟩ | ⟨g, cap, cur, rfl, _⟩
  · exact ⟨none, 0, rfl⟩
  · exact ⟨_, _, rfl⟩
end Go.Proofs.YtjfjpngajboidaaGreat


namespace Go.Proofs.YtjfjpngajboidaaGreat
set_option linter.unusedVariables false
set_option linter.unusedSimpArgs false

@[irreducible] def marksL (az bz : List (List (List Int))) (l r : List Int) (n K : Nat) : List (List Int) :=
  ((List.range n).map fun x => markL az l n x K) ++ (List.range n).map fun x => markL bz r n x K
theorem length_marksL (az bz : List (List (List Int))) (l r : List Int) (n K : Nat) : (marksL az bz l r n K).length = 2 * n := by unfold marksL; simp; omega
theorem row_marksL1 (az bz : List (List (List Int))) (l r : List Int) (n K x : Nat) (hx : x < n) : row (marksL az bz l r n K) x = markL az l n x K := by
  rw [row_eq]; unfold marksL
  simp [List.getD, List.getElem?_append_left, hx]
theorem row_marksL2 (az bz : List (List (List Int))) (l r : List Int) (n K x : Nat) (hx : x < n) : row (marksL az bz l r n K) (n + x) = markL bz r n x K := by
  rw [row_eq]; unfold marksL
  simp [List.getD, List.getElem?_append_right, hx]
def Used (n num : Nat) (l r : List Int) : Prop := ∀ c : Nat, c < num → ∃ x, x < n ∧ (ix l x = (c : Int) ∨ ix r x = (c : Int))
theorem Used.zero (n : Nat) (l r : List Int) : Used n 0 l r := fun c hc => by omega
theorem Used.more {az bz : List (List (List Int))} {l r : List Int} {n K num : Nat} {Kd : List (List Int)} (h : Used n num l r) (hk : Kinds (marksL az bz l r n K) Kd) : num ≤ Kd.length := by
  refine hk.more fun c hc => ?_
  obtain ⟨x, hx, e | e⟩ := h c hc
  · exact ⟨x, by rw [length_marksL]; omega, by rw [row_marksL1 _ _ _ _ _ _ _ hx, markL_head]; exact e⟩
  · exact ⟨n + x, by rw [length_marksL]; omega, by rw [row_marksL2 _ _ _ _ _ _ _ hx, markL_head]; exact e⟩
end Go.Proofs.YtjfjpngajboidaaGreat


namespace Go.Proofs.YtjfjpngajboidaaGreat
set_option linter.unusedVariables false
set_option linter.unusedSimpArgs false

def SortedTo (l : List Int) (i : Nat) : Prop := ∀ a b, a < b → b < i → ix l a ≤ ix l b
def InnerTo (l : List Int) (i j : Nat) : Prop := (∀ a b, a < b → b ≤ i → a ≠ j → b ≠ j → ix l a ≤ ix l b) ∧ ∀ b, j < b → b ≤ i → ix l j ≤ ix l b
theorem SortedTo.one (l : List Int) : SortedTo l 1 := fun a b h1 h2 => by omega
@[irreducible] def swapL (l : List Int) (j : Nat) : List Int := (l.set (j + 1) (ix l j)).set j (ix l (j + 1))
theorem length_swapL (l : List Int) (j : Nat) : (swapL l j).length = l.length := by unfold swapL; simp
theorem ix_set (l : List Int) (i j : Nat) (v : Int) (hj : j < l.length) : ix (l.set i v) j = if i = j then v else ix l j := by
  rw [ix_eq, ix_eq]
  by_cases h : i = j
  · subst h; simp [List.getD, hj]
  · simp [List.getD, h, List.getElem?_set_ne]
theorem ix_swapL (l : List Int) (j i : Nat) (hj : j + 1 < l.length) (hi : i < l.length) : ix (swapL l j) i = if i = j then ix l (j + 1) else if i = j + 1 then ix l j else ix l i := by
  unfold swapL
  rw [ix_set _ _ _ _ (by simp; omega)]
  by_cases h : j = i
  · subst h; simp
  · rw [if_neg h, if_neg (by omega), ix_set _ _ _ _ hi]
    by_cases h2 : j + 1 = i
    · subst h2; simp
    · rw [if_neg h2, if_neg (by omega)]
theorem InnerTo.step {l : List Int} {i j : Nat} (h : InnerTo l i (j + 1)) (hi : i < l.length) (hj : j + 1 ≤ i) (hlt : ix l (j + 1) < ix l j) : InnerTo (swapL l j) i j := by
  refine ⟨fun a b h1 h2 h3 h4 => ?_, fun b h1 h2 => ?_⟩
  · rw [ix_swapL l j a (by omega) (by omega), ix_swapL l j b (by omega) (by omega), if_neg h3, if_neg h4]
    by_cases ha : a = j + 1
    · subst ha
      rw [if_pos rfl, if_neg (by omega)]
      exact h.1 j b (by omega) h2 (by omega) (by omega)
    · rw [if_neg ha]
      by_cases hb : b = j + 1
      · subst hb
        rw [if_pos rfl]
        have : a < j := by omega
        exact h.1 a j this (by omega) ha (by omega)
      · rw [if_neg hb]
        exact h.1 a b h1 h2 ha hb
  · rw [ix_swapL l j j (by omega) (by omega), ix_swapL l j b (by omega) (by omega), if_pos rfl, if_neg (by omega)]
    by_cases hb : b = j + 1
    · subst hb; rw [if_pos rfl]; omega
    · rw [if_neg hb]
      exact h.2 b (by omega) h2
theorem InnerTo.zero {l : List Int} {i : Nat} (h : InnerTo l i 0) : SortedTo l (i + 1) := fun a b h1 h2 => by
  by_cases ha : a = 0
  · subst ha; exact h.2 b h1 (by omega)
  · exact h.1 a b h1 (by omega) ha (by omega)
end Go.Proofs.YtjfjpngajboidaaGreat


namespace Go.Proofs.YtjfjpngajboidaaGreat
set_option linter.unusedVariables false
set_option linter.unusedSimpArgs false
open Go.RowKit

structure OneM (base n : Nat) (w : World) (b : Nat) (B : Nat → Nat) (T : List (List Int)) : Prop where
  a : ∀ i, i < n → w.cell? ⟨b, i, none⟩ = some (.slice (some ⟨B i, 0, none⟩) n n)
  t : ∀ i, i < n → IntsAt w (B i) 0 (row T i) ∧ FreeAt w (B i) 0 n ∧ (row T i).length = n ∧ base ≤ B i ∧ B i ≠ b ∧ B i < w.heap.size
  b1 : ∀ i j, i < n → j < n → B i = B j → i = j
  l : T.length = n
  f : FreeAt w b 0 n
  bb : base ≤ b ∧ b < w.heap.size
theorem OneM.ext {base n : Nat} {w w' : World} {b : Nat} {B : Nat → Nat} {T : List (List Int)} (h : OneM base n w b B T) (hx : Ext w w') : OneM base n w' b B T :=
  ⟨fun i hi => hx.cell (h.a i hi), fun i hi => ⟨(h.t i hi).1.ext hx, (h.t i hi).2.1.block (hx.block _ (h.t i hi).2.2.2.2.2), (h.t i hi).2.2.1, (h.t i hi).2.2.2.1, (h.t i hi).2.2.2.2.1, Nat.lt_of_lt_of_le (h.t i hi).2.2.2.2.2 hx.size⟩, h.b1, h.l, h.f.block (hx.block _ h.bb.2), h.bb.1, Nat.lt_of_lt_of_le h.bb.2 hx.size⟩
theorem OneM.put {base n : Nat} {w : World} {b : Nat} {B : Nat → Nat} {T : List (List Int)} (h : OneM base n w b B T) {i j : Nat} (hi : i < n) (hj : j < n) (x : Int) : OneM base n (w.setCell ⟨B i, j, none⟩ (.int .i64 x)) b B (setE T i j x) := by
  have hT := h.t i hi
  have hl : i < T.length := by rw [h.l]; exact hi
  refine ⟨fun q hq => ?_, fun q hq => ?_, h.b1, by rw [length_setE]; exact h.l, h.f.set _ _, h.bb.1, by simp; exact h.bb.2⟩
  · rw [World.cell?_setCell_other _ _ _ _ (fun e => hT.2.2.2.2.1 (by have := congrArg Addr.block e; simp only [] at this; exact this))]
    exact h.a q hq
  · have hq2 := h.t q hq
    refine ⟨?_, hq2.2.1.set _ _, by rw [length_row_setE _ _ _ _ _ hl]; exact hq2.2.2.1, hq2.2.2.2.1, hq2.2.2.2.2.1, by simp; exact hq2.2.2.2.2.2⟩
    by_cases e : q = i
    · subst e
      rw [row_setE_same _ _ _ _ hl]
      have := hT.1.set j x (l' := (row T q).set j x) (by rw [hT.2.2.1]; exact hj) (by simp) (fun i hi _ => ix_set_ne _ _ _ _ hi) (ix_set_eq _ _ _ (by rw [hT.2.2.1]; exact hj))
      rwa [Nat.zero_add] at this
    · rw [row_setE_other _ _ _ _ _ e]
      exact hq2.1.block (Below.heap_setCell _ _ _ _ (fun e2 => e (h.b1 _ _ hq hi (by first | exact e2 | exact e2.symm))))
theorem OneM.tab {base n : Nat} {w : World} {b : Nat} {B : Nat → Nat} {T : List (List Int)} (h : OneM base n w b B T) (hn : n ≤ 1048576) (c : Nat) : TabF base w (.slice (some ⟨b, 0, none⟩) n c) T := by
  refine ⟨by rw [h.l]; exact hn, b, c, by rw [h.l], h.bb.1, h.bb.2, fun i hi => ?_⟩
  rw [h.l] at hi
  obtain ⟨k1, k2, k3, k4, -, k5⟩ := h.t i hi
  refine ⟨by have := h.f i hi; rwa [Nat.zero_add] at this, _, h.a i hi, by rw [k3]; exact hn, B i, n, by rw [k3], k4, k5, fun q => q, k1, by rw [k3]; exact k2⟩
theorem TwoG.one {e ei base n : Nat} {w : World} {bA cA : Nat} {v2 : Value} {B D : Nat → Nat} (h : TwoG e ei base n n 0 w (.slice (some ⟨bA, 0, none⟩) n cA) v2 B D) : OneM base n w bA B (zerT n) := by
  refine ⟨fun i hi => ?_, fun i hi => ?_, h.b1, by simp [zerT], ?_, (h.o1.lt bA rfl).1, (h.o1.lt bA rfl).2⟩
  · rw [h.o1.cellAt i (by omega)]; exact slsN_at _ _ _ hi
  · obtain ⟨k1, k2⟩ := zrow_ints (h.r1 i hi).1
    rw [row_zerT hi]
    exact ⟨k1, k2, by simp, (h.r1 i hi).2.1, fun e => (h.r1 i hi).2.2.1 (by rw [e]; rfl), heap_lt (h.r1 i hi).1⟩
  · rcases h.o1.2 with ⟨hv, _⟩ | ⟨g', cap, cur, hv, hb, hg, _⟩
    · cases hv
    · simp only [Value.slice.injEq, Option.some.injEq, Addr.mk.injEq, and_true, true_and] at hv
      obtain ⟨rfl, rfl⟩ := hv
      intro i hi
      simp [World.frozen?, hg]

def RenTo (n : Nat) (t : List (List Int)) (p : List Int) (x y : Nat) (T : List (List Int)) : Prop := ∀ i j, j < n → (i < x ∨ (i = x ∧ j < y)) → ent T (ix p i).toNat (ix p j).toNat = ix p (ent t i j).toNat
theorem RenTo.zero (n : Nat) (t : List (List Int)) (p : List Int) (T : List (List Int)) : RenTo n t p 0 0 T := fun i j _ h => by omega
theorem RenTo.next {n : Nat} {t : List (List Int)} {p : List Int} {x : Nat} {T : List (List Int)} (h : RenTo n t p x n T) : RenTo n t p (x + 1) 0 T := fun i j hj hi => h i j hj (by omega)
theorem RenTo.step {n : Nat} {t : List (List Int)} {p : List Int} {x y : Nat} {T : List (List Int)} (h : RenTo n t p x y T) (hp : IsoOk n [] [] p) (hl : T.length = n) (hr : ∀ i, i < n → (row T i).length = n) (hx : x < n) (hy : y < n) {X Y : Nat} (eX : ix p x = (X : Int)) (eY : ix p y = (Y : Int)) {z : Int} (hz : z = ix p (ent t x y).toNat) :
    RenTo n t p x (y + 1) (setE T X Y z) := by
  have hX := (hp.bd hx).2
  have hY := (hp.bd hy).2
  have eX' : (ix p x).toNat = X := by omega
  have eY' : (ix p y).toNat = Y := by omega
  intro i j hj hi
  by_cases e : i = x ∧ j = y
  · obtain ⟨rfl, rfl⟩ := e
    rw [eX', eY', ent_setE_same _ _ _ _ (by omega) (by rw [hr _ (by omega)]; omega)]
    exact hz
  · have hi2 : i < n := by omega
    rw [ent_setE_other _ _ _ _ _ _ (by omega) ?_]
    · exact h i j hj (by omega)
    · by_cases e2 : i = x
      · refine .inr fun e3 => e ⟨e2, hp.inj hj hy ?_⟩
        have := hp.bd hj
        omega
      · refine .inl fun e3 => e2 (hp.inj hi2 hx ?_)
        have := hp.bd hi2
        omega
theorem RenTo.ent_in {n : Nat} {t : List (List Int)} {p : List Int} {T : List (List Int)} (h : RenTo n t p n 0 T) (hp : IsoOk n [] [] p) (ht : ∀ x, x < n → ∀ y, y < n → 0 ≤ ent t x y ∧ ent t x y < n) : ∀ x, x < n → ∀ y, y < n → 0 ≤ ent T x y ∧ ent T x y < n := fun x hx y hy => by
  obtain ⟨i, hi, ei⟩ := hp.surj hx
  obtain ⟨j, hj, ej⟩ := hp.surj hy
  have := h i j hj (.inl hi)
  rw [ei, ej] at this
  simp only [Int.toNat_natCast] at this
  rw [this]
  have h2 := ht i hi j hj
  have h3 := hp.bd (x := (ent t i j).toNat) (by omega)
  omega
theorem RenTo.perm {n : Nat} {t : List (List Int)} {p : List Int} {T : List (List Int)} (h : RenTo n t p n 0 T) (hp : IsoOk n [] [] p) (hr : ∀ i, i < n → (row T i).length = n) (hrt : ∀ i, i < n → (row t i).length = n) (ht : ∀ x, x < n → PermOk (row t x)) : ∀ x, x < n → PermOk (row T x) := fun x hx => by
  obtain ⟨i, hi, ei⟩ := hp.surj hx
  refine permOk_mem.2 fun y hy => ?_
  rw [hr x hx] at hy
  obtain ⟨z, hz, ez⟩ := hp.surj hy
  obtain ⟨j, hj, ej⟩ := memI_ix ((permOk_mem.1 (ht i hi)) z (by rw [hrt i hi]; exact hz))
  rw [hrt i hi] at hj
  have h1 := h i j hj (.inl hi)
  rw [← ent_def, ← ent_def, ei] at h1
  simp only [Int.toNat_natCast] at h1
  rw [ej] at h1
  simp only [Int.toNat_natCast] at h1
  rw [ez] at h1
  rw [← h1]
  exact ixI_mem (by rw [hr x hx]; exact (hp.bd hj).2)
end Go.Proofs.YtjfjpngajboidaaGreat
