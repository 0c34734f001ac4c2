/-
  Tables whose blocks all have a property; lists of such tables; append of nil.
-/
import Derived.Test.YthlafeefjonkdaaGreatDoorJx9
namespace Go.Proofs.YthlafeefjonkdaaGreatDoor
set_option linter.unusedVariables false
set_option linter.unusedSimpArgs false
open Go.RowKit
open Go.Deep

def RowsP (O : Nat → Prop) (w : World) (v : Value) (t : List (List Int)) : Prop :=
  t.length ≤ 1048576 ∧ ∃ b o c, v = .slice (some ⟨b, o, none⟩) t.length c ∧ O b ∧ ∀ i, i < t.length → ∃ b1 o1 c1, w.cell? ⟨b, o + i, none⟩ = some (.slice (some ⟨b1, o1, none⟩) (row t i).length c1) ∧ O b1 ∧ (row t i).length ≤ 1048576 ∧ IntsAt w b1 o1 (row t i)
theorem RowsP.rows {O : Nat → Prop} {w : World} {v : Value} {t : List (List Int)} (h : RowsP O w v t) : Rows w v t := by
  obtain ⟨h0, b, o, c, rfl, hb, h⟩ := h
  refine ⟨h0, b, o, c, rfl, fun i hi => ?_⟩
  obtain ⟨b1, o1, c1, h1, h2, h3, h4⟩ := h i hi
  exact ⟨_, h1, h3, b1, o1, c1, rfl, h4⟩
theorem RowsP.shape {O : Nat → Prop} {w : World} {v : Value} {t : List (List Int)} (h : RowsP O w v t) : ∃ b o c, v = .slice (some ⟨b, o, none⟩) t.length c := by
  obtain ⟨-, b, o, c, rfl, -⟩ := h
  exact ⟨b, o, c, rfl⟩
theorem RowsP.weaken {O O' : Nat → Prop} {w : World} {v : Value} {t : List (List Int)} (h : RowsP O w v t) (ho : ∀ k, O k → O' k) : RowsP O' w v t := by
  obtain ⟨h0, b, o, c, rfl, hb, h⟩ := h
  refine ⟨h0, b, o, c, rfl, ho _ hb, fun i hi => ?_⟩
  obtain ⟨b1, o1, c1, h1, h2, h3, h4⟩ := h i hi
  exact ⟨b1, o1, c1, h1, ho _ h2, h3, h4⟩
theorem RowsP.keep0 {O : Nat → Prop} {w w' : World} {v : Value} {t : List (List Int)} (h : RowsP O w v t) (hk : ∀ k, O k → k < w.heap.size → w'.heap[k]? = w.heap[k]?) : RowsP O w' v t := by
  obtain ⟨h0, b, o, c, rfl, hb, h⟩ := h
  refine ⟨h0, b, o, c, rfl, hb, fun i hi => ?_⟩
  obtain ⟨b1, o1, c1, h1, h2, h3, h4⟩ := h i hi
  refine ⟨b1, o1, c1, ?_, h2, h3, fun j hj => ?_⟩
  · rw [World.cell?_of_block (w := w) (a := ⟨b, o + i, none⟩) (hk b hb (World.block_lt_of_cell? _ _ h1))]; exact h1
  · rw [World.cell?_of_block (w := w) (a := ⟨b1, o1 + j, none⟩) (hk b1 h2 (World.block_lt_of_cell? _ _ (h4 j hj)))]; exact h4 j hj
theorem RowsP.ext {O : Nat → Prop} {w w' : World} {v : Value} {t : List (List Int)} (h : RowsP O w v t) (hx : Ext w w') : RowsP O w' v t := h.keep0 fun k _ hl => hx.block k hl
theorem RowsP.touch {O : Nat → Prop} {lo hi : Nat} {w w' : World} {v : Value} {t : List (List Int)} (h : RowsP O w v t) (hT : Touch lo hi w w') (ho : ∀ k, O k → k < lo ∨ hi ≤ k) : RowsP O w' v t :=
  h.keep0 fun k hk hl => hT.block k hl (by have := ho k hk; omega)
theorem OwnT.rowsP {lo hi : Nat} {w : World} {b : Nat} {t : List (List Int)} (h : OwnT lo hi w b 0 t) (hs : Small t) (c : Nat) : RowsP (fun k => lo ≤ k ∧ k < hi) w (.slice (some ⟨b, 0, none⟩) t.length c) t := by
  obtain ⟨h1, h2, B, O, C, h3, h4⟩ := h
  refine ⟨hs.1, b, 0, c, rfl, ⟨h1, h2⟩, fun i hi => ?_⟩
  obtain ⟨a1, a2, a3⟩ := h3 i hi
  exact ⟨B i, O i, C i, a1, ⟨a2.1, a2.2.1⟩, hs.2 i, a2.2.2.1⟩

theorem wpList_append_none {P : Program} {w : World} {ops : Array Oper} {rest : List Oper} {o : Oper} {a : Act} {Q : Exit → Act → World → Prop} (hgd : o.guard = none) (s x : Operand) (t e : TypeId)
    (ho : o.op = .call { callee := .builtin .append, args := #[s, x], argTypes := #[t, t] }) (ht : P.underlying t = some (.slice e)) {z : Value} (hinfo : (P.info? e).map (fun i => (i.zero, i.size, i.bytes)) = some (some z, 1, 24))
    (b n cap : Nat) (hs : a.eval s = .slice (some ⟨b, 0, none⟩) n cap) (hx : a.eval x = .slice none 0 0) (hl : n ≤ cap)
    (h : wpList P ops Q rest (a.put o.dst (.slice (some ⟨b, 0, none⟩) n cap)) w) : wpList P ops Q (o :: rest) a w := by
  obtain ⟨i0, hi, hz0, hz1, hz2⟩ := info_parts hinfo
  refine wpList_plain hgd fun K hK => ?_
  have hr : (Builtin.append_ #[t, t] o.type #[.slice (some ⟨b, 0, none⟩) n cap, .slice none 0 0]).run P w = .ok (.slice (some ⟨b, 0, none⟩) n cap) w := by
    simp [Builtin.append_, run_underlying ht, sizeOf, typeInfo, hi, Builtin.lenOf, Builtin.firstCells, loadCells, loadCellsFrom, storeCells, hl]
  unfold Oper.wp execOp
  simp only [ho, resolve, invoke, builtin, Sem.run_bind, Sem.run_pure, Result.andThen_ok, List.map_toArray, List.map_cons, List.map_nil, hs, hx, hr]
  exact hK _ _ h
end Go.Proofs.YthlafeefjonkdaaGreatDoor


namespace Go.Proofs.YthlafeefjonkdaaGreatDoor
set_option linter.unusedVariables false
set_option linter.unusedSimpArgs false
open Go.RowKit
open Go.Deep

def GrowP (e base : Nat) (w : World) (v : Value) (t : List (List Int)) : Prop :=
  ∃ xs : List Value, w.ownsRow base e 1 v t.length xs ∧ ∀ i, i < t.length → (row t i).length ≤ 1048576 ∧ ∃ b c, xs[i]? = some (.slice (some ⟨b, 0, none⟩) (row t i).length c) ∧ base ≤ b ∧ IntsAt w b 0 (row t i)

theorem GrowP.lit {e base : Nat} {w : World} (hb : base ≤ w.heap.size) : GrowP e base (w.alloc (.cells #[] e)) (.slice (some ⟨w.heap.size, 0, none⟩) 0 0) [] :=
  ⟨[], World.ownsRow_made w #[] 0 hb (Nat.zero_le _) rfl, fun i hi => by simp at hi⟩

theorem GrowP.nil (e base : Nat) (w : World) : GrowP e base w (.slice none 0 0) [] := ⟨[], World.ownsRow_nil w base e 1, fun i hi => by simp at hi⟩

theorem GrowP.ext {e base : Nat} {w w' : World} {v : Value} {t : List (List Int)} (h : GrowP e base w v t) (hx : Ext w w') : GrowP e base w' v t := by
  obtain ⟨xs, h1, h2⟩ := h
  refine ⟨xs, ownsRow_ext h1 hx, fun i hi => ?_⟩
  obtain ⟨g0, b, c, g1, g3, g2⟩ := h2 i hi
  exact ⟨g0, b, c, g1, g3, g2.ext hx⟩

theorem GrowP.lt {e base : Nat} {w : World} {v : Value} {t : List (List Int)} (h : GrowP e base w v t) : ∀ k, v.ownBlock = some k → base ≤ k ∧ k < w.heap.size := by
  obtain ⟨xs, h1, h2⟩ := h
  exact h1.lt

theorem GrowP.own {e base : Nat} {w : World} {v : Value} {t : List (List Int)} (h : GrowP e base w v t) : ∃ xs, w.ownsRow base e 1 v t.length xs := h.imp fun _ h => h.1

theorem GrowP.rowsP {e base : Nat} {w : World} {v : Value} {t : List (List Int)} (h : GrowP e base w v t) (hl : t.length ≤ 1048576) (hv : v ≠ .slice none 0 0) : RowsP (fun k => base ≤ k) w v t := by
  obtain ⟨xs, h1, h2⟩ := h
  rcases id h1.2 with ⟨rfl, hn⟩ | ⟨g, cap, cur, rfl, hb, hg, hnc, _, hcs, htake⟩
  · exact absurd rfl hv
  · refine ⟨hl, g, 0, cap, rfl, hb, fun i hi => ?_⟩
    obtain ⟨g0, b, c, g1, g3, g2⟩ := h2 i hi
    have := World.ownsRow.cells h1 (g := g) rfl i _ g1
    rw [Addr.add_lit] at this
    exact ⟨b, 0, c, this, g3, g0, g2⟩

theorem GrowP.slice {e base : Nat} {w : World} {v : Value} {t : List (List Int)} (h : GrowP e base w v t) : ∃ a c, v = .slice a t.length c := by
  obtain ⟨xs, h1, h2⟩ := h
  rcases h1.2 with ⟨rfl, hn⟩ | ⟨g, cap, cur, rfl, _⟩
  · exact ⟨none, 0, by rw [hn]⟩
  · exact ⟨_, cap, rfl⟩

theorem GrowP.setSl {e base : Nat} {w : World} {v : Value} {t : List (List Int)} (h : GrowP e base w v t) {a : Addr} {p n c} (ha : w.cell? a = some (.slice p n c)) (hb : a.block < base) (u : Value) : GrowP e base (w.setCell a u) v t := by
  obtain ⟨xs, h1, h2⟩ := h
  refine ⟨xs, ownsRow_setOther h1 hb u, fun i hi => ?_⟩
  obtain ⟨g0, b, c, g1, g3, g2⟩ := h2 i hi
  exact ⟨g0, b, c, g1, g3, g2.setSl ha u⟩

theorem wpList_append_row_p {P : Program} {w : World} {ops : Array Oper} {rest : List Oper} {o : Oper} {a : Act} {Q : Exit → Act → World → Prop} (hgd : o.guard = none) (s x : Operand) (t e : TypeId)
    (ho : o.op = .call { callee := .builtin .append, args := #[s, x], argTypes := #[t, t] }) (ht : P.underlying t = some (.slice e)) (hinfo : (P.info? e).map (fun i => (i.zero, i.size, i.bytes)) = some (some (.slice none 0 0), 1, 24))
    (base : Nat) (v : Value) (tb : List (List Int)) (hs : a.eval s = v) (hown : GrowP e base w v tb) (g : Nat) (br cr : Nat) (l : List Int) (hx : a.eval x = .slice (some ⟨g, 0, none⟩) 1 1) (hc : w.cell? ⟨g, 0, none⟩ = some (.slice (some ⟨br, 0, none⟩) l.length cr)) (hr : IntsAt w br 0 l)
    (hrl : l.length ≤ 1048576) (hbr : base ≤ br) (hne : some br ≠ v.ownBlock)
    (hl : tb.length ≤ 1048576) (hbase : base ≤ w.heap.size)
    (h : ∀ v' w', GrowP e base w' v' (tb ++ [l]) → w.grownBy w' v.ownBlock → v' ≠ .slice none 0 0 → wpList P ops Q rest (a.put o.dst v') w') : wpList P ops Q (o :: rest) a w := by
  obtain ⟨i0, hi, hz0, hz1, hz2⟩ := info_parts hinfo
  obtain ⟨xs, h1, h2⟩ := hown
  refine wpList_append_own w hgd s x t ho base e i0 (.slice none 0 0) 1 24 ht hi hz0 hz1 hz2 rfl (by decide) v tb.length xs hs h1 ⟨g, 0, none⟩ 1 1 [.slice (some ⟨br, 0, none⟩) l.length cr] hx rfl ?_ ?_ (by unfold maxLen; omega) (by omega) hbase ?_
  · intro j u hj
    match j, hj with
    | 0, hj => simp at hj; subst hj; simpa [Addr.add] using hc
  · intro u hu; simp at hu; subst hu; rfl
  · intro v' w' k1 k2 k3
    refine h v' w' ⟨xs ++ [.slice (some ⟨br, 0, none⟩) l.length cr], by simpa using k1, fun i hi => ?_⟩ k2 (fun e => by have := k3.1 e; simp at this)
    have hxl : xs.length = tb.length := by simpa using h1.1
    by_cases hi' : i < tb.length
    · obtain ⟨q0, b, c, q1, q3, q2⟩ := h2 i hi'
      have hrow : row (tb ++ [l]) i = row tb i := by rw [row_eq, row_eq]; simp [List.getD, List.getElem?_append_left hi']
      rw [hrow]
      refine ⟨q0, b, c, by rw [List.getElem?_append_left (by omega)]; exact q1, q3, intsAt_grown q2 k2 (fun hne' hb => ?_)⟩
      have hpos : 0 < (row tb i).length := List.length_pos_iff.2 hne'
      have hcc := q2 0 hpos
      obtain ⟨_, b0, c0, z1, _⟩ := h2 0 (by omega)
      have := World.ownsRow.cells h1 (g := b) hb.symm 0 _ z1
      rw [Addr.add_lit] at this
      rw [this] at hcc
      simp at hcc
    · have hie : i = tb.length := by simp at hi; omega
      subst hie
      have hrow : row (tb ++ [l]) tb.length = l := by rw [row_eq]; simp [List.getD]
      rw [hrow]
      exact ⟨hrl, br, cr, by rw [List.getElem?_append_right (by omega), hxl]; simp, hbr, intsAt_grown hr k2 (fun _ => hne)⟩
end Go.Proofs.YthlafeefjonkdaaGreatDoor


namespace Go.Proofs.YthlafeefjonkdaaGreatDoor
set_option linter.unusedVariables false
set_option linter.unusedSimpArgs false

def ColOk (n : Nat) (c : List Int) : Prop := c.length = n ∧ ∀ i, i < n → 0 ≤ ix c i ∧ ix c i ≤ 60
@[irreducible] def marksL (az bz : List (List (List Int))) (l r : List Int) (n K : Nat) : List (List Int) :=
  ((List.range n).map fun x => markL az l n x K) ++ (List.range n).map fun x => markL bz r n x K
theorem length_marksL (az bz : List (List (List Int))) (l r : List Int) (n K : Nat) : (marksL az bz l r n K).length = 2 * n := by unfold marksL; simp; omega
theorem row_marksL1 (az bz : List (List (List Int))) (l r : List Int) (n K x : Nat) (hx : x < n) : row (marksL az bz l r n K) x = markL az l n x K := by
  rw [row_eq]; unfold marksL
  simp [List.getD, List.getElem?_append_left, hx]
theorem row_marksL2 (az bz : List (List (List Int))) (l r : List Int) (n K x : Nat) (hx : x < n) : row (marksL az bz l r n K) (n + x) = markL bz r n x K := by
  rw [row_eq]; unfold marksL
  simp [List.getD, List.getElem?_append_right, hx]
theorem length_row_marksL (az bz : List (List (List Int))) (l r : List Int) (n K i : Nat) (hi : i < 2 * n) : (row (marksL az bz l r n K) i).length = 1 + K * (2 * n) := by
  by_cases h : i < n
  · rw [row_marksL1 _ _ _ _ _ _ _ h, length_markL]
  · obtain ⟨x, rfl⟩ : ∃ x, i = n + x := ⟨i - n, by omega⟩
    rw [row_marksL2 _ _ _ _ _ _ _ (by omega), length_markL]
@[irreducible] def marksTo (az bz : List (List (List Int))) (l r : List Int) (n K i : Nat) : List (List Int) := (marksL az bz l r n K).take i
theorem marksTo_def (az bz : List (List (List Int))) (l r : List Int) (n K i : Nat) : marksTo az bz l r n K i = (marksL az bz l r n K).take i := by unfold marksTo; rfl
theorem marksTo_succ (az bz : List (List (List Int))) (l r : List Int) (n K i : Nat) (hi : i < 2 * n) : marksTo az bz l r n K (i + 1) = marksTo az bz l r n K i ++ [row (marksL az bz l r n K) i] := by
  rw [marksTo_def, marksTo_def]
  have h : i < (marksL az bz l r n K).length := by rw [length_marksL]; exact hi
  rw [List.take_succ_eq_append_getElem h, row_eq]; simp [List.getD, h]
theorem marksTo_all (az bz : List (List (List Int))) (l r : List Int) (n K : Nat) : marksTo az bz l r n K (2 * n) = marksL az bz l r n K := by
  rw [marksTo_def]; exact List.take_of_length_le (by rw [length_marksL]; omega)
theorem length_marksTo (az bz : List (List (List Int))) (l r : List Int) (n K i : Nat) (hi : i ≤ 2 * n) : (marksTo az bz l r n K i).length = i := by
  rw [marksTo_def, List.length_take, length_marksL]; omega
theorem marksTo_zero (az bz : List (List (List Int))) (l r : List Int) (n K : Nat) : marksTo az bz l r n K 0 = [] := by rw [marksTo_def, List.take_zero]

def Used (n num : Nat) (l r : List Int) : Prop := ∀ c : Nat, c < num → ∃ x, x < n ∧ (ix l x = (c : Int) ∨ ix r x = (c : Int))
theorem Used.zero (n : Nat) (l r : List Int) : Used n 0 l r := fun c hc => by omega
theorem Used.more {az bz : List (List (List Int))} {l r : List Int} {n K num : Nat} {Kd : List (List Int)} (h : Used n num l r) (hk : Kinds (marksL az bz l r n K) Kd) : num ≤ Kd.length := by
  refine hk.more fun c hc => ?_
  obtain ⟨x, hx, e | e⟩ := h c hc
  · exact ⟨x, by rw [length_marksL]; omega, by rw [row_marksL1 _ _ _ _ _ _ _ hx, markL_head]; exact e⟩
  · exact ⟨n + x, by rw [length_marksL]; omega, by rw [row_marksL2 _ _ _ _ _ _ _ hx, markL_head]; exact e⟩
@[irreducible] def newC (M Kd : List (List Int)) (i : Nat) : Int := (placeL Kd (row M i) : Nat)
theorem newC_def (M Kd : List (List Int)) (i : Nat) : newC M Kd i = (placeL Kd (row M i) : Nat) := by unfold newC; rfl
theorem row_mem {M : List (List Int)} {i : Nat} (h : i < M.length) : row M i ∈ M := by rw [row_eq]; simp [List.getD, h]
theorem newC_bd {M Kd : List (List Int)} (hk : Kinds M Kd) {i : Nat} (hi : i < M.length) : 0 ≤ newC M Kd i ∧ newC M Kd i < Kd.length := by
  have := placeL_lt (hk.2.2 _ (row_mem hi))
  rw [newC_def]; omega
def cntD (M Kd : List (List Int)) (n c : Nat) : Nat → Int
  | 0 => 0
  | i + 1 => cntD M Kd n c i + (if placeL Kd (row M i) = c then (if i < n then 1 else -1) else 0)
theorem cntD_bd (M Kd : List (List Int)) (n c : Nat) : ∀ i : Nat, -(i : Int) ≤ cntD M Kd n c i ∧ cntD M Kd n c i ≤ i
  | 0 => by unfold cntD; omega
  | i + 1 => by
    have := cntD_bd M Kd n c i
    unfold cntD
    split
    · split <;> omega
    · omega
theorem cntD_lo (M Kd : List (List Int)) (n c : Nat) : ∀ i, i ≤ n → cntD M Kd n c i = (((List.range i).countP fun j => decide (placeL Kd (row M j) = c) : Nat) : Int)
  | 0, _ => by unfold cntD; simp
  | i + 1, h => by
    unfold cntD
    rw [cntD_lo M Kd n c i (by omega), List.range_succ, List.countP_append]
    by_cases e : placeL Kd (row M i) = c
    · rw [if_pos e, if_pos (show i < n by omega)]; simp [e]
    · rw [if_neg e]; simp [e]
theorem cntD_hi (M Kd : List (List Int)) (n c : Nat) : ∀ i, i ≤ n → cntD M Kd n c (n + i) = cntD M Kd n c n - (((List.range i).countP fun j => decide (placeL Kd (row M (n + j)) = c) : Nat) : Int)
  | 0, _ => by simp
  | i + 1, h => by
    rw [show n + (i + 1) = (n + i) + 1 from rfl]
    rw [cntD, cntD_hi M Kd n c i (by omega), List.range_succ, List.countP_append]
    by_cases e : placeL Kd (row M (n + i)) = c
    · rw [if_pos e, if_neg (show ¬ n + i < n by omega)]; simp [e]; omega
    · rw [if_neg e]; simp [e]
theorem marks_iso {n : Nat} {az bz : List (List (List Int))} {l r p : List Int} (hA : TabsOk n az) (h : IsoOk n az bz p) (hr : Resp n l r p) {x : Nat} (hx : x < n) :
    row (marksL az bz l r n az.length) x = row (marksL az bz l r n az.length) (n + (ix p x).toNat) := by
  rw [row_marksL1 _ _ _ _ _ _ _ hx, row_marksL2 _ _ _ _ _ _ _ (h.bd hx).2, markL_iso hA h hr hx _ (Nat.le_refl _)]
theorem cntD_iso {n : Nat} {az bz : List (List (List Int))} {l r p : List Int} (hA : TabsOk n az) (h : IsoOk n az bz p) (hr : Resp n l r p) (Kd : List (List Int)) (c : Nat) :
    cntD (marksL az bz l r n az.length) Kd n c (2 * n) = 0 := by
  rw [show 2 * n = n + n by omega, cntD_hi _ _ _ _ n (Nat.le_refl _), cntD_lo _ _ _ _ n (Nat.le_refl _)]
  have e : (List.range n).countP (fun j => decide (placeL Kd (row (marksL az bz l r n az.length) (n + j)) = c)) = (List.range n).countP fun j => decide (placeL Kd (row (marksL az bz l r n az.length) j) = c) := by
    rw [← (perm_range h.1 h.2.1).countP_eq, List.countP_map]
    refine List.countP_congr fun x hx => ?_
    rw [List.mem_range] at hx
    simp only [Function.comp, decide_eq_true_eq]
    rw [marks_iso hA h hr hx]
  rw [e]; omega
@[irreducible] def colsL (M Kd : List (List Int)) (m : Nat) : List Int := mkL m (newC M Kd)
theorem length_colsL (M Kd : List (List Int)) (m : Nat) : (colsL M Kd m).length = m := by unfold colsL; exact length_mkL _ _
theorem ix_colsL (M Kd : List (List Int)) (m i : Nat) (h : i < m) : ix (colsL M Kd m) i = newC M Kd i := by unfold colsL; exact ix_mkL _ _ _ h
theorem ix_take {l : List Int} {k i : Nat} (h : i < k) : ix (l.take k) i = ix l i := by
  rw [ix_eq, ix_eq]; simp [List.getD, List.getElem?_take, h]
theorem ix_drop {l : List Int} {k i : Nat} : ix (l.drop k) i = ix l (k + i) := by
  rw [ix_eq, ix_eq]; simp [List.getD, List.getElem?_drop]
theorem cols_ok {M Kd : List (List Int)} {n : Nat} (hk : Kinds M Kd) (hm : M.length = 2 * n) (h12 : n ≤ 12) : ColOk n ((colsL M Kd (2 * n)).take n) ∧ ColOk n ((colsL M Kd (2 * n)).drop n) := by
  have hle := hk.le
  refine ⟨⟨by rw [List.length_take, length_colsL]; omega, fun i hi => ?_⟩, ⟨by rw [List.length_drop, length_colsL]; omega, fun i hi => ?_⟩⟩
  · rw [ix_take hi, ix_colsL _ _ _ _ (by omega)]
    have := newC_bd hk (i := i) (by omega)
    omega
  · rw [ix_drop, ix_colsL _ _ _ _ (by omega)]
    have := newC_bd hk (i := n + i) (by omega)
    omega
theorem cols_used {M Kd : List (List Int)} {n : Nat} (hk : Kinds M Kd) (hm : M.length = 2 * n) : Used n Kd.length ((colsL M Kd (2 * n)).take n) ((colsL M Kd (2 * n)).drop n) := fun c hc => by
  obtain ⟨i, hi, e⟩ := hk.used hc
  by_cases h : i < n
  · exact ⟨i, h, .inl (by rw [ix_take h, ix_colsL _ _ _ _ (by omega), newC_def, e])⟩
  · refine ⟨i - n, by omega, .inr ?_⟩
    rw [ix_drop, ix_colsL _ _ _ _ (by omega), newC_def, show n + (i - n) = i by omega, e]
theorem cols_resp {n : Nat} {az bz : List (List (List Int))} {l r p : List Int} (hA : TabsOk n az) (h : IsoOk n az bz p) (hr : Resp n l r p) (Kd : List (List Int)) :
    Resp n ((colsL (marksL az bz l r n az.length) Kd (2 * n)).take n) ((colsL (marksL az bz l r n az.length) Kd (2 * n)).drop n) p := fun x hx => by
  have hp := h.bd hx
  rw [ix_take hx, ix_drop, ix_colsL _ _ _ _ (by omega), ix_colsL _ _ _ _ (by omega), newC_def, newC_def, marks_iso hA h hr hx]
end Go.Proofs.YthlafeefjonkdaaGreatDoor


namespace Go.Proofs.YthlafeefjonkdaaGreatDoor
set_option linter.unusedVariables false
set_option linter.unusedSimpArgs false

def FitAll (az bz : List (List (List Int))) (f : List Int) : Prop :=
  ∀ k, k < az.length → ∀ x, x < f.length → ∀ y, y < f.length → ent (tab az k) x y < (f.length : Int) → ix f (ent (tab az k) x y).toNat = ent (tab bz k) (ix f x).toNat (ix f y).toNat
def Begun (n : Nat) (az bz : List (List (List Int))) (f : List Int) : Prop :=
  (∀ i, i < f.length → 0 ≤ ix f i ∧ ix f i < n) ∧ DistinctTo f f.length ∧ FitAll az bz f
theorem begun_iso {n : Nat} {az bz : List (List (List Int))} {f : List Int} (hA : TabsOk n az) (h : Begun n az bz f) (hl : f.length = n) : IsoOk n az bz f := by
  refine ⟨hl, ⟨fun i hi => ?_, h.2.1⟩, fun k hk x hx y hy => ?_⟩
  · have := h.1 i hi
    omega
  · have := hA.bd hk hx hy
    exact h.2.2 k hk x (by omega) y (by omega) (by omega)
theorem extP_get {f p : List Int} (h : ExtP f p) (hf : ∀ i, i < f.length → 0 ≤ ix f i) {i : Nat} (hi : i < f.length) : ix p i = ix f i := h i hi (hf i hi)
theorem begun_snoc {n l : Nat} {az bz : List (List (List Int))} {f : List Int} {y : Nat} (h : Begun n az bz f) (hy : y < n) (hh : hasB f y = false) (hfit : ∀ k, k < az.length → ∀ x, x < f.length + 1 → ∀ q, q < f.length + 1 →
    ((f.length : Int) < ent (tab az k) x q ∨ (x < f.length ∧ q < f.length ∧ ent (tab az k) x q < (f.length : Int)) ∨ ix (f ++ [(y : Int)]) (ent (tab az k) x q).toNat = ent (tab bz k) (ix (f ++ [(y : Int)]) x).toNat (ix (f ++ [(y : Int)]) q).toNat))
    (h0 : ∀ k, k < az.length → ∀ x, x < f.length → ∀ q, q < f.length → 0 ≤ ent (tab az k) x q) : Begun n az bz (f ++ [(y : Int)]) := by
  have hne : ∀ j, j < f.length → ix f j ≠ (y : Int) := fun j hj e => by
    have hno := hasB_no.1 hh
    rcases indexOf_spec f y with ⟨_, g⟩ | ⟨i, _, g, _⟩
    · exact g j hj e
    · omega
  refine ⟨fun i hi => ?_, fun i hi j hj => ?_, fun k hk x hx q hq hlt => ?_⟩
  · by_cases e : i < f.length
    · rw [ix_app e]; exact h.1 i e
    · have : i = f.length := by simp at hi; omega
      subst this
      rw [ix_snoc]; omega
  · by_cases e : i < f.length
    · rw [ix_app e, ix_app (show j < f.length by omega)]; exact h.2.1 i e j hj
    · have : i = f.length := by simp at hi; omega
      subst this
      rw [ix_snoc, ix_app hj]; exact hne j hj
  · simp at hx hq hlt
    rcases hfit k hk x hx q hq with g | ⟨g1, g2, g3⟩ | g
    · omega
    · have hp := h0 k hk x g1 q g2
      rw [ix_app g1, ix_app g2, ix_app (by omega)]
      exact h.2.2 k hk x g1 q g2 g3
    · exact g
theorem ext_no_has {n : Nat} {az bz : List (List (List Int))} {f : List Int} {y : Nat} (hf : ∀ i, i < f.length → 0 ≤ ix f i) (hln : f.length < n) (hh : hasB f y = true) : extL n az bz (f ++ [(y : Int)]) = [] := by
  refine extL_nil fun p hp he => ?_
  rw [← extP_snoc (by omega)] at he
  have := hasB_iff.1 hh
  rcases indexOf_spec f y with ⟨g, _⟩ | ⟨i, hi, _, e, _⟩
  · omega
  · have h1 := extP_get he.1 hf hi
    have := hp.inj (x := i) (y := f.length) (by omega) hln (by rw [h1, e, he.2])
    omega
theorem ext_no_colour {n : Nat} {az bz : List (List (List Int))} {f l r : List Int} {y : Nat} (hr : ∀ p, IsoOk n az bz p → ExtP f p → Resp n l r p) (hln : f.length < n) (hne : ix l f.length ≠ ix r y) : extL n az bz (f ++ [(y : Int)]) = [] := by
  refine extL_nil fun p hp he => ?_
  rw [← extP_snoc (by omega)] at he
  have := hr p hp he.1 f.length hln
  rw [he.2, Int.toNat_natCast] at this
  exact hne this
theorem ext_no_fit {n : Nat} {az bz : List (List (List Int))} {f : List Int} (hA : TabsOk n az) (hf : ∀ i, i < f.length → 0 ≤ ix f i) (hln : f.length ≤ n) {k x q : Nat} (hk : k < az.length) (hx : x < f.length) (hq : q < f.length) (hlt : ent (tab az k) x q < (f.length : Int))
    (hno : ix f (ent (tab az k) x q).toNat ≠ ent (tab bz k) (ix f x).toNat (ix f q).toNat) : extL n az bz f = [] := by
  refine extL_nil fun p hp he => ?_
  have h1 := hp.2.2 k hk x (by omega) q (by omega)
  have hb := hA.bd hk (show x < n by omega) (show q < n by omega)
  rw [extP_get he hf hx, extP_get he hf hq, extP_get he hf (show (ent (tab az k) x q).toNat < f.length by omega)] at h1
  exact hno h1
theorem resp_own {n : Nat} {az bz : List (List (List Int))} {f l r : List Int} {y : Nat} (hr : ∀ p, IsoOk n az bz p → ExtP f p → Resp n l r p) (hl : l.length = n) (hrl : r.length = n) (hln : f.length < n) (hy : y < n) {p : List Int} (hp : IsoOk n az bz p) (he : ExtP (f ++ [(y : Int)]) p) : Resp n (l.set f.length 60) (r.set y 60) p := fun z hz => by
  rw [← extP_snoc (by omega)] at he
  have hb := hp.bd hz
  have set_ix : ∀ (c : List Int) (i j : Nat), j < c.length → ix (c.set i 60) j = if i = j then 60 else ix c j := fun c i j hj => by
    rw [ix_eq, ix_eq]
    by_cases h : i = j
    · subst h; simp [List.getD, hj]
    · simp [List.getD, h, List.getElem?_set_ne]
  rw [set_ix _ _ _ (by omega), set_ix _ _ _ (by omega)]
  by_cases e : f.length = z
  · subst e
    rw [if_pos rfl, he.2, Int.toNat_natCast, if_pos rfl]
  · rw [if_neg e, if_neg (fun e2 => e (hp.inj hln hz (by rw [he.2]; omega)))]
    exact hr p hp he.1 z hz
theorem colOk_set {n : Nat} {l : List Int} (h : ColOk n l) (i : Nat) : ColOk n (l.set i 60) := by
  refine ⟨by rw [List.length_set]; exact h.1, fun j hj => ?_⟩
  have := h.2 j hj
  rw [ix_eq] at this ⊢
  by_cases e : i = j
  · subst e
    have : i < l.length := by rw [h.1]; exact hj
    simp [List.getD, this]
  · simp [List.getD, e, List.getElem?_set_ne] at this ⊢
    exact this
theorem take_round {α : Type} (s B X : List α) (most : Nat) (h1 : s.length ≤ most) (h : (s ++ B.take (most - s.length)).length < most) :
    (s ++ B.take (most - s.length)) ++ X.take (most - (s ++ B.take (most - s.length)).length) = s ++ (B ++ X).take (most - s.length) := by
  rw [List.length_append, List.length_take] at h
  have hB : B.length < most - s.length := by omega
  rw [List.take_of_length_le (show B.length ≤ most - s.length by omega), List.append_assoc, List.length_append, List.take_append]
  congr 2
  · rw [List.take_of_length_le (by omega)]
  · congr 1; omega
theorem take_full {α : Type} (s B X : List α) (most : Nat) (h1 : s.length ≤ most) (h : ¬ (s ++ B.take (most - s.length)).length < most) : s ++ B.take (most - s.length) = s ++ (B ++ X).take (most - s.length) := by
  rw [List.length_append, List.length_take] at h
  rw [List.take_append_of_le_length (by omega)]
theorem below_split {M : List (List Int)} {x : Nat} (k : Nat) (h : M.Pairwise fun p q => ix p x ≤ ix q x) : ∃ X, M = below M x k ++ X := by
  unfold below
  induction M with
  | nil => exact ⟨[], rfl⟩
  | cons a M ih =>
    rw [List.pairwise_cons] at h
    obtain ⟨X, hX⟩ := ih h.2
    by_cases g : ix a x < (k : Int)
    · rw [List.filter_cons_of_pos (by simpa using g)]
      refine ⟨X, ?_⟩
      rw [List.cons_append, ← hX]
    · refine ⟨a :: M, ?_⟩
      rw [List.filter_cons_of_neg (by simpa using g)]
      have : M.filter (fun p => decide (ix p x < (k : Int))) = [] := by
        rw [List.filter_eq_nil_iff]
        intro p hp
        have := h.1 p hp
        simp; omega
      rw [this]; rfl
end Go.Proofs.YthlafeefjonkdaaGreatDoor


namespace Go.Proofs.YthlafeefjonkdaaGreatDoor
set_option linter.unusedVariables false
set_option linter.unusedSimpArgs false

def SortedTo (l : List Int) (i : Nat) : Prop := ∀ a b, a < b → b < i → ix l a ≤ ix l b
def InnerTo (l : List Int) (i j : Nat) : Prop := (∀ a b, a < b → b ≤ i → a ≠ j → b ≠ j → ix l a ≤ ix l b) ∧ ∀ b, j < b → b ≤ i → ix l j ≤ ix l b
theorem SortedTo.one (l : List Int) : SortedTo l 1 := fun a b h1 h2 => by omega
theorem SortedTo.inner {l : List Int} {i : Nat} (h : SortedTo l i) : InnerTo l i i := ⟨fun a b h1 h2 h3 h4 => h a b h1 (by omega), fun b h1 h2 => by omega⟩
@[irreducible] def swapL (l : List Int) (j : Nat) : List Int := (l.set (j + 1) (ix l j)).set j (ix l (j + 1))
theorem length_swapL (l : List Int) (j : Nat) : (swapL l j).length = l.length := by unfold swapL; simp
theorem ix_set (l : List Int) (i j : Nat) (v : Int) (hj : j < l.length) : ix (l.set i v) j = if i = j then v else ix l j := by
  rw [ix_eq, ix_eq]
  by_cases h : i = j
  · subst h; simp [List.getD, hj]
  · simp [List.getD, h, List.getElem?_set_ne]
theorem ix_swapL (l : List Int) (j i : Nat) (hj : j + 1 < l.length) (hi : i < l.length) : ix (swapL l j) i = if i = j then ix l (j + 1) else if i = j + 1 then ix l j else ix l i := by
  unfold swapL
  rw [ix_set _ _ _ _ (by simp; omega)]
  by_cases h : j = i
  · subst h; simp
  · rw [if_neg h, if_neg (by omega), ix_set _ _ _ _ hi]
    by_cases h2 : j + 1 = i
    · subst h2; simp
    · rw [if_neg h2, if_neg (by omega)]
theorem swapL_perm (l : List Int) (j : Nat) (hj : j + 1 < l.length) : (swapL l j).Perm l := by
  have e1 : ix l j = l[j] := by rw [ix_eq]; simp [List.getD, show j < l.length by omega]
  have e2 : ix l (j + 1) = l[j + 1] := by rw [ix_eq]; simp [List.getD, hj]
  unfold swapL
  rw [e1, e2]
  exact List.set_set_perm hj (by omega)
theorem InnerTo.step {l : List Int} {i j : Nat} (h : InnerTo l i (j + 1)) (hi : i < l.length) (hj : j + 1 ≤ i) (hlt : ix l (j + 1) < ix l j) : InnerTo (swapL l j) i j := by
  refine ⟨fun a b h1 h2 h3 h4 => ?_, fun b h1 h2 => ?_⟩
  · rw [ix_swapL l j a (by omega) (by omega), ix_swapL l j b (by omega) (by omega), if_neg h3, if_neg h4]
    by_cases ha : a = j + 1
    · subst ha
      rw [if_pos rfl, if_neg (by omega)]
      exact h.1 j b (by omega) h2 (by omega) (by omega)
    · rw [if_neg ha]
      by_cases hb : b = j + 1
      · subst hb
        rw [if_pos rfl]
        have : a < j := by omega
        exact h.1 a j this (by omega) ha (by omega)
      · rw [if_neg hb]
        exact h.1 a b h1 h2 ha hb
  · rw [ix_swapL l j j (by omega) (by omega), ix_swapL l j b (by omega) (by omega), if_pos rfl, if_neg (by omega)]
    by_cases hb : b = j + 1
    · subst hb; rw [if_pos rfl]; omega
    · rw [if_neg hb]
      exact h.2 b (by omega) h2
theorem InnerTo.zero {l : List Int} {i : Nat} (h : InnerTo l i 0) : SortedTo l (i + 1) := fun a b h1 h2 => by
  by_cases ha : a = 0
  · subst ha; exact h.2 b h1 (by omega)
  · exact h.1 a b h1 (by omega) ha (by omega)
theorem InnerTo.stop {l : List Int} {i j : Nat} (h : InnerTo l i (j + 1)) (hle : ix l j ≤ ix l (j + 1)) : SortedTo l (i + 1) := fun a b h1 h2 => by
  by_cases ha : a = j + 1
  · subst ha; exact h.2 b h1 (by omega)
  · by_cases hb : b = j + 1
    · subst hb
      by_cases hj : a = j
      · subst hj; exact hle
      · have := h.1 a j (by omega) (by omega) ha (by omega)
        omega
    · exact h.1 a b h1 (by omega) ha hb
theorem SortedTo.pairwise {l : List Int} (h : SortedTo l l.length) : l.Pairwise (· ≤ ·) := by
  rw [List.pairwise_iff_getElem]
  intro i j hi hj hij
  have := h i j hij hj
  rw [ix_eq, ix_eq] at this
  simpa [List.getD, hi, hj] using this
theorem sorted_done {l m : List Int} {i : Nat} (hp : l.Perm m) (h : SortedTo l i) (hi : l.length ≤ i) : l = sortI m :=
  sortI_eq hp (SortedTo.pairwise fun a b h1 h2 => h a b h1 (by omega))

@[irreducible] def cntV (ts : List (List (List Int))) (K x n j z i : Nat) : Value := .int .i64 ((if i < j then cntN ts K x i n else if i = j then cntN ts K x j z else 0 : Nat) : Int)
theorem cntV_zero (ts : List (List (List Int))) (K x n i : Nat) : cntV ts K x n 0 0 i = .int .i64 0 := by
  unfold cntV
  rw [cntN_zero]; simp
theorem cntV_next (ts : List (List (List Int))) (K x n j i : Nat) : cntV ts K x n j n i = cntV ts K x n (j + 1) 0 i := by
  unfold cntV
  rw [cntN_zero]
  congr 2
  by_cases h : i = j
  · subst h; simp
  · by_cases h2 : i < j
    · rw [if_pos h2, if_pos (by omega)]
    · rw [if_neg h2, if_neg h, if_neg (by omega)]; simp
theorem cntV_own (ts : List (List (List Int))) (K x n j z : Nat) : cntV ts K x n j z j = .int .i64 (cntN ts K x j z : Nat) := by
  unfold cntV; simp
theorem cntV_done (ts : List (List (List Int))) (K x n i : Nat) (h : i < n) : cntV ts K x n n 0 i = .int .i64 (cntN ts K x i n : Nat) := by
  unfold cntV; rw [if_pos h]
theorem cntV_hit (ts : List (List (List Int))) (K x n j z i : Nat) (h : ent (tab ts K) j z = (x : Int)) : cntV ts K x n j (z + 1) i = if i = j then .int .i64 ((cntN ts K x j z : Nat) + 1) else cntV ts K x n j z i := by
  unfold cntV
  rw [cntN_succ, if_pos h]
  by_cases hi : i = j
  · subst hi; simp
  · rw [if_neg hi, if_neg hi, if_neg hi]
theorem cntV_miss (ts : List (List (List Int))) (K x n j z i : Nat) (h : ¬ ent (tab ts K) j z = (x : Int)) : cntV ts K x n j (z + 1) i = cntV ts K x n j z i := by
  unfold cntV
  rw [cntN_succ, if_neg h, Nat.add_zero]
end Go.Proofs.YthlafeefjonkdaaGreatDoor


namespace Go.Proofs.YthlafeefjonkdaaGreatDoor
set_option linter.unusedVariables false
set_option linter.unusedSimpArgs false
open Go.RowKit


theorem l01Turn_p (t : List (List Int)) (v : Value) (w : World) (hv : Rows w v t) (hT : TableOk t) :
    Calls Tryz.prog 57 #[v] w fun e w' => ∃ v, e = .returned v ∧ RowsP (fun k => w.heap.size ≤ k) w' v (turnT t) ∧ Ext w w' := by
  obtain ⟨hlen, b, o, c, rfl, hc⟩ := id hv
  have HLT := Lib.hid (length_turnT t)
  go_enter Tryz.func57, Tryz.ntmps57
  go_wp2
  have hx0 : Ext w (w.alloc (.cells #[] 29)) := (Ext.refl _).alloc _
  have hg0 := GrowP.lit (e := 29) (base := w.heap.size) (w := w) (Nat.le_refl _)
  go_loopw [3, 4] (fun v x wr => ∃ k : Nat, k ≤ t.length ∧ x = .int .i64 k ∧ GrowP 29 w.heap.size wr v ((turnT t).take k) ∧ v ≠ .slice none 0 0 ∧ Ext w wr) (fun _ x _ => t.length - (intOf x).toNat)
  case atStart => exact ⟨0, Nat.zero_le _, rfl, hg0, by simp, hx0⟩
  case round =>
    clear hx0 hg0
    obtain ⟨k, hk, rfl, hg, hv', hx⟩ := hrel
    have HV := Lib.hid hv'
    clear hv'
    by_cases hkl : k < t.length
    case neg =>
      go_wp2
      go_ret
      refine ⟨u3, rfl, ?_, hx⟩
      have : (turnT t).take k = turnT t := List.take_of_length_le (by rw [HLT.out]; omega)
      rw [this] at hg
      exact hg.rowsP (by rw [HLT.out]; omega) HV.out
    case pos =>
      have HO := Lib.hid hg.lt
      have HRL := Lib.hid (length_row_turnT t k hkl)
      obtain ⟨w2, rfl⟩ : ∃ w2 : World, w2 = wr := ⟨_, rfl⟩
      go_wp2_with fail
      refine (l01Column_any t _ k _ (hv.ext hx) hT hkl).mono ?_
      rintro e w3 ⟨br, cr, rfl, hri, hrb, hrb2, hx2⟩
      have hgw := hg.ext hx2
      have hne : some br ≠ u3.ownBlock := fun e => by have := HO.out br e.symm; omega
      have htl : ((turnT t).take k).length = k := by rw [List.length_take, HLT.out]; omega
      have HTL := Lib.hid htl
      clear htl hg
      go_wp2_with (at_builtin; refine wpList_append_row_p rfl _ _ 24 29 rfl Tryz.underlying24 infoSl w.heap.size _ _ rfl (hgw.ext (ext_box _ _ _)) _ br cr (row (turnT t) k) rfl (by rw [HRL.out]; exact cell_new _ _ _) (hri.ext (ext_box _ _ _)) (by rw [HRL.out]; omega) (by have := hx.size; omega) hne (by rw [HTL.out]; omega) (by have := hx.size; have := hx2.size; simp; omega) ?_)
      intro v' w4 hg3 hgr hv3
      have hx3 : Ext w w4 := (hx.trans (hx2.trans (ext_box _ _ _))).grown hgr (hgw.ext (ext_box _ _ _)).own.choose_spec (Nat.le_refl _)
      clear hgr hne hgw
      go_wp2
      go_roundw
      case rel => exact ⟨k + 1, by omega, by go_num, by rw [take_row _ _ (by rw [HLT.out]; exact hkl)]; exact hg3, hv3, hx3⟩
      case measure => simp [intOf]; omega
end Go.Proofs.YthlafeefjonkdaaGreatDoor
