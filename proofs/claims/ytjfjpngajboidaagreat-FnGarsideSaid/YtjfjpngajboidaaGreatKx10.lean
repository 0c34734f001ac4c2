/-
  A row is put into a list of rows at its place, by append and shifts: lists and memory. No program in sight.
-/
import Derived.OneCell
import Derived.Test.YtjfjpngajboidaaGreatKx9
namespace Go.Proofs.YtjfjpngajboidaaGreat
set_option linter.unusedVariables false
set_option linter.unusedSimpArgs false
open Go.RowKit

def shV {α : Type} (xs : List α) (x : α) (k : Nat) : List α := (xs ++ [x]).take (k + 1) ++ xs.drop k
theorem length_shV {α : Type} (xs : List α) (x : α) {k : Nat} (hk : k ≤ xs.length) : (shV xs x k).length = xs.length + 1 := by
  unfold shV; simp; omega
theorem shV_start {α : Type} (xs : List α) (x : α) : shV xs x xs.length = xs ++ [x] := by
  unfold shV
  rw [List.take_of_length_le (by simp), List.drop_of_length_le (Nat.le_refl _), List.append_nil]
theorem shV_at {α : Type} (xs : List α) (x : α) {k : Nat} (h0 : 0 < k) (hk : k ≤ xs.length) : (shV xs x k)[k - 1]? = xs[k - 1]? := by
  unfold shV
  rw [List.getElem?_append_left (by simp; omega), List.getElem?_take, if_pos (by omega), List.getElem?_append_left (by omega)]
theorem shV_step {α : Type} (xs : List α) (x v : α) {k : Nat} (h0 : 0 < k) (hk : k ≤ xs.length) (hv : xs[k - 1]? = some v) : (shV xs x k).set k v = shV xs x (k - 1) := by
  have hlt : k - 1 < xs.length := by omega
  have hv' : xs[k - 1] = v := by rw [List.getElem?_eq_getElem hlt] at hv; exact Option.some.inj hv
  apply List.ext_getElem?
  intro i
  rw [List.getElem?_set]
  unfold shV
  by_cases h1 : k = i
  · subst h1
    have hl : k < ((xs ++ [x]).take (k + 1) ++ xs.drop k).length := by simp; omega
    rw [if_pos rfl, if_pos hl, List.getElem?_append_right (by simp; omega)]
    have e : k - ((xs ++ [x]).take (k - 1 + 1)).length = 0 := by simp; omega
    rw [e, List.getElem?_drop, Nat.add_zero, hv]
  · rw [if_neg h1]
    by_cases h2 : i < k
    · rw [List.getElem?_append_left (by simp; omega), List.getElem?_append_left (by simp; omega), List.getElem?_take, List.getElem?_take, if_pos (by omega), if_pos (by omega)]
    · rw [List.getElem?_append_right (by simp; omega), List.getElem?_append_right (by simp; omega), List.getElem?_drop, List.getElem?_drop]
      congr 1
      simp
      omega
theorem shV_end {α : Type} (xs : List α) (x : α) {k : Nat} (hk : k ≤ xs.length) : (shV xs x k).set k x = xs.take k ++ ([x] ++ xs.drop k) := by
  apply List.ext_getElem?
  intro i
  rw [List.getElem?_set]
  unfold shV
  by_cases h1 : k = i
  · subst h1
    have hl : k < ((xs ++ [x]).take (k + 1) ++ xs.drop k).length := by simp; omega
    rw [if_pos rfl, if_pos hl, List.getElem?_append_right (by simp; omega)]
    have e : k - (xs.take k).length = 0 := by simp; omega
    rw [e]; rfl
  · rw [if_neg h1]
    by_cases h2 : i < k
    · rw [List.getElem?_append_left (by simp; omega), List.getElem?_append_left (by simp; omega), List.getElem?_take, List.getElem?_take, if_pos (by omega), if_pos h2, List.getElem?_append_left (by omega)]
    · rw [List.getElem?_append_right (by simp; omega), List.getElem?_append_right (by simp; omega), List.getElem?_append_right (by simp; omega), List.getElem?_drop, List.getElem?_drop]
      congr 1
      simp
      omega

theorem XS.put {w : World} {xs : List Value} {s : List (List Int)} {x : Value} {p : List Int} (h : XS w xs s) (hx : Ints w x p) (k : Nat) : XS w (xs.take k ++ ([x] ++ xs.drop k)) (s.take k ++ ([p] ++ s.drop k)) :=
  (h.take k).append ((XS.one hx).append (h.drop k))
theorem XS.slice {w : World} {xs : List Value} {s : List (List Int)} (h : XS w xs s) {i : Nat} {x : Value} (hi : xs[i]? = some x) : ∃ p n c, x = .slice p n c := by
  have hlt : i < s.length := by rw [← h.1]; exact (List.getElem?_eq_some_iff.1 hi).1
  obtain ⟨y, h1, hl, b, o, cc, rfl, h2⟩ := h.2 i hlt
  rw [hi] at h1
  exact ⟨_, _, _, Option.some.inj h1⟩
theorem shV_mem {α : Type} {xs : List α} {x : α} {k : Nat} {y : α} (h : y ∈ shV xs x k) : y ∈ xs ∨ y = x := by
  unfold shV at h
  rcases List.mem_append.1 h with e | e
  · rcases List.mem_append.1 (List.mem_of_mem_take e) with e | e
    · exact .inl e
    · exact .inr (List.mem_singleton.1 e)
  · exact .inl (List.mem_of_mem_drop e)
theorem wpList_append_one {P : Program} {w : World} {ops : Array Oper} {rest : List Oper} {o : Oper} {a : Act} {Q : Exit → Act → World → Prop} (hgd : o.guard = none) (s x : Operand) (t e : TypeId)
    (ho : o.op = .call { callee := .builtin .append, args := #[s, x], argTypes := #[t, t] }) (ht : P.underlying t = some (.slice e)) (hinfo : (P.info? e).map (fun i => (i.zero, i.size, i.bytes)) = some (some (.slice none 0 0), 1, 24))
    (base : Nat) (v : Value) (n : Nat) (xs : List Value) (hs : a.eval s = v) (hown : w.ownsRow base e 1 v n xs) (g : Nat) (y : Value) (hy : y.oneCell' = true) (hx : a.eval x = .slice (some ⟨g, 0, none⟩) 1 1) (hc : w.cell? ⟨g, 0, none⟩ = some y)
    (hl : n ≤ 1048576) (hbase : base ≤ w.heap.size)
    (h : ∀ v' w', w'.ownsRow base e 1 v' (n + 1) (xs ++ [y]) → w.grownBy w' v.ownBlock → v' ≠ .slice none 0 0 → (v'.ownBlock = v.ownBlock ∨ v'.ownBlock = some w.heap.size) → wpList P ops Q rest (a.put o.dst v') w') : wpList P ops Q (o :: rest) a w := by
  obtain ⟨i0, hi, hz0, hz1, hz2⟩ := info_parts hinfo
  refine wpList_append_own_at w hgd s x t ho base _ i0 (.slice none 0 0) 1 24 ht hi hz0 hz1 hz2 rfl (by decide) v n xs hs hown ⟨g, 0, none⟩ 1 1 [y] hx rfl ?_ ?_ (by unfold maxLen; omega) (by omega) hbase ?_
  · intro j u hj
    match j, hj with
    | 0, hj => simp at hj; subst hj; simpa [Addr.add] using hc
  · intro u hu; simp at hu; subst hu; exact hy
  · intro v' w' k1 k2 k3 k4
    exact h v' w' k1 k2 (fun e => by have := k3.1 e; simp at this) k4
theorem grownBy_then {w w3 w' : World} {g g' : Nat} (h : w.grownBy w3 (some g)) (k : w3.grownBy w' (some g')) (hg : g' = g ∨ w.heap.size ≤ g') : w.grownBy w' (some g) :=
  ⟨k.os.trans h.os, k.tape.trans h.tape, k.output.trans h.output, Nat.le_trans h.size k.size, fun j hj hne => (k.block j (by have := h.size; omega) (fun e => by
    injection e with e
    rcases hg with hg | hg
    · exact hne (by rw [e, hg])
    · omega)).trans (h.block j hj hne)⟩
theorem grownBy_ofExt {w w' : World} {r : Option Nat} (h : Ext w w') : w.grownBy w' r := ⟨h.os, h.tape, h.output, h.size, fun k hk _ => h.block k hk⟩
theorem grownBy_refl (w : World) (r : Option Nat) : w.grownBy w r := ⟨rfl, rfl, rfl, Nat.le_refl _, fun _ _ _ => rfl⟩
end Go.Proofs.YtjfjpngajboidaaGreat


namespace Go.Proofs.YtjfjpngajboidaaGreat
set_option linter.unusedVariables false
set_option linter.unusedSimpArgs false
open Go.RowKit

def RK (lo : Nat) (D : Nat → Prop) (w : World) (x : Value) (l : List Int) : Prop :=
  l.length ≤ 1048576 ∧ ∃ b c, x = .slice (some ⟨b, 0, none⟩) l.length c ∧ l.length ≤ c ∧ lo ≤ b ∧ b < w.heap.size ∧ ¬ D b ∧ IntsAt w b 0 l
theorem RK.ext {lo : Nat} {D : Nat → Prop} {w w' : World} {x : Value} {l : List Int} (h : RK lo D w x l) (hx : Ext w w') : RK lo D w' x l := by
  obtain ⟨h0, b, c, rfl, h1, h2, h3, h4, h5⟩ := h
  exact ⟨h0, b, c, rfl, h1, h2, Nat.lt_of_lt_of_le h3 hx.size, h4, h5.ext hx⟩
theorem RK.grown {lo : Nat} {D : Nat → Prop} {w w' : World} {x : Value} {l : List Int} {g : Nat} (h : RK lo D w x l) (hg : w.grownBy w' (some g)) (hD : D g) : RK lo D w' x l := by
  obtain ⟨h0, b, c, rfl, h1, h2, h3, h4, h5⟩ := h
  exact ⟨h0, b, c, rfl, h1, h2, Nat.lt_of_lt_of_le h3 hg.size, h4, intsAt_grown h5 hg (fun _ e => h4 (by rw [Option.some.inj e]; exact hD))⟩
theorem RK.mono {lo lo' : Nat} {D D' : Nat → Prop} {w : World} {x : Value} {l : List Int} (h : RK lo D w x l) (hl : lo' ≤ lo) (hD : ∀ b, lo ≤ b → b < w.heap.size → D' b → D b) : RK lo' D' w x l := by
  obtain ⟨h0, b, c, rfl, h1, h2, h3, h4, h5⟩ := h
  exact ⟨h0, b, c, rfl, h1, Nat.le_trans hl h2, h3, fun k => h4 (hD b h2 h3 k), h5⟩
theorem RK.ints {lo : Nat} {D : Nat → Prop} {w : World} {x : Value} {l : List Int} (h : RK lo D w x l) : Ints w x l := by
  obtain ⟨h0, b, c, rfl, h1, h2, h3, h4, h5⟩ := h
  exact h5.ints h0 c
theorem RK.cell {lo : Nat} {D : Nat → Prop} {w : World} {x : Value} {l : List Int} (h : RK lo D w x l) : x.oneCell' = true := by
  obtain ⟨h0, b, c, rfl, h1⟩ := h
  rfl
def XK (lo : Nat) (D : Nat → Prop) (w : World) (xs : List Value) (s : List (List Int)) : Prop := xs.length = s.length ∧ ∀ i, i < s.length → ∃ x, xs[i]? = some x ∧ RK lo D w x (row s i)
section
variable {lo lo' : Nat} {D D' : Nat → Prop} {w w' : World} {xs ys : List Value} {s t : List (List Int)} {x : Value} {l : List Int}
theorem XK.imp {lo lo' : Nat} {D D' : Nat → Prop} {w w' : World} (h : XK lo D w xs s) (hf : ∀ x l, RK lo D w x l → RK lo' D' w' x l) : XK lo' D' w' xs s := ⟨h.1, fun i hi => by
  obtain ⟨x, h1, h2⟩ := h.2 i hi
  exact ⟨x, h1, hf _ _ h2⟩⟩
theorem XK.ext (h : XK lo D w xs s) (hx : Ext w w') : XK lo D w' xs s := h.imp fun _ _ k => k.ext hx
theorem XK.grown {g : Nat} (h : XK lo D w xs s) (hg : w.grownBy w' (some g)) (hD : D g) : XK lo D w' xs s := h.imp fun _ _ k => k.grown hg hD
theorem XK.mono (h : XK lo D w xs s) (hl : lo' ≤ lo) (hD : ∀ b, lo ≤ b → b < w.heap.size → D' b → D b) : XK lo' D' w xs s := h.imp fun _ _ k => k.mono hl hD
theorem XK.nil (lo : Nat) (D : Nat → Prop) (w : World) : XK lo D w [] [] := ⟨rfl, fun i hi => by simp at hi⟩
theorem XK.one (h : RK lo D w x l) : XK lo D w [x] [l] := ⟨rfl, fun i hi => by
  have : i = 0 := by simpa using hi
  subst this
  exact ⟨x, rfl, by rw [row_eq]; exact h⟩⟩
theorem XK.append (h : XK lo D w xs s) (k : XK lo D w ys t) : XK lo D w (xs ++ ys) (s ++ t) := by
  refine ⟨by simp [h.1, k.1], fun i hi => ?_⟩
  by_cases hs : i < s.length
  · obtain ⟨x, h1, h2⟩ := h.2 i hs
    refine ⟨x, by rw [List.getElem?_append_left (by rw [h.1]; exact hs)]; exact h1, ?_⟩
    rw [row_eq]
    rw [row_eq] at h2
    simpa [List.getD, List.getElem?_append_left hs] using h2
  · have hl : i - s.length < t.length := by simp at hi; omega
    obtain ⟨x, h1, h2⟩ := k.2 (i - s.length) hl
    refine ⟨x, by rw [List.getElem?_append_right (by rw [h.1]; omega), h.1]; exact h1, ?_⟩
    rw [row_eq]
    rw [row_eq] at h2
    simpa [List.getD, List.getElem?_append_right (Nat.le_of_not_lt hs)] using h2
theorem XK.take (h : XK lo D w xs s) (k : Nat) : XK lo D w (xs.take k) (s.take k) := by
  refine ⟨by simp [h.1], fun i hi => ?_⟩
  have hi' : i < k ∧ i < s.length := by rw [List.length_take] at hi; omega
  obtain ⟨x, h1, h2⟩ := h.2 i hi'.2
  refine ⟨x, by rw [List.getElem?_take, if_pos hi'.1]; exact h1, ?_⟩
  rw [row_eq]
  rw [row_eq] at h2
  simpa [List.getD, List.getElem?_take, hi'.1] using h2
theorem XK.drop (h : XK lo D w xs s) (k : Nat) : XK lo D w (xs.drop k) (s.drop k) := by
  refine ⟨by simp [h.1], fun i hi => ?_⟩
  have hi' : k + i < s.length := by rw [List.length_drop] at hi; omega
  obtain ⟨x, h1, h2⟩ := h.2 (k + i) hi'
  refine ⟨x, by rw [List.getElem?_drop]; exact h1, ?_⟩
  rw [row_eq]
  rw [row_eq] at h2
  simpa [List.getD, List.getElem?_drop] using h2
theorem XK.put (h : XK lo D w xs s) (hx : RK lo D w x l) (k : Nat) : XK lo D w (xs.take k ++ ([x] ++ xs.drop k)) (s.take k ++ ([l] ++ s.drop k)) := (h.take k).append ((XK.one hx).append (h.drop k))
theorem XK.cell (h : XK lo D w xs s) : ∀ u ∈ xs, u.oneCell' = true := by
  intro u hu
  obtain ⟨i, hi, rfl⟩ := List.mem_iff_getElem.1 hu
  obtain ⟨x, h1, h2⟩ := h.2 i (by rw [← h.1]; exact hi)
  rw [List.getElem?_eq_getElem hi] at h1
  rw [Option.some.inj h1]
  exact h2.cell
end
structure MineK (e lo : Nat) (D : Nat → Prop) (w : World) (g c : Nat) (xs : List Value) (t : List (List Int)) : Prop where
  own : w.ownsRow lo e 1 (.slice (some ⟨g, 0, none⟩) t.length c) t.length xs
  rows : XK lo (fun b => b = g ∨ D b) w xs t
section
variable {e lo : Nat} {D D' : Nat → Prop} {w w' : World} {g c : Nat} {xs : List Value} {t : List (List Int)} {x : Value} {l : List Int}
theorem MineK.at_g (h : MineK e lo D w g c xs t) : lo ≤ g ∧ g < w.heap.size := h.own.lt g rfl
theorem MineK.ext (h : MineK e lo D w g c xs t) (hx : Ext w w') : MineK e lo D w' g c xs t := ⟨ownsRow_ext h.own hx, h.rows.ext hx⟩
theorem MineK.mono (h : MineK e lo D w g c xs t) (hD : ∀ b, lo ≤ b → b < w.heap.size → D' b → D b) : MineK e lo D' w g c xs t :=
  ⟨h.own, h.rows.mono (Nat.le_refl _) fun b h1 h2 k => k.imp id (hD b h1 h2)⟩
theorem MineK.other (h : MineK e lo D w g c xs t) {k : Nat} (hg : w.grownBy w' (some k)) (hk : D k) (hne : g ≠ k) : MineK e lo D w' g c xs t :=
  ⟨World.ownsRow.kept h.own hg (.inr fun e => hne (Option.some.inj e)), h.rows.grown hg (.inr hk)⟩
theorem MineK.app (h : MineK e lo D w g c xs t) (hx : RK lo (fun b => b = g ∨ D b) w x l) {v' : Value} (ho : w'.ownsRow lo e 1 v' (t.length + 1) (xs ++ [x])) (hg : w.grownBy w' (some g)) (hv : v' ≠ .slice none 0 0) (hb : v'.ownBlock = some g ∨ v'.ownBlock = some w.heap.size) :
    ∃ g' c', v' = .slice (some ⟨g', 0, none⟩) (t ++ [l]).length c' ∧ MineK e lo D w' g' c' (xs ++ [x]) (t ++ [l]) ∧ (g' = g ∨ g' = w.heap.size) := by
  have hl : (t ++ [l]).length = t.length + 1 := by simp
  obtain ⟨g', c', rfl⟩ : ∃ g' c', v' = .slice (some ⟨g', 0, none⟩) (t.length + 1) c' := by
    rcases ho.2 with ⟨h, _⟩ | ⟨g', cap', cur, h, _⟩
    · exact absurd h hv
    · exact ⟨g', cap', h⟩
  have hb' : g' = g ∨ g' = w.heap.size := hb.imp (fun e => Option.some.inj (show some g' = some g from e)) (fun e => Option.some.inj (show some g' = some w.heap.size from e))
  refine ⟨g', c', by rw [hl], ⟨by rw [hl]; exact ho, ?_⟩, hb'⟩
  have hr : ∀ y m, RK lo (fun b => b = g ∨ D b) w y m → RK lo (fun b => b = g' ∨ D b) w' y m := fun y m k => by
    obtain ⟨h0, b, c, rfl, h1, h2, h3, h4, h5⟩ := k.grown hg (.inl rfl)
    obtain ⟨-, b2, c2, e2, -, -, h3', -⟩ := k
    simp only [Value.slice.injEq, Option.some.injEq, Addr.mk.injEq, and_true, true_and] at e2
    refine ⟨h0, b, c, rfl, h1, h2, h3, fun q => h4 ?_, h5⟩
    rcases q with q | q
    · rcases hb' with e | e
      · exact .inl (by rw [q, e])
      · omega
    · exact .inr q
  exact (h.rows.imp hr).append (XK.one (hr _ _ hx))
theorem MineK.lit {w : World} (D : Nat → Prop) (hb : lo ≤ w.heap.size) : MineK e lo D (w.alloc (.cells #[] e)) w.heap.size 0 [] [] :=
  ⟨World.ownsRow_made w #[] 0 hb (Nat.zero_le _) rfl, XK.nil _ _ _⟩
end
def RowsK (lo : Nat) (w : World) (v : Value) (t : List (List Int)) : Prop :=
  t.length ≤ 1048576 ∧ ∃ g c, v = .slice (some ⟨g, 0, none⟩) t.length c ∧ t.length ≤ c ∧ lo ≤ g ∧ g < w.heap.size ∧ ∀ i, i < t.length → ∃ x, w.cell? ⟨g, i, none⟩ = some x ∧ RK lo (fun b => b = g) w x (row t i)
theorem RowsK.rows {lo : Nat} {w : World} {v : Value} {t : List (List Int)} (h : RowsK lo w v t) : Rows w v t := by
  obtain ⟨h0, g, c, rfl, h1, h2, h3, h4⟩ := h
  refine ⟨h0, g, 0, c, rfl, fun i hi => ?_⟩
  obtain ⟨x, k1, k2⟩ := h4 i hi
  exact ⟨x, by rw [Nat.zero_add]; exact k1, k2.ints⟩
theorem RowsK.ext {lo : Nat} {w w' : World} {v : Value} {t : List (List Int)} (h : RowsK lo w v t) (hx : Ext w w') : RowsK lo w' v t := by
  obtain ⟨h0, g, c, rfl, h1, h2, h3, h4⟩ := h
  refine ⟨h0, g, c, rfl, h1, h2, Nat.lt_of_lt_of_le h3 hx.size, fun i hi => ?_⟩
  obtain ⟨x, k1, k2⟩ := h4 i hi
  exact ⟨x, hx.cell k1, k2.ext hx⟩
theorem RowsK.low {lo lo' : Nat} {w : World} {v : Value} {t : List (List Int)} (h : RowsK lo w v t) (hl : lo' ≤ lo) : RowsK lo' w v t := by
  obtain ⟨h0, g, c, rfl, h1, h2, h3, h4⟩ := h
  refine ⟨h0, g, c, rfl, h1, by omega, h3, fun i hi => ?_⟩
  obtain ⟨x, k1, k2⟩ := h4 i hi
  exact ⟨x, k1, k2.mono hl fun _ _ _ k => k⟩
theorem RowsK.get {lo : Nat} {w : World} {g c n : Nat} {t : List (List Int)} (h : RowsK lo w (.slice (some ⟨g, 0, none⟩) n c) t) {i : Nat} (hi : i < t.length) :
    ∃ b d, w.cell? ⟨g, i, none⟩ = some (.slice (some ⟨b, 0, none⟩) (row t i).length d) ∧ (row t i).length ≤ d ∧ lo ≤ b ∧ b < w.heap.size ∧ IntsAt w b 0 (row t i) ∧ (row t i).length ≤ 1048576 := by
  obtain ⟨h0, g', c', e, h1, h2, h3, h4⟩ := h
  simp only [Value.slice.injEq, Option.some.injEq, Addr.mk.injEq, and_true] at e
  obtain ⟨rfl, -, -⟩ := e
  obtain ⟨x, k1, k0, b, d, rfl, k2, k3, k4, k5, k6⟩ := h4 i hi
  exact ⟨b, d, k1, k2, k3, k4, k6, k0⟩
theorem MineK.toRows {e lo : Nat} {D : Nat → Prop} {w : World} {g c : Nat} {xs : List Value} {t : List (List Int)} (h : MineK e lo D w g c xs t) (hl : t.length ≤ 1048576) : RowsK lo w (.slice (some ⟨g, 0, none⟩) t.length c) t := by
  have hg := h.at_g
  have hc : t.length ≤ c := by
    rcases id h.own.2 with ⟨hv, _⟩ | ⟨g', cap, cur, hv, hb, hg, hnc, _⟩
    · cases hv
    · simp only [Value.slice.injEq, true_and] at hv
      obtain ⟨-, rfl⟩ := hv
      exact hnc
  refine ⟨hl, g, c, rfl, hc, hg.1, hg.2, fun i hi => ?_⟩
  obtain ⟨x, k1, k2⟩ := h.rows.2 i hi
  have := h.own.cells (g := g) rfl i x k1
  rw [Addr.add_lit, Nat.zero_add] at this
  exact ⟨x, this, k2.mono (Nat.le_refl _) fun b _ _ k => .inl k⟩
def NewK (l : List Int) (w : World) (e : Ending) (w' : World) : Prop := ∃ x, e = .returned x ∧ RK w.heap.size (fun _ => False) w' x l ∧ Ext w w'
end Go.Proofs.YtjfjpngajboidaaGreat


namespace Go.Proofs.YtjfjpngajboidaaGreat
set_option linter.unusedVariables false
set_option linter.unusedSimpArgs false
open Go.RowKit

section
variable {e lo : Nat} {D D' : Nat → Prop} {w w' : World} {g c : Nat} {xs ys : List Value} {t s : List (List Int)} {x : Value} {l : List Int}
theorem RK.grownTo (h : RK lo (fun b => b = g ∨ D b) w x l) (hg : w.grownBy w' (some g)) {g' : Nat} (hb : g' = g ∨ w.heap.size ≤ g') : RK lo (fun b => b = g' ∨ D b) w' x l := by
  obtain ⟨h0, b, c, rfl, h1, h2, h3, h4, h5⟩ := h.grown hg (.inl rfl)
  obtain ⟨-, b2, c2, e2, -, -, h3', -⟩ := h
  simp only [Value.slice.injEq, Option.some.injEq, Addr.mk.injEq, and_true, true_and] at e2
  refine ⟨h0, b, c, rfl, h1, h2, h3, fun q => h4 ?_, h5⟩
  rcases q with q | q
  · rcases hb with e | e
    · exact .inl (by rw [q, e])
    · omega
  · exact .inr q
theorem MineK.put (h : MineK e lo D w g c xs t) (hx : RK lo (fun b => b = g ∨ D b) w x l) {k g' c' : Nat} (hk : k ≤ t.length)
    (ho : w'.ownsRow lo e 1 (.slice (some ⟨g', 0, none⟩) (t.length + 1) c') (t.length + 1) (xs.take k ++ ([x] ++ xs.drop k))) (hv : g' = g ∨ w.heap.size ≤ g') (hg : w.grownBy w' (some g)) :
    (t.take k ++ ([l] ++ t.drop k)).length = t.length + 1 ∧ MineK e lo D w' g' c' (xs.take k ++ ([x] ++ xs.drop k)) (t.take k ++ ([l] ++ t.drop k)) := by
  have hl : (t.take k ++ ([l] ++ t.drop k)).length = t.length + 1 := by simp; omega
  exact ⟨hl, by rw [hl]; exact ho, (h.rows.put hx k).imp fun _ _ q => q.grownTo hg hv⟩
theorem MineK.apps (h : MineK e lo D w g c xs t) (hy : XK lo (fun b => b = g ∨ D b) w ys s) {v' : Value} (ho : w'.ownsRow lo e 1 v' (t.length + s.length) (xs ++ ys)) (hg : w.grownBy w' (some g)) (hv : v' ≠ .slice none 0 0) (hb : v'.ownBlock = some g ∨ v'.ownBlock = some w.heap.size) :
    ∃ g' c', v' = .slice (some ⟨g', 0, none⟩) (t ++ s).length c' ∧ MineK e lo D w' g' c' (xs ++ ys) (t ++ s) ∧ (g' = g ∨ g' = w.heap.size) := by
  have hl : (t ++ s).length = t.length + s.length := by simp
  obtain ⟨g', c', rfl⟩ : ∃ g' c', v' = .slice (some ⟨g', 0, none⟩) (t.length + s.length) c' := by
    rcases ho.2 with ⟨h, _⟩ | ⟨g', cap', cur, h, _⟩
    · exact absurd h hv
    · exact ⟨g', cap', h⟩
  have hb' : g' = g ∨ g' = w.heap.size := hb.imp (fun e => Option.some.inj (show some g' = some g from e)) (fun e => Option.some.inj (show some g' = some w.heap.size from e))
  refine ⟨g', c', by rw [hl], ⟨by rw [hl]; exact ho, ?_⟩, hb'⟩
  exact (h.rows.append hy).imp fun _ _ q => q.grownTo hg (hb'.imp id fun e => by omega)
theorem MineK.otherTo {k k' : Nat} (h : MineK e lo (fun b => b = k) w g c xs t) (hg : w.grownBy w' (some k)) (hne : g ≠ k) (hk : k' = k ∨ w.heap.size ≤ k') : MineK e lo (fun b => b = k') w' g c xs t := by
  have h1 := h.mono (D' := fun b => b = k ∨ b = k') (fun b _ hb q => by
    rcases q with q | q
    · exact q
    · rcases hk with e | e
      · rw [q, e]
      · omega)
  have h2 := h1.other hg (.inl rfl) hne
  exact h2.mono fun b _ _ q => .inr q
end
end Go.Proofs.YtjfjpngajboidaaGreat


namespace Go.Proofs.YtjfjpngajboidaaGreat
set_option linter.unusedVariables false
set_option linter.unusedSimpArgs false
open Go.RowKit

structure ListK (e lo : Nat) (D : Nat → Prop) (w : World) (v : Value) (xs : List Value) (t : List (List Int)) : Prop where
  own : w.ownsRow lo e 1 v t.length xs
  rows : XK lo (fun b => v.ownBlock = some b ∨ D b) w xs t
section
variable {e lo : Nat} {D D' : Nat → Prop} {w w' : World} {v : Value} {xs ys : List Value} {t s : List (List Int)} {x : Value} {l : List Int}
theorem RK.grownOpt {ob : Option Nat} (h : RK lo (fun b => ob = some b ∨ D b) w x l) (hg : w.grownBy w' ob) {ob' : Option Nat} (hb : ob' = ob ∨ ob' = some w.heap.size) : RK lo (fun b => ob' = some b ∨ D b) w' x l := by
  obtain ⟨h0, b, c, rfl, h1, h2, h3, h4, h5⟩ := h
  refine ⟨h0, b, c, rfl, h1, h2, Nat.lt_of_lt_of_le h3 hg.size, ?_, intsAt_grown h5 hg (fun _ e => h4 (.inl e.symm))⟩
  intro q
  rcases q with q | q
  · rcases hb with e | e
    · exact h4 (.inl (by rw [← e]; exact q))
    · rw [e] at q
      have := Option.some.inj q
      omega
  · exact h4 (.inr q)
theorem ListK.nil (e lo : Nat) (D : Nat → Prop) (w : World) : ListK e lo D w (.slice none 0 0) [] [] := ⟨⟨rfl, .inl ⟨rfl, rfl⟩⟩, XK.nil _ _ _⟩
theorem ListK.ext (h : ListK e lo D w v xs t) (hx : Ext w w') : ListK e lo D w' v xs t := ⟨ownsRow_ext h.own hx, h.rows.ext hx⟩
theorem ListK.mono (h : ListK e lo D w v xs t) (hD : ∀ b, lo ≤ b → b < w.heap.size → D' b → D b) : ListK e lo D' w v xs t :=
  ⟨h.own, h.rows.mono (Nat.le_refl _) fun b h1 h2 k => k.imp id (hD b h1 h2)⟩
theorem ListK.apps (h : ListK e lo D w v xs t) (hy : XK lo (fun b => v.ownBlock = some b ∨ D b) w ys s) {v' : Value} (ho : w'.ownsRow lo e 1 v' (t.length + s.length) (xs ++ ys)) (hg : w.grownBy w' v.ownBlock) (hb : v'.ownBlock = v.ownBlock ∨ v'.ownBlock = some w.heap.size) : ListK e lo D w' v' (xs ++ ys) (t ++ s) :=
  ⟨by rw [List.length_append]; exact ho, (h.rows.append hy).imp fun _ _ q => q.grownOpt hg hb⟩
theorem ListK.app (h : ListK e lo D w v xs t) (hx : RK lo (fun b => v.ownBlock = some b ∨ D b) w x l) {v' : Value} (ho : w'.ownsRow lo e 1 v' (t.length + 1) (xs ++ [x])) (hg : w.grownBy w' v.ownBlock) (hb : v'.ownBlock = v.ownBlock ∨ v'.ownBlock = some w.heap.size) : ListK e lo D w' v' (xs ++ [x]) (t ++ [l]) :=
  h.apps (XK.one hx) ho hg hb
theorem ListK.shape (h : ListK e lo D w v xs t) : ∃ a c, v = .slice a t.length c := by
  rcases h.own.2 with ⟨rfl, hn⟩ | ⟨g, cap, cur, hv, _⟩
  · exact ⟨none, 0, by rw [hn]⟩
  · exact ⟨_, _, hv⟩
theorem ListK.lt (h : ListK e lo D w v xs t) (k : Nat) (hk : v.ownBlock = some k) : lo ≤ k ∧ k < w.heap.size := h.own.lt k hk
theorem ListK.mine (h : ListK e lo D w v xs t) (hp : 0 < t.length) : ∃ g c, v = .slice (some ⟨g, 0, none⟩) t.length c ∧ MineK e lo D w g c xs t := by
  rcases id h.own.2 with ⟨rfl, hn⟩ | ⟨g, cap, cur, rfl, _⟩
  · omega
  · exact ⟨g, cap, rfl, h.own, h.rows.mono (Nat.le_refl _) fun b _ _ k => k.imp (fun e => by rw [e]; rfl) id⟩
theorem MineK.list {g c : Nat} (h : MineK e lo D w g c xs t) : ListK e lo D w (.slice (some ⟨g, 0, none⟩) t.length c) xs t :=
  ⟨h.own, h.rows.mono (Nat.le_refl _) fun b _ _ k => k.imp (fun e => (Option.some.inj (show some g = some b from e)).symm) id⟩
theorem ListK.other (h : ListK e lo D w v xs t) {k : Nat} (hg : w.grownBy w' (some k)) (hk : D k) (hne : v.ownBlock ≠ some k) : ListK e lo D w' v xs t :=
  ⟨World.ownsRow.kept h.own hg (.inr hne), h.rows.grown hg (.inr hk)⟩
end
end Go.Proofs.YtjfjpngajboidaaGreat


namespace Go.Proofs.YtjfjpngajboidaaGreat
set_option linter.unusedVariables false
set_option linter.unusedSimpArgs false
open Go.RowKit

def RF (lo : Nat) (D : Nat → Prop) (w : World) (x : Value) (l : List Int) : Prop :=
  l.length ≤ 1048576 ∧ ∃ b c, x = .slice (some ⟨b, 0, none⟩) l.length c ∧ lo ≤ b ∧ b < w.heap.size ∧ ¬ D b ∧ IntsAt w b 0 l ∧ FreeAt w b 0 l.length
section
variable {e lo lo' : Nat} {D D' : Nat → Prop} {w w' : World} {v x : Value} {xs : List Value} {t : List (List Int)} {l : List Int}
theorem RF.keep (h : RF lo D w x l) (hz : w.heap.size ≤ w'.heap.size) (hk : ∀ k, lo ≤ k → k < w.heap.size → ¬ D k → w'.heap[k]? = w.heap[k]?) : RF lo D w' x l := by
  obtain ⟨h0, b, c, rfl, h2, h3, h4, h5, h6⟩ := h
  have hb := hk b h2 h3 h4
  exact ⟨h0, b, c, rfl, h2, Nat.lt_of_lt_of_le h3 hz, h4, h5.block hb, h6.block hb⟩
theorem RF.mono (h : RF lo D w x l) (hl : lo' ≤ lo) (hD : ∀ b, lo ≤ b → b < w.heap.size → D' b → D b) : RF lo' D' w x l := by
  obtain ⟨h0, b, c, rfl, h2, h3, h4, h5⟩ := h
  exact ⟨h0, b, c, rfl, Nat.le_trans hl h2, h3, fun k => h4 (hD b h2 h3 k), h5⟩
theorem RF.cell (h : RF lo D w x l) : x.oneCell' = true := by
  obtain ⟨h0, b, c, rfl, h1⟩ := h
  rfl
theorem RF.ints (h : RF lo D w x l) : Ints w x l := by
  obtain ⟨h0, b, c, rfl, h2, h3, h4, h5, -⟩ := h
  exact h5.ints h0 c
theorem RF.of {ei base : Nat} (h : GrowI ei base w v l) (hv : v ≠ .slice none 0 0) (hl : l.length ≤ 1048576) : RF base (fun _ => False) w v l := by
  obtain ⟨b, c, rfl, ho⟩ := h.own hv
  exact ⟨hl, b, c, rfl, ho.1, ho.2.1, fun k => k, ho.2.2.1, ho.2.2.2⟩
theorem RF.own {hi : Nat} {b c : Nat} (h : OwnI lo hi w b 0 l) (hl : l.length ≤ 1048576) (hh : hi ≤ w.heap.size) : RF lo (fun _ => False) w (.slice (some ⟨b, 0, none⟩) l.length c) l :=
  ⟨hl, b, c, rfl, h.1, Nat.lt_of_lt_of_le h.2.1 hh, fun k => k, h.2.2.1, h.2.2.2⟩
structure ListF (e lo : Nat) (D : Nat → Prop) (w : World) (v : Value) (xs : List Value) (t : List (List Int)) : Prop where
  own : w.ownsRow lo e 1 v t.length xs
  len : xs.length = t.length
  rows : ∀ i, i < t.length → ∃ x, xs[i]? = some x ∧ RF lo (fun b => v.ownBlock = some b ∨ D b) w x (row t i)
  nd : ∀ g, v.ownBlock = some g → ¬ D g
theorem ListF.nil (e lo : Nat) (D : Nat → Prop) (w : World) : ListF e lo D w (.slice none 0 0) [] [] := ⟨⟨rfl, .inl ⟨rfl, rfl⟩⟩, rfl, fun i hi => by simp at hi, fun g h => by cases h⟩
theorem ListF.lt (h : ListF e lo D w v xs t) (k : Nat) (hk : v.ownBlock = some k) : lo ≤ k ∧ k < w.heap.size := h.own.lt k hk
theorem ListF.ext (h : ListF e lo D w v xs t) (hx : Ext w w') : ListF e lo D w' v xs t :=
  ⟨ownsRow_ext h.own hx, h.len, fun i hi => by
    obtain ⟨x, h1, h2⟩ := h.rows i hi
    exact ⟨x, h1, h2.keep hx.size fun k _ hk _ => hx.block k hk⟩, h.nd⟩
theorem ListF.grown {r : Option Nat} (h : ListF e lo D w v xs t) (hg : w.grownBy w' r) (hv : ∀ k, v.ownBlock = some k → r ≠ some k) (hr : ∀ k, lo ≤ k → r = some k → D k) : ListF e lo D w' v xs t :=
  ⟨World.ownsRow.kept h.own hg (by
    cases hq : v.ownBlock with
    | none => exact .inl rfl
    | some k => exact .inr fun e => hv k hq e.symm), h.len, fun i hi => by
    obtain ⟨x, h1, h2⟩ := h.rows i hi
    exact ⟨x, h1, h2.keep hg.size fun k h3 hk h4 => hg.block k hk (fun e => h4 (.inr (hr k h3 e.symm)))⟩, h.nd⟩
theorem ListF.mono (h : ListF e lo D w v xs t) (hD : ∀ b, lo ≤ b → b < w.heap.size → D' b → D b) : ListF e lo D' w v xs t :=
  ⟨h.own, h.len, fun i hi => by
    obtain ⟨x, h1, h2⟩ := h.rows i hi
    exact ⟨x, h1, h2.mono (Nat.le_refl _) fun b k1 k2 k => k.imp id (hD b k1 k2)⟩, fun g hg k => h.nd g hg (hD g (h.lt g hg).1 (h.lt g hg).2 k)⟩
theorem ListF.app (h : ListF e lo D w v xs t) (hx : RF lo (fun b => v.ownBlock = some b ∨ D b) w x l) {v' : Value} (ho : w'.ownsRow lo e 1 v' (t.length + 1) (xs ++ [x])) (hg : w.grownBy w' v.ownBlock) (hb : v'.ownBlock = v.ownBlock ∨ v'.ownBlock = some w.heap.size) (hD : ¬ D w.heap.size) : ListF e lo D w' v' (xs ++ [x]) (t ++ [l]) := by
  have hl : (t ++ [l]).length = t.length + 1 := by simp
  have hr : ∀ y m, RF lo (fun b => v.ownBlock = some b ∨ D b) w y m → RF lo (fun b => v'.ownBlock = some b ∨ D b) w' y m := fun y m k => by
    have k2 := k.keep hg.size fun q _ hq hn => hg.block q hq (fun e => hn (.inl e.symm))
    obtain ⟨-, b0, c0, e0, -, hb3, -⟩ := k
    obtain ⟨h0, b, c, rfl, h2, h3, h4, h5⟩ := k2
    simp only [Value.slice.injEq, Option.some.injEq, Addr.mk.injEq, and_true, true_and] at e0
    refine ⟨h0, b, c, rfl, h2, h3, fun q => h4 ?_, h5⟩
    rcases q with q | q
    · rcases hb with e | e
      · exact .inl (by rw [← e]; exact q)
      · rw [e] at q
        have := Option.some.inj q
        omega
    · exact .inr q
  refine ⟨by rw [hl]; exact ho, by rw [hl, List.length_append, h.len]; rfl, fun i hi => ?_, fun g hg' => ?_⟩
  · by_cases hs : i < t.length
    · obtain ⟨y, h1, h2⟩ := h.rows i hs
      refine ⟨y, by rw [List.getElem?_append_left (by rw [h.len]; exact hs)]; exact h1, ?_⟩
      have e1 : row (t ++ [l]) i = row t i := by rw [row_eq, row_eq]; simp [List.getD, List.getElem?_append_left hs]
      rw [e1]
      exact hr _ _ h2
    · have hi' : i = t.length := by rw [hl] at hi; omega
      subst hi'
      refine ⟨x, by rw [List.getElem?_append_right (by rw [h.len]; exact Nat.le_refl _), h.len]; simp, ?_⟩
      have e1 : row (t ++ [l]) t.length = l := by rw [row_eq]; simp [List.getD]
      rw [e1]
      exact hr _ _ hx
  · rcases hb with e | e
    · exact h.nd g (by rw [← e]; exact hg')
    · rw [e] at hg'
      rw [← Option.some.inj hg']
      exact hD
theorem ListF.shape (h : ListF e lo D w v xs t) : ∃ a c, v = .slice a t.length c := by
  rcases h.own.2 with ⟨rfl, hn⟩ | ⟨g, cap, cur, hv, _⟩
  · exact ⟨none, 0, by rw [hn]⟩
  · exact ⟨_, _, hv⟩
end
structure Twin (e lo : Nat) (w : World) (v1 v2 : Value) (xs ys : List Value) (t1 t2 : List (List Int)) : Prop where
  f : ListF e lo (fun b => v2.ownBlock = some b) w v1 xs t1
  s : ListF e lo (fun b => v1.ownBlock = some b) w v2 ys t2
section
variable {e lo : Nat} {w w' : World} {v1 v2 x : Value} {xs ys : List Value} {t1 t2 : List (List Int)} {l : List Int}
theorem Twin.nil (e lo : Nat) (w : World) : Twin e lo w (.slice none 0 0) (.slice none 0 0) [] [] [] [] := ⟨ListF.nil _ _ _ _, ListF.nil _ _ _ _⟩
theorem Twin.swap (h : Twin e lo w v1 v2 xs ys t1 t2) : Twin e lo w v2 v1 ys xs t2 t1 := ⟨h.s, h.f⟩
theorem Twin.ext (h : Twin e lo w v1 v2 xs ys t1 t2) (hx : Ext w w') : Twin e lo w' v1 v2 xs ys t1 t2 := ⟨h.f.ext hx, h.s.ext hx⟩
theorem Twin.touch {S : Nat} (h : Twin e lo w v1 v2 xs ys t1 t2) (hT : Touch S (S + 1) w w') (hS : S < lo) : Twin e lo w' v1 v2 xs ys t1 t2 := by
  have hg : w.grownBy w' (some S) := ⟨hT.os, hT.tape, hT.output, hT.size, fun k hk hne => hT.block k hk (fun e => hne (by rw [show k = S by omega]))⟩
  exact ⟨h.f.grown hg (fun k hk e => by have := (h.f.lt k hk).1; have := Option.some.inj e; omega) (fun k hk e => by have := Option.some.inj e; omega),
    h.s.grown hg (fun k hk e => by have := (h.s.lt k hk).1; have := Option.some.inj e; omega) (fun k hk e => by have := Option.some.inj e; omega)⟩
theorem Twin.app (h : Twin e lo w v1 v2 xs ys t1 t2) (hx : RF lo (fun b => v1.ownBlock = some b ∨ v2.ownBlock = some b) w x l) {v' : Value} (ho : w'.ownsRow lo e 1 v' (t1.length + 1) (xs ++ [x])) (hg : w.grownBy w' v1.ownBlock) (hb : v'.ownBlock = v1.ownBlock ∨ v'.ownBlock = some w.heap.size) :
    Twin e lo w' v' v2 (xs ++ [x]) ys (t1 ++ [l]) t2 := by
  refine ⟨h.f.app hx ho hg hb (fun e => by have := (h.s.lt _ e).2; omega), ?_⟩
  have h1 := h.s.mono (D' := fun b => v1.ownBlock = some b ∨ v'.ownBlock = some b) (fun b _ hbz q => by
    rcases q with q | q
    · exact q
    · rcases hb with e | e
      · rw [← e]; exact q
      · rw [e] at q
        have := Option.some.inj q
        omega)
  have h2 := h1.grown hg (fun k hk e => h.s.nd k hk e) (fun k _ e => .inl e)
  exact h2.mono fun b _ _ q => .inr q
theorem Twin.setOther (h : Twin e lo w v1 v2 xs ys t1 t2) {a : Addr} (ha : a.block < lo) (u : Value) : Twin e lo (w.setCell a u) v1 v2 xs ys t1 t2 := by
  have hg : w.grownBy (w.setCell a u) (some a.block) := ⟨rfl, rfl, rfl, by simp, fun k hk hne => Below.heap_setCell _ _ _ _ (fun e => hne (by rw [e]))⟩
  exact ⟨h.f.grown hg (fun k hk e => by have := (h.f.lt k hk).1; have := Option.some.inj e; omega) (fun k hk e => by have := Option.some.inj e; omega),
    h.s.grown hg (fun k hk e => by have := (h.s.lt k hk).1; have := Option.some.inj e; omega) (fun k hk e => by have := Option.some.inj e; omega)⟩
end
def TabF (base : Nat) (w : World) (v : Value) (t : List (List Int)) : Prop :=
  t.length ≤ 1048576 ∧ ∃ b c, v = .slice (some ⟨b, 0, none⟩) t.length c ∧ base ≤ b ∧ b < w.heap.size ∧ ∀ i, i < t.length → w.frozen? ⟨b, i, none⟩ = false ∧ ∃ x, w.cell? ⟨b, i, none⟩ = some x ∧ RF base (fun _ => False) w x (row t i)
section
variable {base base' : Nat} {w w' : World} {v : Value} {t : List (List Int)}
theorem TabF.rows (h : TabF base w v t) : Rows w v t := by
  obtain ⟨h0, b, c, rfl, h1, h2, h3⟩ := h
  refine ⟨h0, b, 0, c, rfl, fun i hi => ?_⟩
  obtain ⟨-, x, k1, k2⟩ := h3 i hi
  exact ⟨x, by rw [Nat.zero_add]; exact k1, k2.ints⟩
theorem TabF.keep (h : TabF base w v t) (hz : w.heap.size ≤ w'.heap.size) (hk : ∀ k, base ≤ k → k < w.heap.size → w'.heap[k]? = w.heap[k]?) : TabF base w' v t := by
  obtain ⟨h0, b, c, rfl, h1, h2, h3⟩ := h
  have hb := hk b h1 h2
  refine ⟨h0, b, c, rfl, h1, Nat.lt_of_lt_of_le h2 hz, fun i hi => ?_⟩
  obtain ⟨k0, x, k1, k2⟩ := h3 i hi
  exact ⟨by rw [World.frozen?_of_block (w := w) (a := ⟨b, i, none⟩) hb]; exact k0, x, by rw [World.cell?_of_block (w := w) (a := ⟨b, i, none⟩) hb]; exact k1, k2.keep hz fun k q1 q2 _ => hk k q1 q2⟩
theorem TabF.ext (h : TabF base w v t) (hx : Ext w w') : TabF base w' v t := h.keep hx.size fun k _ hk => hx.block k hk
theorem TabF.touch {S : Nat} (h : TabF base w v t) (hT : Touch S (S + 1) w w') (hS : S < base) : TabF base w' v t := h.keep hT.size fun k hk hl => hT.block k hl (by omega)
theorem TabF.low (h : TabF base w v t) (hb : base' ≤ base) : TabF base' w v t := by
  obtain ⟨h0, b, c, rfl, h1, h2, h3⟩ := h
  refine ⟨h0, b, c, rfl, by omega, h2, fun i hi => ?_⟩
  obtain ⟨k0, x, k1, k2⟩ := h3 i hi
  exact ⟨k0, x, k1, k2.mono hb fun _ _ _ q => q⟩
theorem TabF.setOut (h : TabF base w v t) {p : Addr} (hp : p.block < base) (u : Value) : TabF base (w.setCell p u) v t := h.keep (by simp) fun k hk _ => Below.heap_setCell _ _ _ _ (by omega)
theorem ListF.tab {e lo : Nat} {D : Nat → Prop} {xs : List Value} (h : ListF e lo D w v xs t) (hp : 0 < t.length) (hl : t.length ≤ 1048576) : TabF lo w v t := by
  rcases id h.own.2 with ⟨rfl, hn⟩ | ⟨g, cap, cur, rfl, hb, hg, hnc, hm, hcs, htake⟩
  · omega
  · refine ⟨hl, g, cap, rfl, hb, (h.own.lt g rfl).2, fun i hi => ⟨by simp [World.frozen?, hg], ?_⟩⟩
    obtain ⟨x, k1, k2⟩ := h.rows i hi
    have := h.own.cells (g := g) rfl i x k1
    rw [Addr.add_lit, Nat.zero_add] at this
    exact ⟨x, this, k2.mono (Nat.le_refl _) fun _ _ _ q => q.elim⟩
end
end Go.Proofs.YtjfjpngajboidaaGreat
