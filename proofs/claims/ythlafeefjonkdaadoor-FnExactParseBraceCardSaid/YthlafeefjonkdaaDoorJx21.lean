/-
  A table of the call's own that grows row by row: append in a walk; the reference's copy of a table is its own.
-/
import Derived.Test.YthlafeefjonkdaaDoorProg
import Derived.Deep.DeepCutAuto
import Derived.Deep.RegionWith
import Derived.Deep.RegionHeld3
import Derived.Deep.DrawnRows
import Derived.IntWalk
import Derived.Maps.AppendAt
import Derived.Test.YthlafeefjonkdaaDoorJx0
import Derived.Test.YthlafeefjonkdaaDoorJx1
import Derived.Test.YthlafeefjonkdaaDoorJx3
import Derived.Test.YthlafeefjonkdaaDoorJx4
import Derived.Test.YthlafeefjonkdaaDoorJx8
import Derived.Test.YthlafeefjonkdaaDoorJx15
import Derived.Test.YthlafeefjonkdaaDoorJx20
import Derived.Test.YthlafeefjonkdaaDoorJx11
namespace Go.Proofs.YthlafeefjonkdaaDoor
set_option linter.unusedVariables false
set_option linter.unusedSimpArgs false
open Go.RowKit
open Go.Deep
attribute [local go_sem ↓] Go.wp_at_zero Go.wp_at_succ

/-- no block is a foreign one -/
abbrev NoO : Nat → Prop := fun _ => False
/-- append(v, r) at a slice of rows of the call's own -/
theorem wpList_append_row_mine {P : Program} {w1 w : World} {ops : Array Oper} {rest : List Oper} {o : Oper} {a : Act} {Q : Exit → Act → World → Prop} (hgd : o.guard = none) (s x : Operand) (t : TypeId)
    (ho : o.op = .call { callee := .builtin .append, args := #[s, x], argTypes := #[t, t] }) (ht : P.underlying t = some (.slice 39)) (hinfo : (P.info? 39).map (fun i => (i.zero, i.size, i.bytes)) = some (some (.slice none 0 0), 1, 24))
    (base : Nat) (v : Value) (tb : List (List Int)) (hs : a.eval s = v) (hown : MineT base NoO w1 v tb) (hx1 : Ext w1 w) (g : Nat) (br cr : Nat) (l : List Int) (hx : a.eval x = .slice (some ⟨g, 0, none⟩) 1 1) (hc : w.cell? ⟨g, 0, none⟩ = some (.slice (some ⟨br, 0, none⟩) l.length cr)) (hr : OwnI w1.heap.size w.heap.size w br 0 l)
    (hl : tb.length ≤ 1048576) (hbase : base ≤ w1.heap.size)
    (h : ∀ v' w', MineT base NoO w' v' (tb ++ [l]) → w.grownBy w' v.ownBlock → v' ≠ .slice none 0 0 → (v'.ownBlock = v.ownBlock ∨ v'.ownBlock = some w.heap.size) → wpList P ops Q rest (a.put o.dst v') w') : wpList P ops Q (o :: rest) a w := by
  obtain ⟨i0, hi, hz0, hz1, hz2⟩ := info_parts hinfo
  obtain ⟨xs, h1, h2⟩ := id hown
  have hz := hx1.size
  refine wpList_append_own_at w hgd s x t ho base _ i0 (.slice none 0 0) 1 24 ht hi hz0 hz1 hz2 rfl (by decide) v tb.length xs hs (ownsRow_ext h1 hx1) ⟨g, 0, none⟩ 1 1 [.slice (some ⟨br, 0, none⟩) l.length cr] hx rfl ?_ ?_ (by unfold maxLen; omega) (by omega) (by omega) ?_
  · intro j u hj
    match j, hj with
    | 0, hj => simp at hj; subst hj; simpa [Addr.add] using hc
  · intro u hu; simp at hu; subst hu; rfl
  · intro v' w' k1 k2 k3 k4
    refine h v' w' (MineT.app (c := cr) hown hx1 hr hbase (fun k e => e.elim) k2 k4 (fun vs hvs => ?_)) k2 (fun e => by have := k3.1 e; simp at this) k4
    have : vs = xs := (ownsRow_same hvs (ownsRow_ext h1 hx1))
    subst this
    simpa using k1

theorem OwnI.alloc1 {lo : Nat} {w : World} {b o : Nat} {l : List Int} {x : Obj} (h : OwnI lo w.heap.size w b o l) : OwnI lo (w.alloc x).heap.size (w.alloc x) b o l :=
  ⟨h.1, by have := h.2.1; simp; omega, ki_alloc h.2.2.1, fun i hi => kf_alloc h.2.1 (h.2.2.2 i hi)⟩
theorem MineT.lit {lo : Nat} {w : World} (hb : lo ≤ w.heap.size) : MineT lo NoO (w.alloc (.cells #[] 39)) (.slice (some ⟨w.heap.size, 0, none⟩) 0 0) [] :=
  ⟨[], World.ownsRow_made w #[] 0 hb (Nat.zero_le _) rfl, fun _ _ e => e.elim, fun _ => 0, fun _ => 0, fun i hi => by simp at hi, fun i j hi => by simp at hi⟩
theorem MineT.lt {lo : Nat} {W : World} {v : Value} {xs : List (List Int)} (h : MineT lo NoO W v xs) (k : Nat) (e : v.ownBlock = some k) : lo ≤ k ∧ k < W.heap.size := by
  obtain ⟨vs, h1, -⟩ := h
  exact h1.lt k e
/-- a table that has grown, at its end -/
theorem MineT.newT {lo : Nat} {w : World} {v : Value} {t : List (List Int)} (h : MineT lo NoO w v t) (hv : v ≠ .slice none 0 0) : ∃ b c, v = .slice (some ⟨b, 0, none⟩) t.length c ∧ OwnT lo w.heap.size w b 0 t := by
  obtain ⟨vs, h1, h2, B, C, h3, h4⟩ := h
  rcases id h1.2 with ⟨rfl, hn⟩ | ⟨g, cap, cur, rfl, hb, hg, rest⟩
  · exact absurd (by rfl) hv
  · refine ⟨g, cap, rfl, hb, (h1.lt g rfl).2, B, fun _ => 0, C, fun i hi => ?_, h4, fun i hi => by simp [World.frozen?, hg]⟩
    obtain ⟨g1, g2, g3, g4⟩ := h3 i hi
    have hc := World.ownsRow.cells h1 (g := g) rfl i _ g1
    rw [Addr.add_lit] at hc
    exact ⟨hc, g2, fun e => g4 (by rw [e]; rfl)⟩

end Go.Proofs.YthlafeefjonkdaaDoor

/-
  Texts are parted and read: plain.
-/
namespace Go.Proofs.YthlafeefjonkdaaDoor
set_option linter.unusedVariables false
set_option linter.unusedSimpArgs false

/-- the parts of a text between the bytes b -/
def splitL (b : UInt8) : List UInt8 → List (List UInt8)
  | [] => [[]]
  | c :: r => if c = b then [] :: splitL b r else match splitL b r with
    | h :: t => (c :: h) :: t
    | [] => [[c]]

theorem splitL_ne (b : UInt8) (l : List UInt8) : splitL b l ≠ [] := by
  cases l with
  | nil => simp [splitL]
  | cons c r =>
    unfold splitL
    split
    · simp
    · split <;> simp

theorem splitL_hit (b : UInt8) (r : List UInt8) : splitL b (b :: r) = [] :: splitL b r := by rw [splitL, if_pos rfl]

theorem splitL_miss {b c : UInt8} (h : c ≠ b) (r : List UInt8) : ∃ x t, splitL b r = x :: t ∧ splitL b (c :: r) = (c :: x) :: t := by
  obtain ⟨x, t, e⟩ := List.exists_cons_of_ne_nil (splitL_ne b r)
  refine ⟨x, t, e, ?_⟩
  rw [splitL, if_neg h, e]

/-- one byte more -/
theorem splitL_step (b c : UInt8) : ∀ (p : List UInt8) (out : List (List UInt8)) (q : List UInt8), splitL b p = out ++ [q] → splitL b (p ++ [c]) = if c = b then out ++ [q] ++ [[]] else out ++ [q ++ [c]] := by
  intro p
  induction p with
  | nil =>
    intro out q h
    rw [splitL] at h
    cases out with
    | nil =>
      simp only [List.nil_append, List.cons.injEq, and_true] at h
      subst h
      rw [List.nil_append]
      by_cases e : c = b
      · rw [if_pos e, e, splitL_hit, splitL]; rfl
      · rw [if_neg e]
        obtain ⟨x, t, e1, e2⟩ := splitL_miss e []
        rw [splitL] at e1
        simp only [List.cons.injEq] at e1
        obtain ⟨rfl, rfl⟩ := e1
        rw [e2]; rfl
    | cons a s =>
      exfalso
      have := congrArg List.length h
      simp at this
  | cons d r ih =>
    intro out q h
    rw [List.cons_append]
    by_cases hd : d = b
    · subst hd
      rw [splitL_hit] at h ⊢
      cases out with
      | nil =>
        exfalso
        have h1 := congrArg List.length h
        simp at h1
        exact splitL_ne d r h1
      | cons a s =>
        simp only [List.cons_append, List.cons.injEq] at h
        obtain ⟨rfl, h⟩ := h
        rw [ih s q h]
        split <;> rfl
    · obtain ⟨x, t, e1, e2⟩ := splitL_miss hd r
      obtain ⟨x2, t2, e3, e4⟩ := splitL_miss hd (r ++ [c])
      rw [e2] at h
      rw [e4]
      cases out with
      | nil =>
        simp only [List.nil_append, List.cons.injEq] at h
        obtain ⟨rfl, rfl⟩ := h
        have := ih [] x e1
        rw [e3] at this
        by_cases e : c = b
        · rw [if_pos e] at this ⊢
          simpa using this
        · rw [if_neg e] at this ⊢
          simp only [List.nil_append, List.cons.injEq] at this ⊢
          exact ⟨by rw [this.1]; rfl, this.2⟩
      | cons a s =>
        simp only [List.cons_append, List.cons.injEq] at h
        obtain ⟨rfl, rfl⟩ := h
        have := ih (x :: s) q (by rw [e1]; rfl)
        rw [e3] at this
        by_cases e : c = b
        · rw [if_pos e] at this ⊢
          simpa using this
        · rw [if_neg e] at this ⊢
          simpa using this

/-- a byte that does not occur parts nothing -/
theorem splitL_none {b : UInt8} : ∀ {l : List UInt8}, b ∉ l → splitL b l = [l] := by
  intro l
  induction l with
  | nil => intro _; rfl
  | cons c r ih =>
    intro h
    have h1 : c ≠ b := fun e => h (by rw [e]; exact List.mem_cons_self)
    obtain ⟨x, t, e1, e2⟩ := splitL_miss h1 r
    rw [ih (fun e => h (List.mem_cons_of_mem _ e))] at e1
    simp only [List.cons.injEq] at e1
    obtain ⟨rfl, rfl⟩ := e1
    exact e2

/-- parted at the first -/
theorem splitL_cut {b : UInt8} : ∀ {p : List UInt8} (_ : b ∉ p) (r : List UInt8), splitL b (p ++ b :: r) = p :: splitL b r := by
  intro p
  induction p with
  | nil => intro _ r; rw [List.nil_append, splitL_hit]
  | cons c q ih =>
    intro h r
    have h1 : c ≠ b := fun e => h (by rw [e]; exact List.mem_cons_self)
    rw [List.cons_append]
    obtain ⟨x, t, e1, e2⟩ := splitL_miss h1 (q ++ b :: r)
    rw [ih (fun e => h (List.mem_cons_of_mem _ e))] at e1
    simp only [List.cons.injEq] at e1
    obtain ⟨rfl, rfl⟩ := e1
    exact e2

/-- all bytes of a text lie in its parts or part them -/
theorem splitL_mem {b c : UInt8} (hc : c ≠ b) : ∀ {l : List UInt8}, c ∈ l → ∃ p, p ∈ splitL b l ∧ c ∈ p := by
  intro l
  induction l with
  | nil => intro h; cases h
  | cons d r ih =>
    intro h
    by_cases hd : d = b
    · subst hd
      rw [splitL_hit]
      rcases List.mem_cons.1 h with e | e
      · exact absurd e hc
      · obtain ⟨p, h1, h2⟩ := ih e
        exact ⟨p, List.mem_cons_of_mem _ h1, h2⟩
    · obtain ⟨x, t, e1, e2⟩ := splitL_miss hd r
      rw [e2]
      rcases List.mem_cons.1 h with e | e
      · exact ⟨d :: x, List.mem_cons_self, by rw [e]; exact List.mem_cons_self⟩
      · obtain ⟨p, h1, h2⟩ := ih e
        rw [e1] at h1
        rcases List.mem_cons.1 h1 with e3 | e3
        · exact ⟨d :: x, List.mem_cons_self, by rw [e3] at h2; exact List.mem_cons_of_mem _ h2⟩
        · exact ⟨p, List.mem_cons_of_mem _ e3, h2⟩

/-- the bytes of all parts, and one for each gap -/
theorem splitL_length (b : UInt8) (l : List UInt8) : ((splitL b l).map List.length).sum + (splitL b l).length = l.length + 1 := by
  induction l with
  | nil => rfl
  | cons c r ih =>
    by_cases e : c = b
    · subst e
      rw [splitL_hit]
      simp only [List.map_cons, List.sum_cons, List.length_cons, List.length_nil] at ih ⊢
      omega
    · obtain ⟨x, t, e1, e2⟩ := splitL_miss e r
      rw [e2]
      rw [e1] at ih
      simp only [List.map_cons, List.sum_cons, List.length_cons] at ih ⊢
      omega

/-- the number of a digit, or -1 -/
@[irreducible] def digV (c : UInt8) : Int := if 48 ≤ c.toNat ∧ c.toNat ≤ 57 then (c.toNat : Int) - 48 else if 97 ≤ c.toNat ∧ c.toNat ≤ 98 then (c.toNat : Int) - 97 + 10 else -1
/-- digits alone -/
@[irreducible] def goodL (l : List UInt8) : Bool := l.all fun c => decide (0 ≤ digV c)
@[irreducible] def digsL (l : List UInt8) : List Int := l.map digV
theorem goodL_nil : goodL [] = true := by unfold goodL; rfl
theorem goodL_snoc (l : List UInt8) (c : UInt8) : goodL (l ++ [c]) = (goodL l && decide (0 ≤ digV c)) := by unfold goodL; simp
theorem digsL_nil : digsL [] = [] := by unfold digsL; rfl
theorem digsL_snoc (l : List UInt8) (c : UInt8) : digsL (l ++ [c]) = digsL l ++ [digV c] := by unfold digsL; simp
theorem length_digsL (l : List UInt8) : (digsL l).length = l.length := by unfold digsL; simp
theorem goodL_mem {l : List UInt8} (h : goodL l = true) {c : UInt8} (hc : c ∈ l) : 0 ≤ digV c := by
  unfold goodL at h
  rw [List.all_eq_true] at h
  simpa using h c hc
theorem digV_no {c : UInt8} (h : c = 47 ∨ c = 124) : digV c = -1 := by
  rcases h with rfl | rfl <;> (unfold digV; decide)

/-- the table of a text; whether it is one -/
@[irreducible] def tabL (l : List UInt8) : List (List Int) := (splitL 47 l).map digsL
@[irreducible] def readB (l : List UInt8) : Bool := (splitL 47 l).all goodL && tableB (tabL l)

theorem readB_bar {l : List UInt8} (h : (124 : UInt8) ∈ l) : readB l = false := by
  obtain ⟨p, h1, h2⟩ := splitL_mem (b := 47) (by decide) h
  unfold readB
  rw [Bool.and_eq_false_iff]
  left
  rw [List.all_eq_false]
  refine ⟨p, h1, fun e => ?_⟩
  have := goodL_mem e h2
  rw [digV_no (.inr rfl)] at this
  omega

theorem readB_nil : readB [] = false := by
  unfold readB tabL
  rw [Bool.and_eq_false_iff]
  right
  rw [tableB_no]
  intro h
  have h1 := h.len (x := 0) (by simp [splitL])
  rw [row_eq] at h1
  simp [splitL, digsL_nil] at h1

theorem readB_long {l : List UInt8} (h : 156 < l.length) : readB l = false := by
  rw [← Bool.not_eq_true]
  intro e
  unfold readB at e
  rw [Bool.and_eq_true, tableB_iff] at e
  have hT := e.2
  have hl : (tabL l).length = (splitL 47 l).length := by unfold tabL; simp
  have h12 := hT.2.1
  have hs := splitL_length 47 l
  have key : ((splitL 47 l).map List.length).sum ≤ (splitL 47 l).length * 12 := by
    have hb : ∀ p, p ∈ splitL 47 l → p.length ≤ 12 := by
      intro p hp
      obtain ⟨i, hi, rfl⟩ := List.getElem_of_mem hp
      have h2 := hT.len (x := i) (by rw [hl]; exact hi)
      have h3 : row (tabL l) i = digsL ((splitL 47 l)[i]) := by
        rw [row_eq]; unfold tabL; simp [List.getD, hi]
      rw [h3, length_digsL] at h2
      omega
    generalize splitL 47 l = s at hb
    induction s with
    | nil => simp
    | cons a s ih =>
      have i1 := ih (fun p hp => hb p (List.mem_cons_of_mem _ hp))
      have i2 := hb a List.mem_cons_self
      simp only [List.map_cons, List.sum_cons, List.length_cons] at i1 ⊢
      omega
  rw [hl] at h12
  omega

/-- two parts, both tables, together a brace -/
@[irreducible] noncomputable def okP (l : List UInt8) : Bool := match splitL 124 l with
  | [a, c] => readB a && readB c && braceB (tabL a) (tabL c)
  | _ => false

theorem okP_two {l a c : List UInt8} (h : splitL 124 l = [a, c]) : okP l = (readB a && readB c && braceB (tabL a) (tabL c)) := by unfold okP; rw [h]

theorem okP_no {l : List UInt8} (h : (splitL 124 l).length ≠ 2) : okP l = false := by
  unfold okP
  split
  · rename_i e
    rw [e] at h
    exact absurd rfl h
  · rfl

theorem splitL_two {b : UInt8} {l : List UInt8} (h : b ∈ l) : 2 ≤ (splitL b l).length := by
  induction l with
  | nil => cases h
  | cons c r ih =>
    by_cases e : c = b
    · subst e
      rw [splitL_hit, List.length_cons]
      have := List.length_pos_iff.2 (splitL_ne c r)
      omega
    · obtain ⟨x, t, e1, e2⟩ := splitL_miss e r
      rw [e2, List.length_cons]
      have h2 : b ∈ r := by
        rcases List.mem_cons.1 h with e3 | e3
        · exact absurd e3.symm e
        · exact e3
      have := ih h2
      rw [e1, List.length_cons] at this
      exact this

/-- parted at the first bar alone -/
theorem okP_hit {p : List UInt8} (hp : (124 : UInt8) ∉ p) (r : List UInt8) : okP (p ++ 124 :: r) = (readB p && readB r && braceB (tabL p) (tabL r)) := by
  by_cases hr : (124 : UInt8) ∈ r
  · rw [readB_bar hr, Bool.and_false, Bool.false_and]
    refine okP_no ?_
    rw [splitL_cut hp, List.length_cons]
    have := splitL_two hr
    omega
  · exact okP_two (by rw [splitL_cut hp, splitL_none hr])

theorem okP_none {l : List UInt8} (h : (124 : UInt8) ∉ l) : okP l = (readB l && readB [] && braceB (tabL l) (tabL [])) := by
  rw [readB_nil, Bool.and_false, Bool.false_and]
  exact okP_no (by rw [splitL_none h]; simp)
end Go.Proofs.YthlafeefjonkdaaDoor
