/-
  Lists of growing rows of numbers, all rows apart; a table whose cells are written into without its rows being known apart.
  No program in sight.
-/
import Derived.Test.YtjfjpngajboidaaGreatKx22
namespace Go.Proofs.YtjfjpngajboidaaGreat
set_option linter.unusedVariables false
set_option linter.unusedSimpArgs false
open Go.RowKit

structure GT (tS tI lo n k : Nat) (w : World) (v : Value) (B : Nat → Nat) (xs : List Value) (t : List (List Int)) : Prop where
  own : w.ownsRow lo tS 1 v k xs
  rw : ∀ i, i < k → ∃ d, xs[i]? = some (.slice (some ⟨B i, 0, none⟩) n d) ∧ GrowI tI lo w (.slice (some ⟨B i, 0, none⟩) n d) (row t i) ∧ (row t i).length = n ∧ v.ownBlock ≠ some (B i)
  inj : ∀ i j, i < k → j < k → B i = B j → i = j
  l : t.length = k
theorem GT.lt {tS tI lo n k : Nat} {w : World} {v : Value} {B : Nat → Nat} {xs : List Value} {t : List (List Int)} (h : GT tS tI lo n k w v B xs t) {i : Nat} (hi : i < k) : lo ≤ B i ∧ B i < w.heap.size := by
  obtain ⟨d, -, h2, -⟩ := h.rw i hi
  exact h2.lt rfl
theorem GT.other {tS tI lo n k : Nat} {w w' : World} {v : Value} {B : Nat → Nat} {xs : List Value} {t : List (List Int)} (h : GT tS tI lo n k w v B xs t) {g : Nat} (hg : w.grownBy w' (some g)) (hv : v.ownBlock ≠ some g) (hB : ∀ i, i < k → B i ≠ g) : GT tS tI lo n k w' v B xs t :=
  ⟨World.ownsRow.kept h.own hg (.inr hv), fun i hi => by
    obtain ⟨d, h1, h2, h3, h4⟩ := h.rw i hi
    exact ⟨d, h1, h2.kept hg (fun e => hB i hi (Option.some.inj e)), h3, h4⟩, h.inj, h.l⟩
theorem GT.ext {tS tI lo n k : Nat} {w w' : World} {v : Value} {B : Nat → Nat} {xs : List Value} {t : List (List Int)} (h : GT tS tI lo n k w v B xs t) (hx : Ext w w') : GT tS tI lo n k w' v B xs t :=
  ⟨ownsRow_ext h.own hx, fun i hi => by
    obtain ⟨d, h1, h2, h3, h4⟩ := h.rw i hi
    exact ⟨d, h1, h2.ext hx, h3, h4⟩, h.inj, h.l⟩
theorem GT.touch {tS tI lo n k S : Nat} {w w' : World} {v : Value} {B : Nat → Nat} {xs : List Value} {t : List (List Int)} (h : GT tS tI lo n k w v B xs t) (m : Touch S (S + 1) w w') (hS : S < lo) : GT tS tI lo n k w' v B xs t :=
  h.other (g := S) ⟨m.os, m.tape, m.output, m.size, fun k hk hne => m.block k hk (fun e => hne (by rw [show k = S by omega]))⟩ (fun e => by have := (h.own.lt S e).1; omega) (fun i hi e => by have := (h.lt hi).1; omega)
theorem GT.app {tS tI lo n k : Nat} {w wA w' : World} {v v' : Value} {B : Nat → Nat} {xs : List Value} {t : List (List Int)} {g d : Nat} {p : List Int} (h : GT tS tI lo n k w v B xs t) (hx : Ext w wA) (hp : GrowI tI lo w (.slice (some ⟨g, 0, none⟩) n d) p) (hn : p.length = n) (hgv : v.ownBlock ≠ some g) (hgB : ∀ i, i < k → B i ≠ g)
    (ho : w'.ownsRow lo tS 1 v' (k + 1) (xs ++ [.slice (some ⟨g, 0, none⟩) n d])) (hg : wA.grownBy w' v.ownBlock) (hb : v'.ownBlock = v.ownBlock ∨ v'.ownBlock = some wA.heap.size) :
    GT tS tI lo n (k + 1) w' v' (fun i => if i = k then g else B i) (xs ++ [.slice (some ⟨g, 0, none⟩) n d]) (t ++ [p]) := by
  have hxs : xs.length = k := by have := h.own.1; omega
  have hA := h.ext hx
  have hpA := hp.ext hx
  have hgl := (hpA.lt rfl).2
  have hnb : ∀ b, b < wA.heap.size → v.ownBlock ≠ some b → v'.ownBlock ≠ some b := fun b hbl hne e => by
    rcases hb with e2 | e2
    · exact hne (e2 ▸ e)
    · rw [e2] at e
      have := Option.some.inj e
      omega
  refine ⟨ho, fun i hi => ?_, fun i j hi hj e => ?_, by simp [h.l]⟩
  · by_cases hk : i = k
    · subst hk
      simp only [↓reduceIte]
      refine ⟨d, by rw [List.getElem?_append_right (by omega), hxs]; simp, ?_, ?_, hnb g hgl hgv⟩
      · rw [row_eq]
        simp only [List.getD_eq_getElem?_getD]
        rw [List.getElem?_append_right (by have := h.l; omega), h.l]
        simp
        exact hpA.kept hg (fun e => hgv e.symm)
      · rw [row_eq]
        simp only [List.getD_eq_getElem?_getD]
        rw [List.getElem?_append_right (by have := h.l; omega), h.l]
        simp [hn]
    · have hi2 : i < k := by omega
      simp only [if_neg hk]
      obtain ⟨d2, h1, h2, h3, h4⟩ := hA.rw i hi2
      have er : row (t ++ [p]) i = row t i := by
        rw [row_eq, row_eq]
        simp only [List.getD_eq_getElem?_getD]
        rw [List.getElem?_append_left (by have := h.l; omega)]
      rw [er]
      exact ⟨d2, by rw [List.getElem?_append_left (by omega)]; exact h1, h2.kept hg (fun e => h4 e.symm), h3, hnb _ (hA.lt hi2).2 h4⟩
  · by_cases h1 : i = k
    · by_cases h2 : j = k
      · omega
      · simp only [if_pos h1, if_neg h2] at e
        exact absurd e.symm (hgB j (by omega))
    · by_cases h2 : j = k
      · simp only [if_neg h1, if_pos h2] at e
        exact absurd e (hgB i (by omega))
      · simp only [if_neg h1, if_neg h2] at e
        exact h.inj i j (by omega) (by omega) e
theorem GT.nil (tS tI lo n : Nat) (w : World) (hb : lo ≤ w.heap.size) : GT tS tI lo n 0 (w.alloc (.cells #[] tS)) (.slice (some ⟨w.heap.size, 0, none⟩) 0 0) (fun _ => 0) [] [] :=
  ⟨World.ownsRow_made w #[] 0 hb (Nat.zero_le _) rfl, fun i hi => by omega, fun i j hi => by omega, rfl⟩
theorem GT.tab {tS tI lo n k : Nat} {w : World} {g c : Nat} {B : Nat → Nat} {xs : List Value} {t : List (List Int)} (h : GT tS tI lo n k w (.slice (some ⟨g, 0, none⟩) k c) B xs t) (hk : k ≤ 1048576) (hn : n ≤ 1048576) : TabF lo w (.slice (some ⟨g, 0, none⟩) k c) t := by
  refine ⟨by rw [h.l]; exact hk, g, c, by rw [h.l], (h.own.lt g rfl).1, (h.own.lt g rfl).2, fun i hi => ?_⟩
  rw [h.l] at hi
  obtain ⟨d, h1, h2, h3, h4⟩ := h.rw i hi
  obtain ⟨b', c', he, ho⟩ := h2.own (by simp)
  simp only [Value.slice.injEq, Option.some.injEq, Addr.mk.injEq, and_true] at he
  obtain ⟨rfl, e2, rfl⟩ := he
  exact ⟨World.ownsRow.frozenAt h.own i, _, by rw [h.own.cellAt i (by omega)]; exact h1, by omega, B i, d, by rw [h3], ho.1, ho.2.1, fun q => q, ho.2.2.1, ho.2.2.2⟩

theorem RowsP.setInt {O : Nat → Prop} {w : World} {v : Value} {t : List (List Int)} (h : RowsP O w v t) {a : Addr} {x0 : Int} (ha : w.cell? a = some (.int .i64 x0)) (x : Int) : ∃ t', RowsP O (w.setCell a (.int .i64 x)) v t' ∧ t'.length = t.length := by
  obtain ⟨h0, b, o, c, rfl, hb, hc⟩ := h
  have hrow : ∀ i, ∃ l : List Int, i < t.length → ∃ b1 o1 c1, w.cell? ⟨b, o + i, none⟩ = some (.slice (some ⟨b1, o1, none⟩) l.length c1) ∧ O b1 ∧ l.length ≤ 1048576 ∧ IntsAt (w.setCell a (.int .i64 x)) b1 o1 l := fun i => by
    by_cases hi : i < t.length
    · obtain ⟨b1, o1, c1, h1, hO, h2, h3⟩ := hc i hi
      refine ⟨(row t i).zipIdx.map (fun q => if (⟨b1, o1 + q.2, none⟩ : Addr) = a then x else q.1), fun _ => ⟨b1, o1, c1, by simpa using h1, hO, by simpa using h2, fun j hj => ?_⟩⟩
      have hj' : j < (row t i).length := by simpa using hj
      have e : ix ((row t i).zipIdx.map (fun q => if (⟨b1, o1 + q.2, none⟩ : Addr) = a then x else q.1)) j = if (⟨b1, o1 + j, none⟩ : Addr) = a then x else ix (row t i) j := by
        rw [ix_eq, ix_eq]
        simp [List.getD_eq_getElem?_getD, hj']
      rw [e]
      by_cases hq : (⟨b1, o1 + j, none⟩ : Addr) = a
      · rw [if_pos hq, hq]
        exact World.cell?_setCell_same _ _ _ ha
      · rw [if_neg hq, World.cell?_setCell_other _ _ _ _ (fun e => hq e.symm)]
        exact h3 j hj'
    · exact ⟨[], fun h => absurd h hi⟩
  obtain ⟨f, hf⟩ := Classical.axiomOfChoice hrow
  refine ⟨(List.range t.length).map f, ⟨by simpa using h0, b, o, c, by simp, hb, fun i hi => ?_⟩, by simp⟩
  have hi' : i < t.length := by simpa using hi
  obtain ⟨b1, o1, c1, h1, hO, h2, h3⟩ := hf i hi'
  have er : row ((List.range t.length).map f) i = f i := by
    rw [row_eq]
    simp [List.getD_eq_getElem?_getD, hi']
  rw [er]
  refine ⟨b1, o1, c1, ?_, hO, h2, h3⟩
  rw [World.cell?_setCell_other _ _ _ _ (fun e => ?_)]
  · exact h1
  · rw [e, h1] at ha
    cases ha
theorem RowsP.setRow {O : Nat → Prop} {w : World} {v : Value} {t : List (List Int)} (h : RowsP O w v t) {a : Addr} {s0 : Option Addr} {n0 c0 : Nat} (ha : w.cell? a = some (.slice s0 n0 c0)) {p : List Int} {bp op cp : Nat} (hO : O bp) (hl : p.length ≤ 1048576) (hp : IntsAt w bp op p) : ∃ t', RowsP O (w.setCell a (.slice (some ⟨bp, op, none⟩) p.length cp)) v t' ∧ t'.length = t.length := by
  have keep : ∀ b1 o1 l, IntsAt w b1 o1 l → IntsAt (w.setCell a (.slice (some ⟨bp, op, none⟩) p.length cp)) b1 o1 l := fun b1 o1 l h3 j hj => by
    rw [World.cell?_setCell_other _ _ _ _ (fun e => by have := h3 j hj; rw [← e, ha] at this; cases this)]
    exact h3 j hj
  obtain ⟨h0, b, o, c, rfl, hb, hc⟩ := h
  refine ⟨(List.range t.length).map fun i => if (⟨b, o + i, none⟩ : Addr) = a then p else row t i, ⟨by simpa using h0, b, o, c, by simp, hb, fun i hi => ?_⟩, by simp⟩
  have hi' : i < t.length := by simpa using hi
  obtain ⟨b1, o1, c1, h1, h2, h3, h4⟩ := hc i hi'
  have er : row ((List.range t.length).map fun i => if (⟨b, o + i, none⟩ : Addr) = a then p else row t i) i = if (⟨b, o + i, none⟩ : Addr) = a then p else row t i := by
    rw [row_eq]
    simp [List.getD_eq_getElem?_getD, hi']
  rw [er]
  by_cases hq : (⟨b, o + i, none⟩ : Addr) = a
  · rw [if_pos hq, hq]
    exact ⟨bp, op, cp, World.cell?_setCell_same _ _ _ ha, hO, hl, keep _ _ _ hp⟩
  · rw [if_neg hq]
    exact ⟨b1, o1, c1, by rw [World.cell?_setCell_other _ _ _ _ (fun e => hq e.symm)]; exact h1, h2, h3, keep _ _ _ h4⟩
theorem GT.grow0 {tS tI lo n k : Nat} {w wA w' : World} {g c : Nat} {B : Nat → Nat} {xs : List Value} {t : List (List Int)} {bp cp : Nat} {p : List Int} (h : GT tS tI lo n k w (.slice (some ⟨g, 0, none⟩) k c) B xs t) (hk : 0 < k) (hk2 : k ≤ 1048576) (hn2 : n ≤ 1048576) (hx : Ext w wA) (hb : lo ≤ bp) (hpl : p.length ≤ 1048576) (hp : IntsAt w' bp 0 p) (hg : wA.grownBy w' (some (B 0))) :
    ∃ t', RowsP (fun b => lo ≤ b) (w'.setCell ⟨g, 0, none⟩ (.slice (some ⟨bp, 0, none⟩) p.length cp)) (.slice (some ⟨g, 0, none⟩) k c) t' ∧ t'.length = k := by
  have hA := h.ext hx
  have hgB : ∀ i, i < k → g ≠ B i := fun i hi e => by
    obtain ⟨d, -, -, -, h4⟩ := h.rw i hi
    exact h4 (by rw [← e]; rfl)
  have hgl := hA.own.lt g rfl
  have c0 : ∀ i, i < k → w'.cell? ⟨g, i, none⟩ = xs[i]? := fun i hi => by
    rw [World.cell?_of_block (w := wA) (a := ⟨g, i, none⟩) (hg.block g hgl.2 (fun e => hgB 0 hk (Option.some.inj e)))]
    exact hA.own.cellAt i (by omega)
  obtain ⟨d0, x0, -⟩ := h.rw 0 hk
  have c00 := (c0 0 hk).trans x0
  have keep : ∀ b1 l, IntsAt w' b1 0 l → IntsAt (w'.setCell ⟨g, 0, none⟩ (.slice (some ⟨bp, 0, none⟩) p.length cp)) b1 0 l := fun b1 l h3 j hj => by
    rw [World.cell?_setCell_other _ _ _ _ (fun e => by have := h3 j hj; rw [← e, c00] at this; cases this)]
    exact h3 j hj
  refine ⟨(List.range k).map fun i => if i = 0 then p else row t i, ⟨by simpa using hk2, g, 0, c, by simp, hgl.1, fun i hi => ?_⟩, by simp⟩
  have hi' : i < k := by simpa using hi
  have er : row ((List.range k).map fun i => if i = 0 then p else row t i) i = if i = 0 then p else row t i := by
    rw [row_eq]
    simp [List.getD_eq_getElem?_getD, hi']
  rw [er, Nat.zero_add]
  by_cases hq : i = 0
  · subst hq
    rw [if_pos rfl]
    exact ⟨bp, 0, cp, World.cell?_setCell_same _ _ _ c00, hb, hpl, keep _ _ hp⟩
  · rw [if_neg hq]
    obtain ⟨d, x1, x2, x3, x4⟩ := hA.rw i hi'
    have x5 := x2.kept hg (fun e => hq (h.inj _ _ hi' hk (Option.some.inj e)))
    obtain ⟨b', c', he, ho⟩ := x5.own (by simp)
    simp only [Value.slice.injEq, Option.some.injEq, Addr.mk.injEq, and_true] at he
    obtain ⟨rfl, e2, rfl⟩ := he
    exact ⟨B i, 0, d, by rw [World.cell?_setCell_other _ _ _ _ (fun e => hq (by simpa using (congrArg Addr.off e).symm)), c0 i hi', x3]; exact x1, (hA.lt hi').1, by omega, keep _ _ ho.2.2.1⟩
theorem TabF.rowsP {base : Nat} {w : World} {v : Value} {t : List (List Int)} (h : TabF base w v t) : RowsP (fun b => base ≤ b) w v t := by
  obtain ⟨h0, b, c, rfl, hb, hl, hr⟩ := h
  refine ⟨h0, b, 0, c, rfl, hb, fun i hi => ?_⟩
  obtain ⟨h1, x, h2, h3, b1, c1, rfl, h4, h5, h6, h7, h8⟩ := hr i hi
  exact ⟨b1, 0, c1, by rw [Nat.zero_add]; exact h2, h4, h3, h7⟩
end Go.Proofs.YtjfjpngajboidaaGreat


namespace Go.Proofs.YtjfjpngajboidaaGreat
set_option linter.unusedVariables false
set_option linter.unusedSimpArgs false
open Go.RowKit

theorem XT.xs {w : World} {xs : List Value} {s : List (List Int)} (h : XT w xs s) : XS w xs s := ⟨h.1, fun i hi => by
  obtain ⟨x, h1, h2⟩ := h.2 i hi
  exact ⟨x, h1, h2.ints⟩⟩
theorem XT.put {w : World} {xs : List Value} {s : List (List Int)} {x : Value} {p : List Int} (h : XT w xs s) (hx : RT w x p) (k : Nat) : XT w (xs.take k ++ ([x] ++ xs.drop k)) (s.take k ++ ([p] ++ s.drop k)) :=
  (h.take k).append ((XT.one hx).append (h.drop k))
structure ClsM (e base m : Nat) (w : World) (f cf g cg : Nat) (xf xg : List Value) (F G : List (List Int)) : Prop where
  of : w.ownsRow base e 1 (.slice (some ⟨f, 0, none⟩) F.length cf) F.length xf
  og : w.ownsRow base e 1 (.slice (some ⟨g, 0, none⟩) G.length cg) G.length xg
  tf : XT w xf F
  tg : XT w xg G
  ne : f ≠ g
  pf : 0 < F.length
  pg : 0 < G.length
  lf : ∀ i, i < F.length → (row F i).length = m
  lg : ∀ i, i < G.length → (row G i).length = m
theorem ClsM.ext {e base m : Nat} {w w' : World} {f cf g cg : Nat} {xf xg : List Value} {F G : List (List Int)} (h : ClsM e base m w f cf g cg xf xg F G) (hx : Ext w w') : ClsM e base m w' f cf g cg xf xg F G :=
  ⟨ownsRow_ext h.of hx, ownsRow_ext h.og hx, h.tf.ext hx, h.tg.ext hx, h.ne, h.pf, h.pg, h.lf, h.lg⟩
theorem own_head {e base : Nat} {w : World} {f cf : Nat} {xf : List Value} {F : List (List Int)} (h : w.ownsRow base e 1 (.slice (some ⟨f, 0, none⟩) F.length cf) F.length xf) (t : XT w xf F) (hp : 0 < F.length) : ∃ a n c, w.cell? ⟨f, 0, none⟩ = some (.slice a n c) := by
  obtain ⟨x, h1, -, b, c, rfl, -⟩ := t.2 0 hp
  exact ⟨_, _, _, by rw [h.cells (g := f) rfl 0 _ h1 |>.symm]; simp [Addr.add]⟩
theorem ClsM.put {e base m : Nat} {w w' : World} {f cf g cg : Nat} {xf xg : List Value} {F G : List (List Int)} (h : ClsM e base m w f cf g cg xf xg F G) (hm : 0 < m) {u : Value} {p : List Int} (hu : RT w u p) (hp : p.length = m) {k g' cg' : Nat} (hk : k ≤ G.length)
    (ho : w'.ownsRow base e 1 (.slice (some ⟨g', 0, none⟩) (G.length + 1) cg') (G.length + 1) (xg.take k ++ ([u] ++ xg.drop k))) (hv : some g = some g' ∨ w.heap.size ≤ g') (hg : w.grownBy w' (some g)) :
    ∃ G', G' = G.take k ++ ([p] ++ G.drop k) ∧ G'.length = G.length + 1 ∧ ClsM e base m w' f cf g' cg' xf (xg.take k ++ ([u] ++ xg.drop k)) F G' ∧ RT w' u p := by
  obtain ⟨a, n, c, hc⟩ := own_head h.og h.tg h.pg
  have hl : (G.take k ++ ([p] ++ G.drop k)).length = G.length + 1 := by simp; omega
  have hU : RT w' u p := hu.grown hg hc (by omega)
  have hF := h.tf.grown hg hc (fun i hi => by rw [h.lf i hi]; exact hm)
  have hG := h.tg.grown hg hc (fun i hi => by rw [h.lg i hi]; exact hm)
  refine ⟨_, rfl, hl, ⟨World.ownsRow.kept h.of hg (.inr fun e => h.ne (Option.some.inj e)), by rw [hl]; exact ho, hF, hG.put hU k, ?_, h.pf, by rw [hl]; omega, h.lf, ?_⟩, hU⟩
  · rcases hv with e | e
    · rw [← Option.some.inj e]; exact h.ne
    · have := (h.of.lt f rfl).2
      omega
  · intro i hi
    have hm2 : ∀ q, q ∈ G.take k ++ ([p] ++ G.drop k) → q.length = m := fun q hq => by
      have hGm : ∀ q, q ∈ G → q.length = m := fun q hq => by
        obtain ⟨i, hi, e⟩ := List.mem_iff_getElem.1 hq
        have := h.lg i hi
        rw [row_eq, List.getD_eq_getElem?_getD, List.getElem?_eq_getElem hi] at this
        rw [← e]; exact this
      rcases List.mem_append.1 hq with hq | hq
      · exact hGm q (List.mem_of_mem_take hq)
      · rcases List.mem_append.1 hq with hq | hq
        · rw [List.mem_singleton.1 hq]; exact hp
        · exact hGm q (List.mem_of_mem_drop hq)
    refine hm2 _ ?_
    rw [row_eq, List.getD_eq_getElem?_getD, List.getElem?_eq_getElem hi]
    exact List.getElem_mem hi
theorem ClsM.add {e base m : Nat} {w w' : World} {f cf g cg : Nat} {xf xg : List Value} {F G : List (List Int)} (h : ClsM e base m w f cf g cg xf xg F G) (hm : 0 < m) {u : Value} {p : List Int} (hu : RT w u p) (hp : p.length = m) {f' cf' : Nat}
    (ho : w'.ownsRow base e 1 (.slice (some ⟨f', 0, none⟩) (F.length + 1) cf') (F.length + 1) (xf ++ [u])) (hv : some f' = some f ∨ some f' = some w.heap.size) (hg : w.grownBy w' (some f)) :
    ClsM e base m w' f' cf' g cg (xf ++ [u]) xg (F ++ [p]) G ∧ RT w' u p := by
  obtain ⟨a, n, c, hc⟩ := own_head h.of h.tf h.pf
  have hl : (F ++ [p]).length = F.length + 1 := by simp
  have hU : RT w' u p := hu.grown hg hc (by omega)
  have hF := h.tf.grown hg hc (fun i hi => by rw [h.lf i hi]; exact hm)
  have hG := h.tg.grown hg hc (fun i hi => by rw [h.lg i hi]; exact hm)
  refine ⟨⟨by rw [hl]; exact ho, World.ownsRow.kept h.og hg (.inr fun e => h.ne (Option.some.inj e).symm), hF.append (XT.one hU), hG, ?_, by omega, h.pg, ?_, h.lg⟩, hU⟩
  · rcases hv with e | e
    · rw [Option.some.inj e]; exact h.ne
    · have := (h.og.lt g rfl).2
      have := Option.some.inj e
      omega
  · intro i hi
    rw [hl] at hi
    by_cases e : i < F.length
    · rw [row_eq, List.getD_eq_getElem?_getD, List.getElem?_append_left e, ← List.getD_eq_getElem?_getD, ← row_eq]; exact h.lf i e
    · have : i = F.length := by omega
      subst this
      rw [row_eq]; simp [List.getD, hp]
theorem ClsM.start {e base : Nat} {w w0 : World} {x1 x2 : Value} {p : List Int} (hb : base ≤ w.heap.size) (h1 : RT w x1 p) (hx : Ext (w.alloc (.cells #[x1] e)) w0) (h2 : RT w0 x2 p) :
    ClsM e base p.length (w0.alloc (.cells #[x2] e)) w.heap.size 1 w0.heap.size 1 [x1] [x2] [p] [p] := by
  have hz := hx.size
  simp at hz
  have hr : ∀ i, i < [p].length → (row [p] i).length = p.length := fun i hi => by
    have : i = 0 := by simpa using hi
    subst this
    rw [row_eq]; rfl
  exact ⟨ownsRow_ext (ownsRow_one hb) (hx.alloc _), ownsRow_one (by omega), ((XT.one h1).ext ((Ext.refl w).alloc _)).ext (hx.alloc _), (XT.one h2).ext ((Ext.refl w0).alloc _), by omega, by simp, by simp, hr, hr⟩
def BothM (m gb : Nat) (w : World) (A : Nat → List Int) : Prop := gb < w.heap.size ∧ ∀ j, j < 2 → (A j).length = m ∧ ∃ b c, w.cell? ⟨gb, j, none⟩ = some (.slice (some ⟨b, 0, none⟩) m c) ∧ RT w (.slice (some ⟨b, 0, none⟩) m c) (A j)
theorem BothM.ext {m gb : Nat} {w w' : World} {A : Nat → List Int} (h : BothM m gb w A) (hx : Ext w w') : BothM m gb w' A := ⟨Nat.lt_of_lt_of_le h.1 hx.size, fun j hj => by
  obtain ⟨h1, b, c, h2, h3⟩ := h.2 j hj
  exact ⟨h1, b, c, hx.cell h2, h3.ext hx⟩⟩
theorem BothM.grown {m gb g : Nat} {w w' : World} {A : Nat → List Int} (h : BothM m gb w A) (hg : w.grownBy w' (some g)) (hne : gb ≠ g) {a : Option Addr} {n c : Nat} (hc : w.cell? ⟨g, 0, none⟩ = some (.slice a n c)) (hm : 0 < m) : BothM m gb w' A := ⟨Nat.lt_of_lt_of_le h.1 hg.size, fun j hj => by
  obtain ⟨h1, b, c, h2, h3⟩ := h.2 j hj
  exact ⟨h1, b, c, by rw [World.cell?_of_block (w := w) (a := ⟨gb, j, none⟩) (hg.block gb h.1 (fun e => hne (Option.some.inj e)))]; exact h2, h3.grown hg hc (by omega)⟩⟩
theorem ClsM.headF {e base m : Nat} {w : World} {f cf g cg : Nat} {xf xg : List Value} {F G : List (List Int)} (h : ClsM e base m w f cf g cg xf xg F G) : ∃ a n c, w.cell? ⟨f, 0, none⟩ = some (.slice a n c) := own_head h.of h.tf h.pf
theorem ClsM.headG {e base m : Nat} {w : World} {f cf g cg : Nat} {xf xg : List Value} {F G : List (List Int)} (h : ClsM e base m w f cf g cg xf xg F G) : ∃ a n c, w.cell? ⟨g, 0, none⟩ = some (.slice a n c) := own_head h.og h.tg h.pg
theorem ClsM.at_ {e base m : Nat} {w : World} {f cf g cg : Nat} {xf xg : List Value} {F G : List (List Int)} (h : ClsM e base m w f cf g cg xf xg F G) {i : Nat} (hi : i < F.length) : ∃ b c, w.cell? ⟨f, i, none⟩ = some (.slice (some ⟨b, 0, none⟩) m c) ∧ RT w (.slice (some ⟨b, 0, none⟩) m c) (row F i) := by
  obtain ⟨x, h1, hl, b, c, rfl, hb⟩ := h.tf.2 i hi
  have hm := h.lf i hi
  rw [hm] at h1
  refine ⟨b, c, ?_, hl, b, c, by rw [hm], hb⟩
  rw [h.of.cellAt i (by omega)]; exact h1
end Go.Proofs.YtjfjpngajboidaaGreat
