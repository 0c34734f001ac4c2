/-
  Contracts of the program's leastBrace, LeastBrace.
-/
import Derived.Sort.CutIn
import Derived.Test.YthlafeefjonkdaaGreatDoorJx39
import Derived.Test.YthlafeefjonkdaaGreatDoorJx37
namespace Go.Proofs.YthlafeefjonkdaaGreatDoor
set_option linter.unusedVariables false
set_option linter.unusedSimpArgs false
open Go.RowKit Go.Shelf
open Go.Deep
attribute [local go_sem] Oper.semAt_some

theorem OwnT.laterQ {lo hi lo' hi' : Nat} {w w' : World} {b o : Nat} {t : List (List Int)} (h : OwnT lo hi w b o t) (hx : Ext w w') (hh : hi ≤ w.heap.size) (h1 : lo' ≤ lo) (h2 : hi ≤ hi') : OwnT lo' hi' w' b o t :=
  (h.keep (fun k _ hk => hx.block k (by omega))).mono h1 h2
def Calm (Q : Exit → Act → World → Prop) (e : Exit) (a : Act) (w : World) : Prop := e = .normal ∧ Q .normal a w
theorem Calm.put {Q : Exit → Act → World → Prop} {c : List PanicEntry} {a a' : Act} {w : World} (h : Calm Q (.panic c) a' w) : Calm Q (.panic c) a w := by have := h.1; cases this
theorem calm_lets (Q : Exit → Act → World → Prop) : ¬ LetsOut (Calm Q) := fun ⟨_, _, h⟩ => by have := h.1; cases this
theorem wp_calm {P : Program} {c : Code} {Q : Exit → Act → World → Prop} {a : Act} {w : World} (h : c.wp P (Calm Q) a w) : c.wp P Q a w :=
  wp_mono h fun e a w ⟨h1, h2⟩ => by subst h1; exact h2
theorem wpIn_calm {F : Fence} {n : Nat} {P : Program} {c : Code} {Q : Exit → Act → World → Prop} {a : Act} {w : World} (h : c.wpIn F n P (Calm Q) a w) : c.wpIn F n P Q a w :=
  wpIn_mono h fun e a w ⟨h1, h2⟩ => by subst h1; exact h2
theorem permutations_any (n : Nat) (w : World) :
    Calls Tryz.prog 52 #[.int .i64 n] w fun e w' => e = .returned (.func (.func 81) #[] #[.pointer (some ⟨w.heap.size, 0, none⟩)]) ∧ w' = w.alloc (.cells #[.int .i64 n] 3) := by
  go_enter Tryz.func52, Tryz.ntmps52
  go_wp2
  go_ret
  exact ⟨rfl, rfl⟩
theorem ne_cell {W : World} {a : Addr} {v : Value} {D : Nat} {x : Option (List Deferred)} (hc : W.cell? a = some v) (hK : W.heap[D]? = some (.deferred x)) : a.block ≠ D := fun e => by
  obtain ⟨o, ho, hc2⟩ := cells_of_cell hc
  rw [e, hK] at ho
  injection ho with ho
  subst ho
  simp [Obj.isCells] at hc2
theorem OwnT.putObj {lo hi : Nat} {W : World} {b : Nat} {t : List (List Int)} {D : Nat} {x : Option (List Deferred)} (h : OwnT lo hi W b 0 t) (h0 : 0 < t.length) (hr : ∀ i, i < t.length → 0 < (row t i).length) (hK : W.heap[D]? = some (.deferred x)) (o : Obj) : OwnT lo hi (W.putObj D o) b 0 t := by
  obtain ⟨h1, h2, B, O, C, h3, h4⟩ := h
  have hb := ne_cell (h3 0 h0).1 hK
  refine ⟨h1, h2, B, O, C, fun i hi => ?_, h4.1, h4.2.block (World.putObj_heap_other hb)⟩
  obtain ⟨a1, a2, a3⟩ := h3 i hi
  exact ⟨cell_putObj a1 hK o, a2.block (World.putObj_heap_other (ne_cell (a2.2.2.1 0 (hr i hi)) hK)), a3⟩
theorem TwoAt.putObj {O : Nat → Prop} {base : Nat} {W : World} {C : Nat} {T U : List (List Int)} {D : Nat} {x : Option (List Deferred)} (h : TwoAt O base W C T U) (hT : TableOk T) (hU : TableOk U) (hK : W.heap[D]? = some (.deferred x)) (o : Obj) : TwoAt O base (W.putObj D o) C T U := by
  obtain ⟨a, b, c, d, bA, cA, bB, cB, h1, h2, ⟨h3, h4⟩, ⟨h5, h6⟩, ⟨g1, g2, g3, g4, g5, g6, g7, g8⟩, o1, o2, o3⟩ := h
  have hb := ne_cell h1 hK
  refine ⟨a, b, c, d, bA, cA, bB, cB, cell_putObj h1 hK o, cell_putObj h2 hK o, ⟨?_, ?_⟩, ⟨h5.putObj hT.1 (fun i hi => by rw [hT.len hi]; exact hT.1) hK o, h6.putObj hU.1 (fun i hi => by rw [hU.len hi]; exact hU.1) hK o⟩, ⟨g1, by simp [World.putObj]; exact g2, g3, by simp [World.putObj]; exact g4, g5, g6, g7, g8⟩, o1, o2, o3⟩
  · rw [World.frozen?_of_block (w := W) (a := ⟨C, 0, none⟩) (World.putObj_heap_other hb)]; exact h3
  · rw [World.frozen?_of_block (w := W) (a := ⟨C, 1, none⟩) (World.putObj_heap_other hb)]; exact h4
theorem TwoAt.setLow {O : Nat → Prop} {base : Nat} {W : World} {C : Nat} {T U : List (List Int)} (h : TwoAt O base W C T U) {p : Addr} (hp : p.block < base) (v : Value) : TwoAt O base (W.setCell p v) C T U := by
  obtain ⟨a, b, c, d, bA, cA, bB, cB, h1, h2, ⟨h3, h4⟩, ⟨h5, h6⟩, ⟨g1, g2, g3, g4, g5, g6, g7, g8⟩, o1, o2, o3⟩ := h
  exact ⟨a, b, c, d, bA, cA, bB, cB, kc_set (by simp only []; omega) h1, kc_set (by simp only []; omega) h2, ⟨kf_set h3, kf_set h4⟩, ⟨h5.setOther (.inl (by omega)) _, h6.setOther (.inl (by omega)) _⟩, ⟨g1, by simp; exact g2, g3, by simp; exact g4, g5, g6, g7, g8⟩, o1, o2, o3⟩
def bestOf (t u : List (List Int)) (xs : List (List Int)) : List (List Int) × List (List Int) := xs.foldl (stepP t u) (t, u)
def LbI (t u : List (List Int)) (base : Nat) (w : World) (C : Nat) (xs : List (List Int)) (O : Nat → Prop) (W : World) : Prop :=
  TwoAt O base W C (bestOf t u xs).1 (bestOf t u xs).2 ∧ SinceX w C O W ∧ ∀ p, p ∈ xs → ix p 0 = 0
def LbX (t u : List (List Int)) (base : Nat) (w : World) (C : Nat) (xs : List (List Int)) (O : Nat → Prop) (W : World) : Prop :=
  ∃ ys p, xs = ys ++ [p] ∧ ix p 0 ≠ 0 ∧ LbI t u base w C ys O W
theorem lbI_stab (t u : List (List Int)) (base : Nat) (w : World) (C : Nat) : Stab (LbI t u base w C) := fun xs O O' W W' ⟨h1, h2, h3⟩ ho hO => ⟨h1.next ho hO, h2.next ho hO, h3⟩
theorem lbX_stab (t u : List (List Int)) (base : Nat) (w : World) (C : Nat) : Stab (LbX t u base w C) := fun xs O O' W W' ⟨ys, p, h1, h2, h3⟩ ho hO => ⟨ys, p, h1, h2, lbI_stab t u base w C _ _ _ _ _ h3 ho hO⟩
theorem best_small {t u : List (List Int)} (hT : TableOk t) (hU : TableOk u) (hl : u.length = t.length) : ∀ xs : List (List Int), (∀ p, p ∈ xs → IsoOk t.length [] [] p) → TableOk (bestOf t u xs).1 ∧ TableOk (bestOf t u xs).2 ∧ (bestOf t u xs).1.length = t.length ∧ (bestOf t u xs).2.length = t.length := by
  intro xs h
  unfold bestOf
  have : ∀ (xs : List (List Int)) (b : List (List Int) × List (List Int)), (∀ p, p ∈ xs → IsoOk t.length [] [] p) → (TableOk b.1 ∧ TableOk b.2 ∧ b.1.length = t.length ∧ b.2.length = t.length) → TableOk (xs.foldl (stepP t u) b).1 ∧ TableOk (xs.foldl (stepP t u) b).2 ∧ (xs.foldl (stepP t u) b).1.length = t.length ∧ (xs.foldl (stepP t u) b).2.length = t.length := by
    intro xs
    induction xs with
    | nil => intro b _ hb; exact hb
    | cons p xs ih =>
      intro b hp hb
      rw [List.foldl_cons]
      refine ih _ (fun q hq => hp q (by simp [hq])) ?_
      have h1 := hp p (by simp)
      cases hs : lessP (imgT t p, imgT u p) b with
      | true => rw [stepP_yes hs]; exact ⟨imgT_ok hT h1, imgT_ok hU (by rw [hl]; exact h1), length_imgT _ _, by rw [length_imgT, hl]⟩
      | false => rw [stepP_no hs]; exact hb
  exact this xs (t, u) h ⟨hT, hU, rfl, hl⟩
theorem table_small {t : List (List Int)} (h : TableOk t) : Small t := ⟨by have := h.2.1; omega, fun i => by
  by_cases hi : i < t.length
  · have := h.len hi; have := h.2.1; omega
  · rw [row_eq]; simp [List.getD, hi]⟩
theorem best_snoc (t u : List (List Int)) (xs : List (List Int)) (p : List Int) : bestOf t u (xs ++ [p]) = stepP t u (bestOf t u xs) p := by unfold bestOf; rw [List.foldl_append]; rfl
theorem best_all {t u : List (List Int)} (h : ∀ p, p ∈ isoL t.length [] [] → ix p 0 = 0) : bestOf t u (isoL t.length [] []) = leastP t u := by
  unfold bestOf leastP
  rw [List.filter_eq_self.2 (fun p hp => by simpa using h p hp)]
theorem best_stop {t u : List (List Int)} {ys : List (List Int)} {p : List Int} (h1 : 1 ≤ t.length) (hpre : ys ++ [p] <+: isoL t.length [] []) (h : ∀ p, p ∈ ys → ix p 0 = 0) (hp : ix p 0 ≠ 0) : bestOf t u ys = leastP t u := by
  obtain ⟨rest, hr⟩ := hpre
  have hz := zero_first (sorted_isoL t.length [] []) (fun q hq => ((mem_isoL.1 hq).bd (x := 0) (by omega)).1) ys p rest (by rw [← hr]; simp) h hp
  unfold bestOf leastP
  rw [hz]

set_option maxRecDepth 1000000 in
set_option maxHeartbeats 8000000 in
theorem leastBrace_any (t u : List (List Int)) (v y : Value) (w : World) (hv : Rows w v t) (hy : Rows w y u) (hT : TableOk t) (hU : TableOk u) (hl : u.length = t.length) :
    Calls Tryz.prog 30 #[.agg #[v, y]] w fun e w' => ∃ v' y', e = .returned (.agg #[v', y']) ∧ OwnB w.heap.size w'.heap.size w' v' y' (leastP t u).1 (leastP t u).2 ∧ Ext w w' := by
  obtain ⟨hlen, b, o, c, rfl, -⟩ := id hv
  obtain ⟨hlen2, b2, o2, c2, rfl, -⟩ := id hy
  obtain ⟨w0, hw0⟩ : ∃ w0, w0 = ((w.alloc (.cells #[.slice (some ⟨b, o, none⟩) t.length c, .slice (some ⟨b2, o2, none⟩) u.length c2] 26)).alloc (.cells #[.slice none 0 0, .slice none 0 0] 26)) := ⟨_, rfl⟩
  have hX : Ext w w0 := by rw [hw0]; exact ((Ext.refl _).alloc _).alloc _
  have k0 : w0.cell? ⟨w.heap.size, 0, none⟩ = some (.slice (some ⟨b, o, none⟩) t.length c) := by rw [hw0]; simp [go_sem]
  have k1 : w0.cell? ⟨w.heap.size, 1, none⟩ = some (.slice (some ⟨b2, o2, none⟩) u.length c2) := by rw [hw0]; simp [go_sem]
  have r0 : w0.cell? ⟨w.heap.size + 1, 0, none⟩ = some (.slice none 0 0) := by rw [hw0]; simp [go_sem]
  have r1 : w0.cell? ⟨w.heap.size + 1, 1, none⟩ = some (.slice none 0 0) := by rw [hw0]; simp [go_sem]
  have q0 : w0.frozen? ⟨w.heap.size + 1, 0, none⟩ = false := by rw [hw0]; simp [go_sem]
  have q1 : w0.frozen? ⟨w.heap.size + 1, 1, none⟩ = false := by rw [hw0]; simp [go_sem]
  have zA : w.heap.size + 2 ≤ w0.heap.size := by rw [hw0]; simp
  have HT := Lib.hid hT
  have HU := Lib.hid hU
  have HL := Lib.hid hl
  have h12 := hT.2.1
  have h1n := hT.1
  have HVV := Lib.hid (hv.ext hX)
  have HYY := Lib.hid (hy.ext hX)
  have HX := Lib.hid hX
  have hmx : Tryz.prog.follows .mixedOrders = true := by kernel_rfl
  clear hT hU hl hX
  refine (callsIn_wide (n := 0)).1 ?_
  (refine callsIn_of_wp_marks Tryz.func30 rfl trivial ?_ rfl; simp only [Tryz.ntmps30, List.size_toArray, List.length_cons, List.length_nil, Nat.reduceAdd, Nat.reduceSub, Array.replicate_succ, Array.replicate_zero, List.push_toArray, List.append_toArray, List.nil_append, List.cons_append])
  refine wpIn_wide.2 ?_
  go_upto_region 1 with (fail)
  rw [← hw0]
  clear hw0
  go_cut [3] from 6 to 12 (fun p wr => ∃ C, p = .pointer (some ⟨C, 0, none⟩) ∧ TwoAt (fun _ => False) w0.heap.size wr C t u ∧ Ext w0 wr)
  case first =>
    have HCA := Lib.hid (show ∀ W, Ext w0 W → Calls Tryz.prog 51 #[.slice (some ⟨b, o, none⟩) t.length c] W (NewT t W) from fun W h => cloneTable_any t _ W (HVV.out.ext h))
    have HCB := Lib.hid (show ∀ W, Ext w0 W → Calls Tryz.prog 51 #[.slice (some ⟨b2, o2, none⟩) u.length c2] W (NewT u W) from fun W h => cloneTable_any u _ W (HYY.out.ext h))
    refine wp_calm (wp_region_held_drew (S := fun w' => w'.cell? ⟨w.heap.size, 0, none⟩ = some (.slice (some ⟨b, o, none⟩) t.length c) ∧ w'.cell? ⟨w.heap.size, 1, none⟩ = some (.slice (some ⟨b2, o2, none⟩) u.length c2)) hmx ?_ (fun hHeld => ?_))
    · exact ⟨k0, k1⟩
    have hx5 : Ext w0 w0.drew := (Ext.refl _).drew
    have k05 : w0.drew.cell? ⟨w.heap.size, 0, none⟩ = some (.slice (some ⟨b, o, none⟩) t.length c) := k0
    have k15 : w0.drew.cell? ⟨w.heap.size, 1, none⟩ = some (.slice (some ⟨b2, o2, none⟩) u.length c2) := k1
    have z5 : w0.heap.size ≤ w0.drew.heap.size := Nat.le_refl _
    generalize w0.drew = w5 at *
    refine take_at (i := 0) (D := 6) (v := ?_) rfl (by kernel_rfl) (by kernel_rfl) (by kernel_rfl) (by kernel_rfl) (fun _ _ _ h => h.put) (Or.inl ⟨by kernel_rfl, ?_⟩) (by assumption) ?_
    rotate_left
    · (intro w hSw; (try dsimp only at hSw); go_simp; (try with_reducible rfl))
    try simp only [Act.put, List.setIfInBounds_toArray, List.set_cons_zero, List.set_cons_succ]
    refine take_at (i := 1) (D := 7) (v := ?_) rfl (by kernel_rfl) (by kernel_rfl) (by kernel_rfl) (by kernel_rfl) (fun _ _ _ h => h.put) (Or.inl ⟨by kernel_rfl, ?_⟩) (by assumption) ?_
    rotate_left
    · (intro w hSw; (try dsimp only at hSw); go_simp; (try with_reducible rfl))
    try simp only [Act.put, List.setIfInBounds_toArray, List.set_cons_zero, List.set_cons_succ]
    refine take_at (i := 3) (D := 9) (v := ?_) rfl (by kernel_rfl) (by kernel_rfl) (by kernel_rfl) (by kernel_rfl) (fun _ _ _ h => h.put) (Or.inl ⟨by kernel_rfl, ?_⟩) (by assumption) ?_
    rotate_left
    · (intro w hSw; (try dsimp only at hSw); go_simp; (try with_reducible rfl))
    try simp only [Act.put, List.setIfInBounds_toArray, List.set_cons_zero, List.set_cons_succ]
    refine take_at (i := 4) (D := 10) (v := ?_) rfl (by kernel_rfl) (by kernel_rfl) (by kernel_rfl) (by kernel_rfl) (fun _ _ _ h => h.put) (Or.inl ⟨by kernel_rfl, ?_⟩) (by assumption) ?_
    rotate_left
    · (intro w hSw; (try dsimp only at hSw); go_simp; (try with_reducible rfl))
    try simp only [Act.put, List.setIfInBounds_toArray, List.set_cons_zero, List.set_cons_succ]
    refine wpAnyH_ready (rs := [2, 7]) (by kernel_rfl) (by simp) ?_
    refine (AllReadyH.cons rfl (fun K hK => ?_) (AllReadyH.cons rfl (fun K hK => ?_) AllReadyH.nil))
    · go_simp
      go_at_call 51
      refine (HCA.out _ (by repeat first | (with_reducible assumption) )).mono ?_
      rintro e wA ⟨bA, cA, rfl, hoA, hxA⟩
      have zA := hxA.size
      refine hK.out _ _ ?_ (fun hHeld => ?_)
      · exact ⟨hxA.cell hHeld.1, hxA.cell hHeld.2⟩
      clear hK K
      try simp only [Act.put, List.setIfInBounds_toArray, List.set_cons_zero, List.set_cons_succ]
      refine wpAnyH_ready (rs := [5, 7]) (by kernel_rfl) (by simp) ?_
      refine (AllReadyH.cons rfl (fun K hK => ?_) (AllReadyH.cons rfl (fun K hK => ?_) AllReadyH.nil))
      · go_simp
        go_at_call 51
        refine (HCB.out _ (by repeat first | (with_reducible assumption) | (with_reducible refine Ext.trans ?_ hxA) )).mono ?_
        rintro e wB ⟨bB, cB, rfl, hoB, hxB⟩
        have zB := hxB.size
        refine hK.out _ _ ?_ (fun hHeld => ?_)
        · exact ⟨hxB.cell hHeld.1, hxB.cell hHeld.2⟩
        clear hK K
        try simp only [Act.put, List.setIfInBounds_toArray, List.set_cons_zero, List.set_cons_succ]
        refine take_at (i := 6) (D := 12) (v := ?_) rfl (by kernel_rfl) (by kernel_rfl) (by kernel_rfl) (by kernel_rfl) (fun _ _ _ h => h.put) (Or.inl ⟨by kernel_rfl, ?_⟩) (by assumption) ?_
        rotate_left
        · (intro w hSw; (try dsimp only at hSw); go_simp; (try with_reducible rfl))
        try simp only [Act.put, List.setIfInBounds_toArray, List.set_cons_zero, List.set_cons_succ]
        refine wpAnyH_ready (rs := [7]) (by kernel_rfl) (by simp) ?_
        refine (AllReadyH.cons rfl (fun K hK => ?_) AllReadyH.nil)
        · go_simp
          obtain ⟨wD, hwD⟩ : ∃ wD : World, wD = wB.alloc (.cells #[.slice none 0 0, .slice none 0 0] 26) := ⟨_, rfl⟩
          rw [← hwD]
          have hxD : Ext wB wD := by rw [hwD]; exact (Ext.refl _).alloc _
          have kD0 : wD.cell? ⟨wB.heap.size, 0, none⟩ = some (.slice none 0 0) := by rw [hwD]; exact cell_new2a _ _ _ _
          have kD1 : wD.cell? ⟨wB.heap.size, 1, none⟩ = some (.slice none 0 0) := by rw [hwD]; exact cell_new2b _ _ _ _
          have fD0 : wD.frozen? ⟨wB.heap.size, 0, none⟩ = false := by rw [hwD]; simp [go_sem]
          have fD1 : wD.frozen? ⟨wB.heap.size, 1, none⟩ = false := by rw [hwD]; simp [go_sem]
          have zD : wD.heap.size = wB.heap.size + 1 := by rw [hwD]; simp
          have zD := And.intro (Nat.le_of_eq zD) (Nat.le_of_eq zD.symm)
          clear hwD
          refine hK.out _ _ ?_ (fun hHeld => ?_)
          · exact ⟨hxD.cell hHeld.1, hxD.cell hHeld.2⟩
          clear hK K
          try simp only [Act.put, List.setIfInBounds_toArray, List.set_cons_zero, List.set_cons_succ]
          refine wpAnyH_ready (rs := [8]) (by kernel_rfl) (by simp) ?_
          refine AllReadyH.cons rfl (fun K hK => ?_) AllReadyH.nil
          go_simp
          refine hK.out _ _ ?_ (fun hHeld => ?_)
          · exact ⟨kc_set (by simp only []; omega) (kc_set (by simp only []; omega) hHeld.1), kc_set (by simp only []; omega) (kc_set (by simp only []; omega) hHeld.2)⟩
          clear hK K
          try simp only [Act.put, List.setIfInBounds_toArray, List.set_cons_zero, List.set_cons_succ]
          refine wpAnyH_done (by kernel_rfl) ⟨rfl, ?_⟩ _
          go_wp2_with fail
          go_meet
          case rel => exact ⟨_, rfl, TwoAt.mk kD0 kD1 fD0 fD1 ((hoA.laterQ hxB (by omega) (Nat.le_refl _) (Nat.le_refl _)).laterQ hxD (by omega) (Nat.le_refl _) (Nat.le_refl _)) (hoB.laterQ hxD (by omega) (Nat.le_refl _) (Nat.le_refl _)) rfl rfl (by omega), ((hx5.trans ((hxA.trans hxB).trans hxD)).setNew (by simp only []; omega) _).setNew (by simp only []; omega) _⟩
      · go_simp
        obtain ⟨wD, hwD⟩ : ∃ wD : World, wD = wA.alloc (.cells #[.slice none 0 0, .slice none 0 0] 26) := ⟨_, rfl⟩
        rw [← hwD]
        have hxD : Ext wA wD := by rw [hwD]; exact (Ext.refl _).alloc _
        have kD0 : wD.cell? ⟨wA.heap.size, 0, none⟩ = some (.slice none 0 0) := by rw [hwD]; exact cell_new2a _ _ _ _
        have kD1 : wD.cell? ⟨wA.heap.size, 1, none⟩ = some (.slice none 0 0) := by rw [hwD]; exact cell_new2b _ _ _ _
        have fD0 : wD.frozen? ⟨wA.heap.size, 0, none⟩ = false := by rw [hwD]; simp [go_sem]
        have fD1 : wD.frozen? ⟨wA.heap.size, 1, none⟩ = false := by rw [hwD]; simp [go_sem]
        have zD : wD.heap.size = wA.heap.size + 1 := by rw [hwD]; simp
        have zD := And.intro (Nat.le_of_eq zD) (Nat.le_of_eq zD.symm)
        clear hwD
        refine hK.out _ _ ?_ (fun hHeld => ?_)
        · exact ⟨hxD.cell hHeld.1, hxD.cell hHeld.2⟩
        clear hK K
        try simp only [Act.put, List.setIfInBounds_toArray, List.set_cons_zero, List.set_cons_succ]
        refine wpAnyH_ready (rs := [5]) (by kernel_rfl) (by simp) ?_
        refine (AllReadyH.cons rfl (fun K hK => ?_) AllReadyH.nil)
        · go_simp
          go_at_call 51
          refine (HCB.out _ (by repeat first | (with_reducible assumption) | (with_reducible refine Ext.trans ?_ hxA) | (with_reducible refine Ext.trans ?_ hxD) )).mono ?_
          rintro e wB ⟨bB, cB, rfl, hoB, hxB⟩
          have zB := hxB.size
          have kD0 := hxB.cell kD0
          have kD1 := hxB.cell kD1
          have fD0 := hxB.free fD0 (by simp only []; omega)
          have fD1 := hxB.free fD1 (by simp only []; omega)
          refine hK.out _ _ ?_ (fun hHeld => ?_)
          · exact ⟨hxB.cell hHeld.1, hxB.cell hHeld.2⟩
          clear hK K
          try simp only [Act.put, List.setIfInBounds_toArray, List.set_cons_zero, List.set_cons_succ]
          refine take_at (i := 6) (D := 12) (v := ?_) rfl (by kernel_rfl) (by kernel_rfl) (by kernel_rfl) (by kernel_rfl) (fun _ _ _ h => h.put) (Or.inl ⟨by kernel_rfl, ?_⟩) (by assumption) ?_
          rotate_left
          · (intro w hSw; (try dsimp only at hSw); go_simp; (try with_reducible rfl))
          try simp only [Act.put, List.setIfInBounds_toArray, List.set_cons_zero, List.set_cons_succ]
          refine wpAnyH_ready (rs := [8]) (by kernel_rfl) (by simp) ?_
          refine AllReadyH.cons rfl (fun K hK => ?_) AllReadyH.nil
          go_simp
          refine hK.out _ _ ?_ (fun hHeld => ?_)
          · exact ⟨kc_set (by simp only []; omega) (kc_set (by simp only []; omega) hHeld.1), kc_set (by simp only []; omega) (kc_set (by simp only []; omega) hHeld.2)⟩
          clear hK K
          try simp only [Act.put, List.setIfInBounds_toArray, List.set_cons_zero, List.set_cons_succ]
          refine wpAnyH_done (by kernel_rfl) ⟨rfl, ?_⟩ _
          go_wp2_with fail
          go_meet
          case rel => exact ⟨_, rfl, TwoAt.mk kD0 kD1 fD0 fD1 ((hoA.laterQ hxD (by omega) (Nat.le_refl _) (Nat.le_refl _)).laterQ hxB (by omega) (Nat.le_refl _) (Nat.le_refl _)) hoB rfl rfl (by omega), ((hx5.trans ((hxA.trans hxD).trans hxB)).setNew (by simp only []; omega) _).setNew (by simp only []; omega) _⟩
    · go_simp
      obtain ⟨wD, hwD⟩ : ∃ wD : World, wD = w5.alloc (.cells #[.slice none 0 0, .slice none 0 0] 26) := ⟨_, rfl⟩
      rw [← hwD]
      have hxD : Ext w5 wD := by rw [hwD]; exact (Ext.refl _).alloc _
      have kD0 : wD.cell? ⟨w5.heap.size, 0, none⟩ = some (.slice none 0 0) := by rw [hwD]; exact cell_new2a _ _ _ _
      have kD1 : wD.cell? ⟨w5.heap.size, 1, none⟩ = some (.slice none 0 0) := by rw [hwD]; exact cell_new2b _ _ _ _
      have fD0 : wD.frozen? ⟨w5.heap.size, 0, none⟩ = false := by rw [hwD]; simp [go_sem]
      have fD1 : wD.frozen? ⟨w5.heap.size, 1, none⟩ = false := by rw [hwD]; simp [go_sem]
      have zD : wD.heap.size = w5.heap.size + 1 := by rw [hwD]; simp
      have zD := And.intro (Nat.le_of_eq zD) (Nat.le_of_eq zD.symm)
      clear hwD
      refine hK.out _ _ ?_ (fun hHeld => ?_)
      · exact ⟨hxD.cell hHeld.1, hxD.cell hHeld.2⟩
      clear hK K
      try simp only [Act.put, List.setIfInBounds_toArray, List.set_cons_zero, List.set_cons_succ]
      refine wpAnyH_ready (rs := [2]) (by kernel_rfl) (by simp) ?_
      refine (AllReadyH.cons rfl (fun K hK => ?_) AllReadyH.nil)
      · go_simp
        go_at_call 51
        refine (HCA.out _ (by repeat first | (with_reducible assumption) | (with_reducible refine Ext.trans ?_ hxD) )).mono ?_
        rintro e wA ⟨bA, cA, rfl, hoA, hxA⟩
        have zA := hxA.size
        have kD0 := hxA.cell kD0
        have kD1 := hxA.cell kD1
        have fD0 := hxA.free fD0 (by simp only []; omega)
        have fD1 := hxA.free fD1 (by simp only []; omega)
        refine hK.out _ _ ?_ (fun hHeld => ?_)
        · exact ⟨hxA.cell hHeld.1, hxA.cell hHeld.2⟩
        clear hK K
        try simp only [Act.put, List.setIfInBounds_toArray, List.set_cons_zero, List.set_cons_succ]
        refine wpAnyH_ready (rs := [5]) (by kernel_rfl) (by simp) ?_
        refine (AllReadyH.cons rfl (fun K hK => ?_) AllReadyH.nil)
        · go_simp
          go_at_call 51
          refine (HCB.out _ (by repeat first | (with_reducible assumption) | (with_reducible refine Ext.trans ?_ hxD) | (with_reducible refine Ext.trans ?_ hxA) )).mono ?_
          rintro e wB ⟨bB, cB, rfl, hoB, hxB⟩
          have zB := hxB.size
          have kD0 := hxB.cell kD0
          have kD1 := hxB.cell kD1
          have fD0 := hxB.free fD0 (by simp only []; omega)
          have fD1 := hxB.free fD1 (by simp only []; omega)
          refine hK.out _ _ ?_ (fun hHeld => ?_)
          · exact ⟨hxB.cell hHeld.1, hxB.cell hHeld.2⟩
          clear hK K
          try simp only [Act.put, List.setIfInBounds_toArray, List.set_cons_zero, List.set_cons_succ]
          refine take_at (i := 6) (D := 12) (v := ?_) rfl (by kernel_rfl) (by kernel_rfl) (by kernel_rfl) (by kernel_rfl) (fun _ _ _ h => h.put) (Or.inl ⟨by kernel_rfl, ?_⟩) (by assumption) ?_
          rotate_left
          · (intro w hSw; (try dsimp only at hSw); go_simp; (try with_reducible rfl))
          try simp only [Act.put, List.setIfInBounds_toArray, List.set_cons_zero, List.set_cons_succ]
          refine wpAnyH_ready (rs := [8]) (by kernel_rfl) (by simp) ?_
          refine AllReadyH.cons rfl (fun K hK => ?_) AllReadyH.nil
          go_simp
          refine hK.out _ _ ?_ (fun hHeld => ?_)
          · exact ⟨kc_set (by simp only []; omega) (kc_set (by simp only []; omega) hHeld.1), kc_set (by simp only []; omega) (kc_set (by simp only []; omega) hHeld.2)⟩
          clear hK K
          try simp only [Act.put, List.setIfInBounds_toArray, List.set_cons_zero, List.set_cons_succ]
          refine wpAnyH_done (by kernel_rfl) ⟨rfl, ?_⟩ _
          go_wp2_with fail
          go_meet
          case rel => exact ⟨_, rfl, TwoAt.mk kD0 kD1 fD0 fD1 (hoA.laterQ hxB (by omega) (Nat.le_refl _) (Nat.le_refl _)) hoB rfl rfl (by omega), ((hx5.trans ((hxD.trans hxA).trans hxB)).setNew (by simp only []; omega) _).setNew (by simp only []; omega) _⟩
  case rest =>
    obtain ⟨C, rfl, hC, hx⟩ := hcut
    have k0' := hx.cell k0
    have k1' := hx.cell k1
    have r0' := hx.cell r0
    have r1' := hx.cell r1
    have q0' := hx.free q0 (by simp only []; omega)
    have q1' := hx.free q1 (by simp only []; omega)
    have zx := hx.size
    have HTC := Lib.hid hC
    have HXC := Lib.hid hx
    clear k0 k1 r0 r1 q0 q1 hC hx
    go_wp2_with fail
    refine (permutations_any _ _).mono ?_
    rintro e w2 ⟨rfl, hw2⟩
    have HX2 := Lib.hid (show Ext wc w2 by rw [hw2]; exact ext_box _ _ _)
    have k2 : w2.cell? ⟨wc.heap.size, 0, none⟩ = some (.int .i64 t.length) := by rw [hw2]; exact cell_new _ _ _
    replace k0' := HX2.out.cell k0'
    replace k1' := HX2.out.cell k1'
    replace r0' := HX2.out.cell r0'
    replace r1' := HX2.out.cell r1'
    have z2 := HX2.out.size
    replace q0' := HX2.out.free q0' (by simp only []; omega)
    replace q1' := HX2.out.free q1' (by simp only []; omega)
    clear hw2
    have HTW := Lib.hid (HTC.out.ext HX2.out)
    have hCw : w0.heap.size ≤ C := by
      obtain ⟨_, _, _, _, _, _, _, _, _, _, _, _, ⟨_, _, _, _, _, _, _, g⟩, _⟩ := HTC.out
      exact g
    have hC2 : C < w2.heap.size := HTW.out.lt
    have HXW := Lib.hid (HX.out.trans (HXC.out.trans HX2.out))
    go_wp2_with fail
    refine (wpIn_wide (n := 0)).1 ?_
    refine wpIn_rangeFunc_iso (fun k => k = C) t.length [] [] (isoL t.length [] []) rfl (enters_of Tryz.func81 (by kernel_rfl) rfl) rfl ?call
      (LbI t u w0.heap.size w2 C) (fun c xs O W => c = .exit 0 ∧ LbX t u w0.heap.size w2 C xs O W) (lbI_stab t u _ w2 C) (fun c xs O O' W W' ⟨h0, h⟩ ho hO => ⟨h0, lbX_stab t u _ w2 C xs O O' W W' h ho hO⟩) ?h0 ?a1 ?assign ?body ?done ?stop
    case call =>
      intro W l J Jx hW hJ hJx hY hj
      exact callsIn_wide.1 (perm1_in w2.heap.size (fun k => k = C) t.length l wc.heap.size J Jx hJ hJx hY h1n h12 W hW.size (hW.cell k2) hj 0)
    case assign =>
      intro m l Ib W K hK
      gi_wp2
      exact hK
    case h0 => exact ⟨HTW.out, SinceX.start _ _, fun p hp => by simp at hp⟩
    case body =>
      rintro m l xs p O W Ib ⟨hTW, hs, hz⟩ hp hpre hIb hpi hO
      have hpl := hp.1
      have i0 := hpi 0 (by rw [hpl]; exact h1n)
      rw [Nat.zero_add] at i0
      have hn0 : (0 : Int) < (t.length : Int) := by omega
      have b0 := hs.cell k0' (by simp only []; omega)
      have b1 := hs.cell k1' (by simp only []; omega)
      have hxw := hs.toExt HXW.out (by omega)
      have HPI := Lib.hid (show Ints W (.slice (some ⟨Ib, 0, none⟩) t.length t.length) p from ⟨by omega, Ib, 0, t.length, by rw [hpl], hpi⟩)
      have HS := Lib.hid hs
      have HZ := Lib.hid hz
      have HTT := Lib.hid hTW
      have HP := Lib.hid hp
      have HO := Lib.hid hO
      have HXX := Lib.hid hxw
      have HPR := Lib.hid hpre
      have zW := hs.size
      clear hTW hs hz hp hpre hIb hpi hO hpl hxw k0' k1' r0' r1' q0' q1'
      cases h0 : (ix p 0 != 0) with
      | true =>
        have h0' : ix p 0 ≠ 0 := by simpa using h0
        gi_wp2_with fail
        exact ⟨Rnd.refl _ _, rfl, xs, p, rfl, h0', HTT.out, HS.out, HZ.out⟩
      | false =>
        have h0' : ix p 0 = 0 := by simpa using h0
        gi_upto_region 5 with (fail)
        gi_cut [5] from 18 (fun q wr => ∃ D, q = .pointer (some ⟨D, 0, none⟩) ∧ TwoAt (fun _ => False) W.heap.size wr D (imgT t p) (imgT u p) ∧ Ext W wr)
        case first =>
          have HCA := Lib.hid (show ∀ W', Ext W W' → Calls Tryz.prog 53 #[.slice (some ⟨b, o, none⟩) t.length c, .slice (some ⟨Ib, 0, none⟩) t.length t.length] W' (NewT (imgT t p) W') from fun W' h => renamed_any t p _ _ W' (hv.ext (HXX.out.trans h)) (HPI.out.ext h) HT.out HP.out)
          have HCB := Lib.hid (show ∀ W', Ext W W' → Calls Tryz.prog 53 #[.slice (some ⟨b2, o2, none⟩) u.length c2, .slice (some ⟨Ib, 0, none⟩) t.length t.length] W' (NewT (imgT u p) W') from fun W' h => renamed_any u p _ _ W' (hy.ext (HXX.out.trans h)) (HPI.out.ext h) HU.out (by rw [HL.out]; exact HP.out))
          refine wpIn_calm (wpIn_region_any hmx ?_)
          change wpAnyIn _ _ _ _ _ _ _ _ _ (World.drew _)
          refine wpAnyIn_of_held (S := fun w' => w'.cell? ⟨w.heap.size, 0, none⟩ = some (.slice (some ⟨b, o, none⟩) t.length c) ∧ w'.cell? ⟨w.heap.size, 1, none⟩ = some (.slice (some ⟨b2, o2, none⟩) u.length c2)) (noDefer_spec (by kernel_rfl)) (calm_lets _) _ _ _ _ ?_
          have hHeld : W.drew.cell? ⟨w.heap.size, 0, none⟩ = some (.slice (some ⟨b, o, none⟩) t.length c) ∧ W.drew.cell? ⟨w.heap.size, 1, none⟩ = some (.slice (some ⟨b2, o2, none⟩) u.length c2) := ⟨b0, b1⟩
          have hx5 : Ext W W.drew := (Ext.refl _).drew
          have z5 : W.heap.size ≤ W.drew.heap.size := Nat.le_refl _
          generalize W.drew = w5 at *
          refine take_at (i := 0) (D := 22) (v := ?_) rfl (by kernel_rfl) (by kernel_rfl) (by kernel_rfl) (by kernel_rfl) (fun _ _ _ h => h.put) (Or.inl ⟨by kernel_rfl, ?_⟩) (by assumption) ?_
          rotate_left
          · (intro w hSw; (try dsimp only at hSw); go_simp; (try with_reducible rfl))
          try simp only [Act.put, List.setIfInBounds_toArray, List.set_cons_zero, List.set_cons_succ]
          refine take_at (i := 1) (D := 23) (v := ?_) rfl (by kernel_rfl) (by kernel_rfl) (by kernel_rfl) (by kernel_rfl) (fun _ _ _ h => h.put) (Or.inl ⟨by kernel_rfl, ?_⟩) (by assumption) ?_
          rotate_left
          · (intro w hSw; (try dsimp only at hSw); go_simp; (try with_reducible rfl))
          try simp only [Act.put, List.setIfInBounds_toArray, List.set_cons_zero, List.set_cons_succ]
          refine take_at (i := 2) (D := 24) (v := ?_) rfl (by kernel_rfl) (by kernel_rfl) (by kernel_rfl) (by kernel_rfl) (fun _ _ _ h => h.put) (Or.inl ⟨by kernel_rfl, ?_⟩) (by assumption) ?_
          rotate_left
          · (intro w hSw; (try dsimp only at hSw); go_simp; (try with_reducible rfl))
          try simp only [Act.put, List.setIfInBounds_toArray, List.set_cons_zero, List.set_cons_succ]
          refine take_at (i := 4) (D := 26) (v := ?_) rfl (by kernel_rfl) (by kernel_rfl) (by kernel_rfl) (by kernel_rfl) (fun _ _ _ h => h.put) (Or.inl ⟨by kernel_rfl, ?_⟩) (by assumption) ?_
          rotate_left
          · (intro w hSw; (try dsimp only at hSw); go_simp; (try with_reducible rfl))
          try simp only [Act.put, List.setIfInBounds_toArray, List.set_cons_zero, List.set_cons_succ]
          refine take_at (i := 5) (D := 27) (v := ?_) rfl (by kernel_rfl) (by kernel_rfl) (by kernel_rfl) (by kernel_rfl) (fun _ _ _ h => h.put) (Or.inl ⟨by kernel_rfl, ?_⟩) (by assumption) ?_
          rotate_left
          · (intro w hSw; (try dsimp only at hSw); go_simp; (try with_reducible rfl))
          try simp only [Act.put, List.setIfInBounds_toArray, List.set_cons_zero, List.set_cons_succ]
          refine take_at (i := 6) (D := 28) (v := ?_) rfl (by kernel_rfl) (by kernel_rfl) (by kernel_rfl) (by kernel_rfl) (fun _ _ _ h => h.put) (Or.inl ⟨by kernel_rfl, ?_⟩) (by assumption) ?_
          rotate_left
          · (intro w hSw; (try dsimp only at hSw); go_simp; (try with_reducible rfl))
          try simp only [Act.put, List.setIfInBounds_toArray, List.set_cons_zero, List.set_cons_succ]
          refine wpAnyH_ready (rs := [3, 9]) (by kernel_rfl) (by simp) ?_
          refine (AllReadyH.cons rfl (fun K hK => ?_) (AllReadyH.cons rfl (fun K hK => ?_) AllReadyH.nil))
          · go_simp
            go_at_call 53
            refine (HCA.out _ (by repeat first | (with_reducible assumption) )).mono ?_
            rintro e wA ⟨bA, cA, rfl, hoA, hxA⟩
            have zA := hxA.size
            refine hK.out _ _ ?_ (fun hHeld => ?_)
            · exact ⟨hxA.cell hHeld.1, hxA.cell hHeld.2⟩
            clear hK K
            try simp only [Act.put, List.setIfInBounds_toArray, List.set_cons_zero, List.set_cons_succ]
            refine wpAnyH_ready (rs := [7, 9]) (by kernel_rfl) (by simp) ?_
            refine (AllReadyH.cons rfl (fun K hK => ?_) (AllReadyH.cons rfl (fun K hK => ?_) AllReadyH.nil))
            · go_simp
              go_at_call 53
              refine (HCB.out _ (by repeat first | (with_reducible assumption) | (with_reducible refine Ext.trans ?_ hxA) )).mono ?_
              rintro e wB ⟨bB, cB, rfl, hoB, hxB⟩
              have zB := hxB.size
              refine hK.out _ _ ?_ (fun hHeld => ?_)
              · exact ⟨hxB.cell hHeld.1, hxB.cell hHeld.2⟩
              clear hK K
              try simp only [Act.put, List.setIfInBounds_toArray, List.set_cons_zero, List.set_cons_succ]
              refine take_at (i := 8) (D := 30) (v := ?_) rfl (by kernel_rfl) (by kernel_rfl) (by kernel_rfl) (by kernel_rfl) (fun _ _ _ h => h.put) (Or.inl ⟨by kernel_rfl, ?_⟩) (by assumption) ?_
              rotate_left
              · (intro w hSw; (try dsimp only at hSw); go_simp; (try with_reducible rfl))
              try simp only [Act.put, List.setIfInBounds_toArray, List.set_cons_zero, List.set_cons_succ]
              refine wpAnyH_ready (rs := [9]) (by kernel_rfl) (by simp) ?_
              refine (AllReadyH.cons rfl (fun K hK => ?_) AllReadyH.nil)
              · go_simp
                obtain ⟨wD, hwD⟩ : ∃ wD : World, wD = wB.alloc (.cells #[.slice none 0 0, .slice none 0 0] 26) := ⟨_, rfl⟩
                rw [← hwD]
                have hxD : Ext wB wD := by rw [hwD]; exact (Ext.refl _).alloc _
                have kD0 : wD.cell? ⟨wB.heap.size, 0, none⟩ = some (.slice none 0 0) := by rw [hwD]; exact cell_new2a _ _ _ _
                have kD1 : wD.cell? ⟨wB.heap.size, 1, none⟩ = some (.slice none 0 0) := by rw [hwD]; exact cell_new2b _ _ _ _
                have fD0 : wD.frozen? ⟨wB.heap.size, 0, none⟩ = false := by rw [hwD]; simp [go_sem]
                have fD1 : wD.frozen? ⟨wB.heap.size, 1, none⟩ = false := by rw [hwD]; simp [go_sem]
                have zD : wD.heap.size = wB.heap.size + 1 := by rw [hwD]; simp
                have zD := And.intro (Nat.le_of_eq zD) (Nat.le_of_eq zD.symm)
                clear hwD
                refine hK.out _ _ ?_ (fun hHeld => ?_)
                · exact ⟨hxD.cell hHeld.1, hxD.cell hHeld.2⟩
                clear hK K
                try simp only [Act.put, List.setIfInBounds_toArray, List.set_cons_zero, List.set_cons_succ]
                refine wpAnyH_ready (rs := [10]) (by kernel_rfl) (by simp) ?_
                refine AllReadyH.cons rfl (fun K hK => ?_) AllReadyH.nil
                go_simp
                refine hK.out _ _ ?_ (fun hHeld => ?_)
                · exact ⟨kc_set (by simp only []; omega) (kc_set (by simp only []; omega) hHeld.1), kc_set (by simp only []; omega) (kc_set (by simp only []; omega) hHeld.2)⟩
                clear hK K
                try simp only [Act.put, List.setIfInBounds_toArray, List.set_cons_zero, List.set_cons_succ]
                refine wpAnyH_done (by kernel_rfl) ⟨rfl, ?_⟩ _
                gi_wp2_with fail
                gi_meet
                case rel => exact ⟨_, rfl, TwoAt.mk kD0 kD1 fD0 fD1 ((hoA.laterQ hxB (by omega) (Nat.le_refl _) (Nat.le_refl _)).laterQ hxD (by omega) (Nat.le_refl _) (Nat.le_refl _)) (hoB.laterQ hxD (by omega) (Nat.le_refl _) (Nat.le_refl _)) rfl rfl (by omega), ((hx5.trans ((hxA.trans hxB).trans hxD)).setNew (by simp only []; omega) _).setNew (by simp only []; omega) _⟩
            · go_simp
              obtain ⟨wD, hwD⟩ : ∃ wD : World, wD = wA.alloc (.cells #[.slice none 0 0, .slice none 0 0] 26) := ⟨_, rfl⟩
              rw [← hwD]
              have hxD : Ext wA wD := by rw [hwD]; exact (Ext.refl _).alloc _
              have kD0 : wD.cell? ⟨wA.heap.size, 0, none⟩ = some (.slice none 0 0) := by rw [hwD]; exact cell_new2a _ _ _ _
              have kD1 : wD.cell? ⟨wA.heap.size, 1, none⟩ = some (.slice none 0 0) := by rw [hwD]; exact cell_new2b _ _ _ _
              have fD0 : wD.frozen? ⟨wA.heap.size, 0, none⟩ = false := by rw [hwD]; simp [go_sem]
              have fD1 : wD.frozen? ⟨wA.heap.size, 1, none⟩ = false := by rw [hwD]; simp [go_sem]
              have zD : wD.heap.size = wA.heap.size + 1 := by rw [hwD]; simp
              have zD := And.intro (Nat.le_of_eq zD) (Nat.le_of_eq zD.symm)
              clear hwD
              refine hK.out _ _ ?_ (fun hHeld => ?_)
              · exact ⟨hxD.cell hHeld.1, hxD.cell hHeld.2⟩
              clear hK K
              try simp only [Act.put, List.setIfInBounds_toArray, List.set_cons_zero, List.set_cons_succ]
              refine wpAnyH_ready (rs := [7]) (by kernel_rfl) (by simp) ?_
              refine (AllReadyH.cons rfl (fun K hK => ?_) AllReadyH.nil)
              · go_simp
                go_at_call 53
                refine (HCB.out _ (by repeat first | (with_reducible assumption) | (with_reducible refine Ext.trans ?_ hxA) | (with_reducible refine Ext.trans ?_ hxD) )).mono ?_
                rintro e wB ⟨bB, cB, rfl, hoB, hxB⟩
                have zB := hxB.size
                have kD0 := hxB.cell kD0
                have kD1 := hxB.cell kD1
                have fD0 := hxB.free fD0 (by simp only []; omega)
                have fD1 := hxB.free fD1 (by simp only []; omega)
                refine hK.out _ _ ?_ (fun hHeld => ?_)
                · exact ⟨hxB.cell hHeld.1, hxB.cell hHeld.2⟩
                clear hK K
                try simp only [Act.put, List.setIfInBounds_toArray, List.set_cons_zero, List.set_cons_succ]
                refine take_at (i := 8) (D := 30) (v := ?_) rfl (by kernel_rfl) (by kernel_rfl) (by kernel_rfl) (by kernel_rfl) (fun _ _ _ h => h.put) (Or.inl ⟨by kernel_rfl, ?_⟩) (by assumption) ?_
                rotate_left
                · (intro w hSw; (try dsimp only at hSw); go_simp; (try with_reducible rfl))
                try simp only [Act.put, List.setIfInBounds_toArray, List.set_cons_zero, List.set_cons_succ]
                refine wpAnyH_ready (rs := [10]) (by kernel_rfl) (by simp) ?_
                refine AllReadyH.cons rfl (fun K hK => ?_) AllReadyH.nil
                go_simp
                refine hK.out _ _ ?_ (fun hHeld => ?_)
                · exact ⟨kc_set (by simp only []; omega) (kc_set (by simp only []; omega) hHeld.1), kc_set (by simp only []; omega) (kc_set (by simp only []; omega) hHeld.2)⟩
                clear hK K
                try simp only [Act.put, List.setIfInBounds_toArray, List.set_cons_zero, List.set_cons_succ]
                refine wpAnyH_done (by kernel_rfl) ⟨rfl, ?_⟩ _
                gi_wp2_with fail
                gi_meet
                case rel => exact ⟨_, rfl, TwoAt.mk kD0 kD1 fD0 fD1 ((hoA.laterQ hxD (by omega) (Nat.le_refl _) (Nat.le_refl _)).laterQ hxB (by omega) (Nat.le_refl _) (Nat.le_refl _)) hoB rfl rfl (by omega), ((hx5.trans ((hxA.trans hxD).trans hxB)).setNew (by simp only []; omega) _).setNew (by simp only []; omega) _⟩
          · go_simp
            obtain ⟨wD, hwD⟩ : ∃ wD : World, wD = w5.alloc (.cells #[.slice none 0 0, .slice none 0 0] 26) := ⟨_, rfl⟩
            rw [← hwD]
            have hxD : Ext w5 wD := by rw [hwD]; exact (Ext.refl _).alloc _
            have kD0 : wD.cell? ⟨w5.heap.size, 0, none⟩ = some (.slice none 0 0) := by rw [hwD]; exact cell_new2a _ _ _ _
            have kD1 : wD.cell? ⟨w5.heap.size, 1, none⟩ = some (.slice none 0 0) := by rw [hwD]; exact cell_new2b _ _ _ _
            have fD0 : wD.frozen? ⟨w5.heap.size, 0, none⟩ = false := by rw [hwD]; simp [go_sem]
            have fD1 : wD.frozen? ⟨w5.heap.size, 1, none⟩ = false := by rw [hwD]; simp [go_sem]
            have zD : wD.heap.size = w5.heap.size + 1 := by rw [hwD]; simp
            have zD := And.intro (Nat.le_of_eq zD) (Nat.le_of_eq zD.symm)
            clear hwD
            refine hK.out _ _ ?_ (fun hHeld => ?_)
            · exact ⟨hxD.cell hHeld.1, hxD.cell hHeld.2⟩
            clear hK K
            try simp only [Act.put, List.setIfInBounds_toArray, List.set_cons_zero, List.set_cons_succ]
            refine wpAnyH_ready (rs := [3]) (by kernel_rfl) (by simp) ?_
            refine (AllReadyH.cons rfl (fun K hK => ?_) AllReadyH.nil)
            · go_simp
              go_at_call 53
              refine (HCA.out _ (by repeat first | (with_reducible assumption) | (with_reducible refine Ext.trans ?_ hxD) )).mono ?_
              rintro e wA ⟨bA, cA, rfl, hoA, hxA⟩
              have zA := hxA.size
              have kD0 := hxA.cell kD0
              have kD1 := hxA.cell kD1
              have fD0 := hxA.free fD0 (by simp only []; omega)
              have fD1 := hxA.free fD1 (by simp only []; omega)
              refine hK.out _ _ ?_ (fun hHeld => ?_)
              · exact ⟨hxA.cell hHeld.1, hxA.cell hHeld.2⟩
              clear hK K
              try simp only [Act.put, List.setIfInBounds_toArray, List.set_cons_zero, List.set_cons_succ]
              refine wpAnyH_ready (rs := [7]) (by kernel_rfl) (by simp) ?_
              refine (AllReadyH.cons rfl (fun K hK => ?_) AllReadyH.nil)
              · go_simp
                go_at_call 53
                refine (HCB.out _ (by repeat first | (with_reducible assumption) | (with_reducible refine Ext.trans ?_ hxD) | (with_reducible refine Ext.trans ?_ hxA) )).mono ?_
                rintro e wB ⟨bB, cB, rfl, hoB, hxB⟩
                have zB := hxB.size
                have kD0 := hxB.cell kD0
                have kD1 := hxB.cell kD1
                have fD0 := hxB.free fD0 (by simp only []; omega)
                have fD1 := hxB.free fD1 (by simp only []; omega)
                refine hK.out _ _ ?_ (fun hHeld => ?_)
                · exact ⟨hxB.cell hHeld.1, hxB.cell hHeld.2⟩
                clear hK K
                try simp only [Act.put, List.setIfInBounds_toArray, List.set_cons_zero, List.set_cons_succ]
                refine take_at (i := 8) (D := 30) (v := ?_) rfl (by kernel_rfl) (by kernel_rfl) (by kernel_rfl) (by kernel_rfl) (fun _ _ _ h => h.put) (Or.inl ⟨by kernel_rfl, ?_⟩) (by assumption) ?_
                rotate_left
                · (intro w hSw; (try dsimp only at hSw); go_simp; (try with_reducible rfl))
                try simp only [Act.put, List.setIfInBounds_toArray, List.set_cons_zero, List.set_cons_succ]
                refine wpAnyH_ready (rs := [10]) (by kernel_rfl) (by simp) ?_
                refine AllReadyH.cons rfl (fun K hK => ?_) AllReadyH.nil
                go_simp
                refine hK.out _ _ ?_ (fun hHeld => ?_)
                · exact ⟨kc_set (by simp only []; omega) (kc_set (by simp only []; omega) hHeld.1), kc_set (by simp only []; omega) (kc_set (by simp only []; omega) hHeld.2)⟩
                clear hK K
                try simp only [Act.put, List.setIfInBounds_toArray, List.set_cons_zero, List.set_cons_succ]
                refine wpAnyH_done (by kernel_rfl) ⟨rfl, ?_⟩ _
                gi_wp2_with fail
                gi_meet
                case rel => exact ⟨_, rfl, TwoAt.mk kD0 kD1 fD0 fD1 (hoA.laterQ hxB (by omega) (Nat.le_refl _) (Nat.le_refl _)) hoB rfl rfl (by omega), ((hx5.trans ((hxD.trans hxA).trans hxB)).setNew (by simp only []; omega) _).setNew (by simp only []; omega) _⟩
        case rest =>
          obtain ⟨D, rfl, hD, hx⟩ := hcut
          have hB := best_small HT.out HU.out HL.out xs (fun q hq => by
            obtain ⟨r, hr⟩ := HPR.out
            refine mem_isoL.1 ?_
            rw [← hr]; simp [hq])
          have hI1 := table_small (imgT_ok HT.out HP.out)
          have hI2 := table_small (imgT_ok HU.out (p := p) (by rw [HL.out]; exact HP.out))
          obtain ⟨bA, cA, bB, cB, e0, e1, rA, rB⟩ := (HTT.out.ext hx).rows (n := 0) (table_small hB.1) (table_small hB.2.1)
          obtain ⟨dA, eA, dB, eB, d0, d1, sA, sB⟩ := hD.rows (n := 0) hI1 hI2
          have HC := Lib.hid (compareBraces_any _ _ _ _ _ _ _ _ wc sA sB rA rB)
          have HDD := Lib.hid hD
          have HXC2 := Lib.hid hx
          have zc := hx.size
          have HB := Lib.hid hB
          clear hD hx hB hI1 hI2 rA rB sA sB
          cases hlt : lessP (imgT t p, imgT u p) ((bestOf t u xs).1, (bestOf t u xs).2) with
          | true =>
            have hlt' : cmpP (imgT t p, imgT u p) ((bestOf t u xs).1, (bestOf t u xs).2) < 0 := by
              have := cmpP_lt (imgT t p, imgT u p) ((bestOf t u xs).1, (bestOf t u xs).2)
              rw [hlt] at this
              exact of_decide_eq_true this
            have HST := Lib.hid (show bestOf t u (xs ++ [p]) = (imgT t p, imgT u p) by rw [best_snoc]; exact stepP_yes hlt)
            clear hlt
            gi_wp2_with fail
            refine ⟨trivial, fun h => absurd h (by decide), (CallsIn.inRound l (callsIn_wide.2 HC.out)).mono ?_⟩
            rintro e w7 ⟨rfl, hx7⟩
            have HT7 := Lib.hid (HTT.out.ext (HXC2.out.trans hx7))
            have HD7 := Lib.hid (HDD.out.ext hx7)
            replace e0 := hx7.cell e0
            replace e1 := hx7.cell e1
            replace d0 := hx7.cell d0
            replace d1 := hx7.cell d1
            obtain ⟨f0, f1⟩ : w7.frozen? ⟨C, 0, none⟩ = false ∧ w7.frozen? ⟨C, 1, none⟩ = false := by
              obtain ⟨_, _, _, _, _, _, _, _, _, _, g, _⟩ := HT7.out
              exact g
            have HX7 := Lib.hid (HXC2.out.trans hx7)
            have hOC : ¬ O C := by
              obtain ⟨_, _, _, _, _, _, _, _, _, _, _, _, _, _, _, g⟩ := HT7.out
              exact g
            clear hx7
            gi_wp2_with fail
            refine ⟨Rnd.setCell (X := fun k => k = C) (a := ⟨C, 1, none⟩) (Rnd.setCell (X := fun k => k = C) (a := ⟨C, 0, none⟩) ((Rnd.refl _ _).ext HX7.out (by omega)) hOC (.inl rfl) _) hOC (.inl rfl) _, ?_, ((HS.out.ext HX7.out).setC rfl _).setC rfl _, fun q hq => ?_⟩
            · rw [HST.out]
              exact HT7.out.copy HD7.out d0 d1 (by omega) (by omega) (fun k e => (HO.out k e).2)
            · rcases List.mem_append.1 hq with hq | hq
              · exact HZ.out q hq
              · have : q = p := by simpa using hq
                rw [this]; exact h0'
          | false =>
            have hlt' : ¬ cmpP (imgT t p, imgT u p) ((bestOf t u xs).1, (bestOf t u xs).2) < 0 := by
              have := cmpP_lt (imgT t p, imgT u p) ((bestOf t u xs).1, (bestOf t u xs).2)
              rw [hlt] at this
              exact of_decide_eq_false this
            have HST := Lib.hid (show bestOf t u (xs ++ [p]) = bestOf t u xs by rw [best_snoc]; exact stepP_no hlt)
            clear hlt
            gi_wp2_with fail
            refine ⟨trivial, fun h => absurd h (by decide), (CallsIn.inRound l (callsIn_wide.2 HC.out)).mono ?_⟩
            rintro e w7 ⟨rfl, hx7⟩
            have HX7 := Lib.hid (HXC2.out.trans hx7)
            clear hx7
            gi_wp2_with fail
            refine ⟨(Rnd.refl _ _).ext HX7.out (by omega), ?_, HS.out.ext HX7.out, fun q hq => ?_⟩
            · rw [HST.out]
              exact HTT.out.ext HX7.out
            · rcases List.mem_append.1 hq with hq | hq
              · exact HZ.out q hq
              · have : q = p := by simpa using hq
                rw [this]; exact h0'
    case done =>
      rintro D O W hD ⟨hTW, hs, hz⟩ hK
      have hB := best_small HT.out HU.out HL.out (isoL t.length [] []) (fun q hq => mem_isoL.1 hq)
      obtain ⟨bA, cA, bB, cB, e0, e1, -, -⟩ := hTW.rows (n := 0) (table_small hB.1) (table_small hB.2.1)
      have hE : ∀ k, k ≠ w.heap.size + 1 → True := fun _ _ => trivial
      have s0 := hs.cell r0' (by simp only []; omega)
      have s1 := hs.cell r1' (by simp only []; omega)
      have f0 := hs.free q0' (by simp only []; omega) (by simp only []; omega)
      have f1 := hs.free q1' (by simp only []; omega) (by simp only []; omega)
      have HTT := Lib.hid hTW
      have HS := Lib.hid hs
      have HB := Lib.hid hB
      have HBE := Lib.hid (show bestOf t u (isoL t.length [] []) = leastP t u from best_all hz)
      have hDn : w.heap.size + 1 ≠ D := by omega
      have hsz := hs.size
      clear hTW hs hz hB hE k0' k1' r0' r1' q0' q1'
      have hK2 : ((W.setCell ⟨w.heap.size + 1, 0, none⟩ (.slice (some ⟨bA, 0, none⟩) (bestOf t u (isoL t.length [] [])).1.length cA)).setCell ⟨w.heap.size + 1, 1, none⟩ (.slice (some ⟨bB, 0, none⟩) (bestOf t u (isoL t.length [] [])).2.length cB)).heap[D]? = some (.deferred (some [])) := by
        rw [Below.heap_setCell _ _ _ _ (fun e => hDn e.symm), Below.heap_setCell _ _ _ _ (fun e => hDn e.symm)]; exact hK
      have y0 := cell_putObj (a := ⟨w.heap.size + 1, 0, none⟩) (kc_set2 (by simp) (kc_same s0)) hK2 (.deferred none)
      have y1 := cell_putObj (a := ⟨w.heap.size + 1, 1, none⟩) (kc_same (kc_set2 (by simp) s1)) hK2 (.deferred none)
      have c0 := cell_putObj (a := ⟨C, 0, none⟩) (kc_set (by simp only []; omega) (kc_set (by simp only []; omega) e0)) hK2 (.deferred none)
      have c1 := cell_putObj (a := ⟨C, 1, none⟩) (kc_set (by simp only []; omega) (kc_set (by simp only []; omega) e1)) hK2 (.deferred none)
      have hfin := ((HTT.out.setLow (p := ⟨w.heap.size + 1, 0, none⟩) (by simp only []; omega) (.slice (some ⟨bA, 0, none⟩) (bestOf t u (isoL t.length [] [])).1.length cA)).setLow (p := ⟨w.heap.size + 1, 1, none⟩) (by simp only []; omega) (.slice (some ⟨bB, 0, none⟩) (bestOf t u (isoL t.length [] [])).2.length cB)).putObj HB.out.1 HB.out.2.1 hK2 (.deferred none)
      have hown := hfin.ownB (lo := w.heap.size) c0 c1 (table_small HB.out.1) (table_small HB.out.2.1) (by omega) (Nat.le_refl _)
      have hext := (((HS.out.toExt HXW.out (by omega)).setNew (p := ⟨w.heap.size + 1, 0, none⟩) (by simp only []; omega) (.slice (some ⟨bA, 0, none⟩) (bestOf t u (isoL t.length [] [])).1.length cA)).setNew (p := ⟨w.heap.size + 1, 1, none⟩) (by simp only []; omega) (.slice (some ⟨bB, 0, none⟩) (bestOf t u (isoL t.length [] [])).2.length cB)).putObj (D := D) (by omega) (.deferred none)
      have hDw : w2.heap.size ≤ D := hD
      go_wp2
      refine ⟨by simp, .inl ⟨_, _, rfl, run_takeDeferred hK2, ?_⟩⟩
      exact ⟨.agg #[.slice (some ⟨bA, 0, none⟩) (bestOf t u (isoL t.length [] [])).1.length cA, .slice (some ⟨bB, 0, none⟩) (bestOf t u (isoL t.length [] [])).2.length cB], by simp [results, Tryz.results30, go_sem, y0, y1], _, _, rfl, by have := hown; rw [HBE.out] at this ⊢; exact this, hext⟩
    case stop =>
      rintro D c q O W hD hq0 hqp ⟨rfl, ys, p, rfl, hp0, hTW, hs, hz⟩ hK
      have hB := best_small HT.out HU.out HL.out ys (fun q hq => by
        obtain ⟨r, hr⟩ := hqp
        refine mem_isoL.1 ?_
        rw [← hr]; simp [hq])
      obtain ⟨bA, cA, bB, cB, e0, e1, -, -⟩ := hTW.rows (n := 0) (table_small hB.1) (table_small hB.2.1)
      have hE : ∀ k, k ≠ w.heap.size + 1 → True := fun _ _ => trivial
      have s0 := hs.cell r0' (by simp only []; omega)
      have s1 := hs.cell r1' (by simp only []; omega)
      have f0 := hs.free q0' (by simp only []; omega) (by simp only []; omega)
      have f1 := hs.free q1' (by simp only []; omega) (by simp only []; omega)
      have HTT := Lib.hid hTW
      have HS := Lib.hid hs
      have HB := Lib.hid hB
      have HBE := Lib.hid (show bestOf t u ys = leastP t u from best_stop h1n hqp hz hp0)
      have hDn : w.heap.size + 1 ≠ D := by omega
      have hsz := hs.size
      clear hTW hs hz hB hE k0' k1' r0' r1' q0' q1'
      refine wpIn_wide.2 ?_
      have hK2 : ((W.setCell ⟨w.heap.size + 1, 0, none⟩ (.slice (some ⟨bA, 0, none⟩) (bestOf t u ys).1.length cA)).setCell ⟨w.heap.size + 1, 1, none⟩ (.slice (some ⟨bB, 0, none⟩) (bestOf t u ys).2.length cB)).heap[D]? = some (.deferred (some [])) := by
        rw [Below.heap_setCell _ _ _ _ (fun e => hDn e.symm), Below.heap_setCell _ _ _ _ (fun e => hDn e.symm)]; exact hK
      have y0 := cell_putObj (a := ⟨w.heap.size + 1, 0, none⟩) (kc_set2 (by simp) (kc_same s0)) hK2 (.deferred none)
      have y1 := cell_putObj (a := ⟨w.heap.size + 1, 1, none⟩) (kc_same (kc_set2 (by simp) s1)) hK2 (.deferred none)
      have c0 := cell_putObj (a := ⟨C, 0, none⟩) (kc_set (by simp only []; omega) (kc_set (by simp only []; omega) e0)) hK2 (.deferred none)
      have c1 := cell_putObj (a := ⟨C, 1, none⟩) (kc_set (by simp only []; omega) (kc_set (by simp only []; omega) e1)) hK2 (.deferred none)
      have hfin := ((HTT.out.setLow (p := ⟨w.heap.size + 1, 0, none⟩) (by simp only []; omega) (.slice (some ⟨bA, 0, none⟩) (bestOf t u ys).1.length cA)).setLow (p := ⟨w.heap.size + 1, 1, none⟩) (by simp only []; omega) (.slice (some ⟨bB, 0, none⟩) (bestOf t u ys).2.length cB)).putObj HB.out.1 HB.out.2.1 hK2 (.deferred none)
      have hown := hfin.ownB (lo := w.heap.size) c0 c1 (table_small HB.out.1) (table_small HB.out.2.1) (by omega) (Nat.le_refl _)
      have hext := (((HS.out.toExt HXW.out (by omega)).setNew (p := ⟨w.heap.size + 1, 0, none⟩) (by simp only []; omega) (.slice (some ⟨bA, 0, none⟩) (bestOf t u ys).1.length cA)).setNew (p := ⟨w.heap.size + 1, 1, none⟩) (by simp only []; omega) (.slice (some ⟨bB, 0, none⟩) (bestOf t u ys).2.length cB)).putObj (D := D) (by omega) (.deferred none)
      have hDw : w2.heap.size ≤ D := hD
      go_wp2
      refine ⟨by simp, .inl ⟨_, _, rfl, run_takeDeferred hK2, ?_⟩⟩
      exact ⟨.agg #[.slice (some ⟨bA, 0, none⟩) (bestOf t u ys).1.length cA, .slice (some ⟨bB, 0, none⟩) (bestOf t u ys).2.length cB], by simp [results, Tryz.results30, go_sem, y0, y1], _, _, rfl, by have := hown; rw [HBE.out] at this ⊢; exact this, hext⟩
end Go.Proofs.YthlafeefjonkdaaGreatDoor


namespace Go.Proofs.YthlafeefjonkdaaGreatDoor
set_option linter.unusedVariables false
set_option linter.unusedSimpArgs false
open Go.RowKit
attribute [local go_sem ↓] Go.wp_at_zero Go.wp_at_succ

theorem OwnB.set2 {lo hi lo' : Nat} {w : World} {v y : Value} {t u : List (List Int)} (h : OwnB lo hi w v y t u) {B : Nat} (hB : B < lo) (hl : lo' ≤ lo) (p q : Value) : OwnB lo' ((w.setCell ⟨B, 0, none⟩ p).setCell ⟨B, 1, none⟩ q).heap.size ((w.setCell ⟨B, 0, none⟩ p).setCell ⟨B, 1, none⟩ q) v y t u ∨ ¬ hi ≤ w.heap.size := by
  obtain ⟨a, b, c, d, h1, h2, h3, h4, h5, h6, h7⟩ := h
  by_cases hh : hi ≤ w.heap.size
  · exact .inl ⟨a, b, c, d, by omega, by simp; omega, by omega, by simp; omega, h5, h6.set2 (by omega) _ _, h7.set2 (by omega) _ _⟩
  · exact .inr hh

set_option maxRecDepth 100000 in
set_option maxHeartbeats 2000000 in
theorem LeastBrace_impl (t u : List (List Int)) (v y : Value) (w : World) (hv : Rows w v t) (hy : Rows w y u) :
    Calls Tryz.prog 11 #[.agg #[v, y]] w (NewBC (lbA t u) (lbB t u) (lbC t u) w) := by
  obtain ⟨hlen, b, o, c, rfl, -⟩ := id hv
  obtain ⟨hlen2, b2, o2, c2, rfl, -⟩ := id hy
  have hX : Ext w ((w.alloc (.cells #[.slice (some ⟨b, o, none⟩) t.length c, .slice (some ⟨b2, o2, none⟩) u.length c2] 26)).alloc (.cells #[.slice none 0 0, .slice none 0 0] 26)) := ((Ext.refl _).alloc _).alloc _
  have k0 : ((w.alloc (.cells #[.slice (some ⟨b, o, none⟩) t.length c, .slice (some ⟨b2, o2, none⟩) u.length c2] 26)).alloc (.cells #[.slice none 0 0, .slice none 0 0] 26)).cell? ⟨w.heap.size, 0, none⟩ = some (.slice (some ⟨b, o, none⟩) t.length c) := by simp [go_sem]
  have k1 : ((w.alloc (.cells #[.slice (some ⟨b, o, none⟩) t.length c, .slice (some ⟨b2, o2, none⟩) u.length c2] 26)).alloc (.cells #[.slice none 0 0, .slice none 0 0] 26)).cell? ⟨w.heap.size, 1, none⟩ = some (.slice (some ⟨b2, o2, none⟩) u.length c2) := by simp [go_sem]
  have r0 : ((w.alloc (.cells #[.slice (some ⟨b, o, none⟩) t.length c, .slice (some ⟨b2, o2, none⟩) u.length c2] 26)).alloc (.cells #[.slice none 0 0, .slice none 0 0] 26)).cell? ⟨w.heap.size + 1, 0, none⟩ = some (.slice none 0 0) := by simp [go_sem]
  have r1 : ((w.alloc (.cells #[.slice (some ⟨b, o, none⟩) t.length c, .slice (some ⟨b2, o2, none⟩) u.length c2] 26)).alloc (.cells #[.slice none 0 0, .slice none 0 0] 26)).cell? ⟨w.heap.size + 1, 1, none⟩ = some (.slice none 0 0) := by simp [go_sem]
  have q0 : ((w.alloc (.cells #[.slice (some ⟨b, o, none⟩) t.length c, .slice (some ⟨b2, o2, none⟩) u.length c2] 26)).alloc (.cells #[.slice none 0 0, .slice none 0 0] 26)).frozen? ⟨w.heap.size + 1, 0, none⟩ = false := by simp [go_sem]
  have q1 : ((w.alloc (.cells #[.slice (some ⟨b, o, none⟩) t.length c, .slice (some ⟨b2, o2, none⟩) u.length c2] 26)).alloc (.cells #[.slice none 0 0, .slice none 0 0] 26)).frozen? ⟨w.heap.size + 1, 1, none⟩ = false := by simp [go_sem]
  have zA : w.heap.size + 2 ≤ ((w.alloc (.cells #[.slice (some ⟨b, o, none⟩) t.length c, .slice (some ⟨b2, o2, none⟩) u.length c2] 26)).alloc (.cells #[.slice none 0 0, .slice none 0 0] 26)).heap.size := by simp
  cases hb : braceB t u with
  | false =>
    obtain ⟨z1, z2, z3⟩ := lb_no hb
    rw [z1, z2, z3]
    go_enter Tryz.func11, Tryz.ntmps11
    go_wp2_with fail
    generalize ((w.alloc (.cells #[.slice (some ⟨b, o, none⟩) t.length c, .slice (some ⟨b2, o2, none⟩) u.length c2] 26)).alloc (.cells #[.slice none 0 0, .slice none 0 0] 26)) = A at *
    refine (IsBrace_impl t u _ _ _ (hv.ext hX) (hy.ext hX)).mono ?_
    rintro e w2 ⟨rfl, hx⟩
    rw [hb]
    have zz := Ext.size hx
    replace q0 := hx.free q0 (by simp only []; omega)
    replace q1 := hx.free q1 (by simp only []; omega)
    replace zA := Nat.le_trans zA zz
    replace hX := hX.trans hx
    replace k0 := hx.cell k0
    replace k1 := hx.cell k1
    replace r0 := hx.cell r0
    replace r1 := hx.cell r1
    clear hx zz
    go_wp2
    refine bodyPost_ret (v := .tuple #[.agg #[.slice none 0 0, .slice none 0 0], .int .i64 1]) (by simp [results, Tryz.results11, go_sem, r0, r1]) rfl ⟨_, _, rfl, OwnB.nil _ _ _ (by simp; omega), (hX.setNew (by simp only []; omega) _).setNew (by simp only []; omega) _⟩
  | true =>
    obtain ⟨hG, hU, hL⟩ := braceB_ok hb
    have HG := Lib.hid hG
    have HU := Lib.hid hU
    have HL := Lib.hid hL
    have h12 := hG.1.2.1
    have h12u := hU.1.2.1
    by_cases h7 : t.length ≤ 7
    case neg =>
      obtain ⟨z1, z2, z3⟩ := lb_big hb h7
      rw [z1, z2, z3]
      have h7' : (7 : Int) < (t.length : Int) := by omega
      clear hG hU hL
      go_enter Tryz.func11, Tryz.ntmps11
      go_wp2_with fail
      generalize ((w.alloc (.cells #[.slice (some ⟨b, o, none⟩) t.length c, .slice (some ⟨b2, o2, none⟩) u.length c2] 26)).alloc (.cells #[.slice none 0 0, .slice none 0 0] 26)) = A at *
      refine (IsBrace_impl t u _ _ _ (hv.ext hX) (hy.ext hX)).mono ?_
      rintro e w2 ⟨rfl, hx⟩
      rw [hb]
      have zz := Ext.size hx
      replace q0 := hx.free q0 (by simp only []; omega)
      replace q1 := hx.free q1 (by simp only []; omega)
      replace zA := Nat.le_trans zA zz
      replace hX := hX.trans hx
      replace k0 := hx.cell k0
      replace k1 := hx.cell k1
      replace r0 := hx.cell r0
      replace r1 := hx.cell r1
      clear hx zz
      clear hb
      go_wp2
      refine bodyPost_ret (v := .tuple #[.agg #[.slice none 0 0, .slice none 0 0], .int .i64 3]) (by simp [results, Tryz.results11, go_sem, r0, r1]) rfl ⟨_, _, rfl, OwnB.nil _ _ _ (by simp; omega), (hX.setNew (by simp only []; omega) _).setNew (by simp only []; omega) _⟩
    case pos =>
      obtain ⟨z1, z2, z3⟩ := lb_yes hb h7
      rw [z1, z2, z3]
      have h7' : ¬ (7 : Int) < (t.length : Int) := by omega
      clear hG hU hL
      go_enter Tryz.func11, Tryz.ntmps11
      go_wp2_with fail
      generalize ((w.alloc (.cells #[.slice (some ⟨b, o, none⟩) t.length c, .slice (some ⟨b2, o2, none⟩) u.length c2] 26)).alloc (.cells #[.slice none 0 0, .slice none 0 0] 26)) = A at *
      refine (IsBrace_impl t u _ _ _ (hv.ext hX) (hy.ext hX)).mono ?_
      rintro e w2 ⟨rfl, hx⟩
      rw [hb]
      have zz := Ext.size hx
      replace q0 := hx.free q0 (by simp only []; omega)
      replace q1 := hx.free q1 (by simp only []; omega)
      replace zA := Nat.le_trans zA zz
      replace hX := hX.trans hx
      replace k0 := hx.cell k0
      replace k1 := hx.cell k1
      replace r0 := hx.cell r0
      replace r1 := hx.cell r1
      clear hx zz
      clear hb
      go_wp2_with fail
      refine (leastBrace_any t u _ _ _ (hv.ext hX) (hy.ext hX) HG.out.1 HU.out.1 HL.out.symm).mono ?_
      rintro e w3 ⟨v1, y1, rfl, hob, hx⟩
      have z3 := hx.size
      have zz := Ext.size hx
      replace q0 := hx.free q0 (by simp only []; omega)
      replace q1 := hx.free q1 (by simp only []; omega)
      replace hX := hX.trans hx
      replace r0 := hx.cell r0
      replace r1 := hx.cell r1
      have hsh : (∃ a1 n1 c1, v1 = .slice a1 n1 c1) ∧ ∃ a1 n1 c1, y1 = .slice a1 n1 c1 := by
        obtain ⟨_, _, _, _, _, _, _, _, _, h6, h7⟩ := hob
        obtain ⟨_, a1, c1, e1, _⟩ := h6
        obtain ⟨_, a2, c2, e2, _⟩ := h7
        exact ⟨⟨_, _, _, e1⟩, ⟨_, _, _, e2⟩⟩
      obtain ⟨⟨a1, n1, c1, rfl⟩, ⟨a2, n2, c2, rfl⟩⟩ := hsh
      have HOB := Lib.hid hob
      clear hx hob k0 k1
      go_wp2
      exact bodyPost_ret (v := .tuple #[.agg #[.slice a1 n1 c1, .slice a2 n2 c2], .int .i64 0]) (by simp [results, Tryz.results11, go_sem, r0, r1]) rfl ⟨_, _, rfl, (HOB.out.set2 (B := w.heap.size + 1) (by omega) (by omega) _ _).resolve_right (fun h => h (Nat.le_refl _)), (hX.setNew (by simp only []; omega) _).setNew (by simp only []; omega) _⟩
end Go.Proofs.YthlafeefjonkdaaGreatDoor
