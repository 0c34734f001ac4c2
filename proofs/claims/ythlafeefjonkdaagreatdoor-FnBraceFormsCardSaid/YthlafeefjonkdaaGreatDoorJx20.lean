/-
  GroupAutomorphisms of the program.
-/
import Derived.Test.YthlafeefjonkdaaGreatDoorJx19
namespace Go.Proofs.YthlafeefjonkdaaGreatDoor
set_option linter.unusedVariables false
set_option linter.unusedSimpArgs false
open Go.RowKit Go.Shelf
open Go.Deep

attribute [local go_sem] Oper.semAt_some

def MineT (lo : Nat) (O : Nat → Prop) (W : World) (v : Value) (xs : List (List Int)) : Prop :=
  ∃ vs : List Value, W.ownsRow lo 29 1 v xs.length vs ∧ (∀ g, v.ownBlock = some g → ¬ O g) ∧ ∃ B C : Nat → Nat,
    (∀ i, i < xs.length → vs[i]? = some (.slice (some ⟨B i, 0, none⟩) (row xs i).length (C i)) ∧ OwnI lo W.heap.size W (B i) 0 (row xs i) ∧ ¬ O (B i) ∧ v.ownBlock ≠ some (B i)) ∧ ∀ i j, i < xs.length → j < xs.length → B i = B j → i = j

theorem MineT.nil (lo : Nat) (O : Nat → Prop) (W : World) : MineT lo O W (.slice none 0 0) [] := ⟨[], World.ownsRow_nil W lo _ 1, fun g e => by simp [Value.ownBlock] at e, fun _ => 0, fun _ => 0, fun i hi => by simp at hi, fun i j hi => by simp at hi⟩

theorem ownsRow_block {lo n : Nat} {e : TypeId} {W W' : World} {v : Value} {vs : List Value} (h : W.ownsRow lo e 1 v n vs) (hb : ∀ g, v.ownBlock = some g → W'.heap[g]? = W.heap[g]?) : W'.ownsRow lo e 1 v n vs := by
  refine ⟨h.1, ?_⟩
  rcases h.2 with hn | ⟨g, cap, cur, rfl, hb2, hg, rest⟩
  · exact .inl hn
  · exact .inr ⟨g, cap, cur, rfl, hb2, (hb g rfl).trans hg, rest⟩

theorem MineT.keep {lo : Nat} {O O' : Nat → Prop} {W W' : World} {v : Value} {xs : List (List Int)} (h : MineT lo O W v xs) (hs : W.heap.size ≤ W'.heap.size) (hk : ∀ k, lo ≤ k → k < W.heap.size → ¬ O k → W'.heap[k]? = W.heap[k]?) (hO : ∀ k, O' k → O k ∨ W.heap.size ≤ k) : MineT lo O' W' v xs := by
  obtain ⟨vs, h1, h2, B, C, h3, h4⟩ := h
  have hno : ∀ k, k < W.heap.size → ¬ O k → ¬ O' k := fun k hk hn e => by
    rcases hO k e with e | e
    · exact hn e
    · omega
  refine ⟨vs, ownsRow_block h1 (fun g hg => hk g (h1.lt g hg).1 (h1.lt g hg).2 (h2 g hg)), fun g hg => hno g (h1.lt g hg).2 (h2 g hg), B, C, fun i hi => ?_, h4⟩
  obtain ⟨g1, g2, g3, g4⟩ := h3 i hi
  have e := hk (B i) g2.1 g2.2.1 g3
  exact ⟨g1, ⟨g2.1, Nat.lt_of_lt_of_le g2.2.1 hs, g2.2.2.1.block e, g2.2.2.2.block e⟩, hno _ g2.2.1 g3, g4⟩

theorem MineT.next {lo : Nat} {W W' : World} {O O' : Nat → Prop} {v : Value} {xs : List (List Int)} (h : MineT lo O W v xs) (ho : Only O W W') (hO : ∀ k, O' k → O k ∨ W.heap.size ≤ k) : MineT lo O' W' v xs := h.keep ho.size (fun k _ hk hn => ho.keep k hk hn) hO

theorem MineT.ext {lo : Nat} {O : Nat → Prop} {W W' : World} {v : Value} {xs : List (List Int)} (h : MineT lo O W v xs) (hx : Ext W W') : MineT lo O W' v xs := h.keep hx.size (fun k _ hk _ => hx.block k hk) (fun _ e => .inl e)

theorem MineT.setLow {lo : Nat} {O : Nat → Prop} {W : World} {v : Value} {xs : List (List Int)} (h : MineT lo O W v xs) {a : Addr} (ha : a.block < lo) (u : Value) : MineT lo O (W.setCell a u) v xs :=
  h.keep (by simp) (fun k hk _ _ => Below.heap_setCell _ _ _ _ (by omega)) (fun _ e => .inl e)

theorem MineT.slice {lo : Nat} {O : Nat → Prop} {W : World} {v : Value} {xs : List (List Int)} (h : MineT lo O W v xs) : ∃ a c, v = .slice a xs.length c := by
  obtain ⟨vs, h1, -⟩ := h
  rcases h1.2 with ⟨rfl, hn⟩ | ⟨g, cap, cur, rfl, _⟩
  · exact ⟨none, 0, by rw [hn]⟩
  · exact ⟨_, cap, rfl⟩

theorem MineT.app {lo : Nat} {O : Nat → Prop} {W1 W2 W3 : World} {v v' : Value} {xs : List (List Int)} {b c : Nat} {l : List Int} (h : MineT lo O W1 v xs) (hx : Ext W1 W2) (hb : OwnI W1.heap.size W2.heap.size W2 b 0 l) (hlo : lo ≤ W1.heap.size) (hO : ∀ k, O k → k < W1.heap.size)
    (hg : W2.grownBy W3 v.ownBlock) (hat : v'.ownBlock = v.ownBlock ∨ v'.ownBlock = some W2.heap.size) (hown : ∀ vs, W2.ownsRow lo 29 1 v xs.length vs → W3.ownsRow lo 29 1 v' (xs.length + 1) (vs ++ [Value.slice (some ⟨b, 0, none⟩) l.length c])) : MineT lo O W3 v' (xs ++ [l]) := by
  obtain ⟨vs, h1, h2, B, C, h3, h4⟩ := h
  have hl : vs.length = xs.length := by simpa using h1.1
  have hz := hx.size
  have hnO : ∀ k, W1.heap.size ≤ k → ¬ O k := fun k hk e => by have := hO k e; omega
  have ho' : ∀ g, v'.ownBlock = some g → ¬ O g := fun g e => by
    rcases hat with e2 | e2
    · exact h2 g (e2 ▸ e)
    · rw [e2] at e; injection e with e; exact hnO g (by omega)
  have hne : ∀ k, k < W2.heap.size → v.ownBlock ≠ some k → v'.ownBlock ≠ some k := fun k hk hn e => by
    rcases hat with e2 | e2
    · exact hn (e2 ▸ e)
    · rw [e2] at e; injection e with e; omega
  have hbn : v.ownBlock ≠ some b := fun e => by have := (h1.lt b e).2; have := hb.1; omega
  have bk : ∀ k, k < W2.heap.size → v.ownBlock ≠ some k → W3.heap[k]? = W2.heap[k]? := fun k hk hn => hg.block k hk (fun e => hn e.symm)
  have h12 := hown vs (ownsRow_block h1 (fun g hg => hx.block g (h1.lt g hg).2))
  refine ⟨vs ++ [Value.slice (some ⟨b, 0, none⟩) l.length c], by simpa using h12, ho', fun i => if i < xs.length then B i else b, fun i => if i < xs.length then C i else c, fun i hi => ?_, fun i j hi hj e => ?_⟩
  · by_cases hi' : i < xs.length
    · obtain ⟨g1, g2, g3, g4⟩ := h3 i hi'
      have hrow : row (xs ++ [l]) i = row xs i := by rw [row_eq, row_eq]; simp [List.getD, List.getElem?_append_left hi']
      have e := (bk (B i) (Nat.lt_of_lt_of_le g2.2.1 hz) g4).trans (hx.block _ g2.2.1)
      simp only [if_pos hi', hrow]
      exact ⟨by rw [List.getElem?_append_left (by omega)]; exact g1, ⟨g2.1, by have := g2.2.1; have := hg.size; omega, g2.2.2.1.block e, g2.2.2.2.block e⟩, g3, hne _ (Nat.lt_of_lt_of_le g2.2.1 hz) g4⟩
    · have hie : i = xs.length := by simp at hi; omega
      subst hie
      have hrow : row (xs ++ [l]) xs.length = l := by rw [row_eq]; simp [List.getD]
      have e := bk b hb.2.1 hbn
      simp only [if_neg (Nat.lt_irrefl _), hrow]
      exact ⟨by rw [List.getElem?_append_right (by omega), hl]; simp, ⟨Nat.le_trans hlo hb.1, Nat.lt_of_lt_of_le hb.2.1 hg.size, hb.2.2.1.block e, hb.2.2.2.block e⟩, hnO b hb.1, hne _ hb.2.1 hbn⟩
  · have hB : ∀ i, i < xs.length → B i < W1.heap.size := fun i hi => (h3 i hi).2.1.2.1
    by_cases hi' : i < xs.length
    · by_cases hj' : j < xs.length
      · simp only [if_pos hi', if_pos hj'] at e; exact h4 i j hi' hj' e
      · simp only [if_pos hi', if_neg hj'] at e
        have := hB i hi'; have := hb.1; omega
    · by_cases hj' : j < xs.length
      · simp only [if_neg hi', if_pos hj'] at e
        have := hB j hj'; have := hb.1; omega
      · simp at hi hj; omega

theorem MineT.ownV {lo lo' hi : Nat} {O : Nat → Prop} {W : World} {v : Value} {xs : List (List Int)} (h : MineT lo O W v xs) (hlo : lo' ≤ lo) (hh : W.heap.size ≤ hi) (hl : xs.length ≤ 1048576) (hr : ∀ i, (row xs i).length ≤ 1048576) : OwnV lo' hi W v xs := by
  obtain ⟨vs, h1, h2, B, C, h3, h4⟩ := h
  refine ⟨⟨hl, hr⟩, ?_⟩
  rcases id h1.2 with ⟨rfl, hn⟩ | ⟨g, cap, cur, rfl, hb, hg, rest⟩
  · exact ⟨none, 0, by rw [hn], fun hne => absurd (List.length_eq_zero_iff.1 hn) hne⟩
  · refine ⟨_, cap, rfl, fun _ => ⟨g, 0, rfl, by omega, by have := (h1.lt g rfl).2; omega, B, fun _ => 0, C, fun i hi => ?_, h4, fun i hi => by simp [World.frozen?, hg]⟩⟩
    obtain ⟨g1, g2, g3, g4⟩ := h3 i hi
    have hc := World.ownsRow.cells h1 (g := g) rfl i _ g1
    rw [Addr.add_lit] at hc
    exact ⟨hc, ⟨by have := g2.1; omega, by have := g2.2.1; omega, g2.2.2⟩, fun e => g4 (by rw [e]; rfl)⟩

theorem stepIn_append_row {F : Fence} {n : Nat} {P : Program} {w : World} {ops : Array Oper} {o : Oper} {a : Act} {K : Act → World → Prop} {Q : Exit → Act → World → Prop} {E : Prop} (hgd : o.guard = none) (s x : Operand) (t e : TypeId)
    (ho : o.op = .call { callee := .builtin .append, args := #[s, x], argTypes := #[t, t] }) (ht : P.underlying t = some (.slice e)) (hinfo : (P.info? e).map (fun i => (i.zero, i.size, i.bytes)) = some (some (.slice none 0 0), 1, 24))
    (base : Nat) (v : Value) (len : Nat) (vs : List Value) (hs : a.eval s = v) (hown : w.ownsRow base e 1 v len vs) (g : Nat) (r : Value) (hr : r.oneCell' = true) (hx : a.eval x = .slice (some ⟨g, 0, none⟩) 1 1) (hc : w.cell? ⟨g, 0, none⟩ = some r)
    (hl : len ≤ 1048576) (hbase : base ≤ w.heap.size)
    (h : ∀ v' w', w'.ownsRow base e 1 v' (len + 1) (vs ++ [r]) → w.grownBy w' v.ownBlock → (v'.ownBlock = v.ownBlock ∨ v'.ownBlock = some w.heap.size) → v' ≠ .slice none 0 0 → K (a.put o.dst v') w') : if Region.wanted o (yielded ops a.tmps) = true then Oper.wpIn F n P o a w K Q else E := by
  obtain ⟨i0, hi, hz0, hz1, hz2⟩ := info_parts hinfo
  have hw : Region.wanted o (yielded ops a.tmps) = true := by simp [Region.wanted, hgd]
  rw [if_pos hw]
  obtain ⟨v', w', hrun, k1, k2, k3, k4⟩ := run_append_own_at (P := P) (w := w) base t o.type e i0 (.slice none 0 0) 1 24 ht hi hz0 hz1 hz2 rfl (by decide) v len vs hown ⟨g, 0, none⟩ 1 1 [r] rfl (by
    intro j u hj
    match j, hj with
    | 0, hj => simp at hj; subst hj; simpa [Addr.add] using hc) (by intro u hu; simp at hu; subst hu; exact hr) (by unfold maxLen; omega) (by omega) hbase
  unfold Oper.wpIn
  refine ⟨?_, ?_⟩
  · simp [Oper.about, ho, resolve, Target.leads, Sem.run_pure]
  · rw [Oper.semAt_plain F _ _ (by rw [ho]; intro c hc'; cases hc')]
    simp [execOp, ho, resolve, invoke, builtin, hs, hx, hrun, Result.andThen]
    exact h v' w' k1 k2 k4 (fun e => by have := k3.1 e; simp at this)

theorem Rnd.grown {base : Nat} {X : Nat → Prop} {O : Nat → Prop} {W W' W2 : World} {row : Option Nat} (h : Rnd base X O W W') (hg : W'.grownBy W2 row) (hr : ∀ g, row = some g → ¬ O g ∧ base ≤ g) (hb : base ≤ W'.heap.size) : Rnd base X O W W2 :=
  ⟨Nat.le_trans h.size hg.size, fun k hk hO => (hg.block k (Nat.lt_of_lt_of_le hk h.size) (fun e => (hr k e.symm).1 hO)).trans (h.own k hk hO), fun k hk hX => (hg.block k (by omega) (fun e => by have := (hr k e.symm).2; omega)).trans (h.below k hk hX)⟩

theorem Ext.grownOwn {a w w' : World} {row : Option Nat} (h : Ext a w) (hg : w.grownBy w' row) (hr : ∀ k, row = some k → a.heap.size ≤ k) : Ext a w' := Below.grown h hg h.size hr

theorem MineT.putObj {lo : Nat} {O : Nat → Prop} {W : World} {v : Value} {xs : List (List Int)} {D : Nat} {x : Option (List Deferred)} (h : MineT lo O W v xs) (hl : ∀ i, i < xs.length → 0 < (row xs i).length) (hK : W.heap[D]? = some (.deferred x)) (o : Obj) : MineT lo O (W.putObj D o) v xs := by
  obtain ⟨vs, h1, h2, B, C, h3, h4⟩ := h
  refine ⟨vs, ownsRow_block h1 (fun g hg => World.putObj_heap_other (fun e => ?_)), h2, B, C, fun i hi => ?_, h4⟩
  · rcases h1.2 with ⟨rfl, _⟩ | ⟨g', cap, cur, rfl, hb, hgg, rest⟩
    · simp [Value.ownBlock] at hg
    · simp [Value.ownBlock] at hg
      subst hg
      subst e
      rw [hK] at hgg
      cases hgg
  · obtain ⟨g1, g2, g3, g4⟩ := h3 i hi
    exact ⟨g1, by have := g2.putObj (hl i hi) hK o; simpa [World.putObj] using this, g3, g4⟩

theorem ownsRow_slice {lo n : Nat} {e : TypeId} {W : World} {v : Value} {vs : List Value} (h : W.ownsRow lo e 1 v n vs) (hv : v ≠ .slice none 0 0) : ∃ g c, v = .slice (some ⟨g, 0, none⟩) n c := by
  rcases h.2 with ⟨rfl, hn⟩ | ⟨g, cap, cur, rfl, _⟩
  · exact absurd rfl hv
  · exact ⟨g, cap, rfl⟩

theorem ownsRow_same {lo n : Nat} {e : TypeId} {W : World} {v : Value} {vs us : List Value} (h : W.ownsRow lo e 1 v n vs) (k : W.ownsRow lo e 1 v n us) : vs = us := by
  have l1 := h.1
  have l2 := k.1
  rcases h.2 with ⟨rfl, hn⟩ | ⟨g, cap, cur, rfl, hb, hg, h3, h4, h5, h6⟩
  · have e1 : vs.length = 0 := by omega
    have e2 : us.length = 0 := by omega
    rw [List.length_eq_zero_iff.1 e1, List.length_eq_zero_iff.1 e2]
  · rcases k.2 with ⟨e2, _⟩ | ⟨g', cap', cur', e2, hb', hg', k3, k4, k5, k6⟩
    · simp at e2
    · simp at e2
      obtain ⟨rfl, rfl⟩ := e2
      rw [hg] at hg'
      simp at hg'
      subst hg'
      rw [← h6, ← k6]

def GaI (w : World) (xs : List (List Int)) (O : Nat → Prop) (W : World) : Prop := (∃ vs, Mine O W w.heap.size vs ∧ MineT (w.heap.size + 5) O W vs xs) ∧ Since w O W

theorem gaI_stab (w : World) : Stab (GaI w) := fun xs O O' W W' ⟨⟨vs, h1, h2⟩, h3⟩ ho hO => ⟨⟨vs, h1.next ho hO, h2.next ho hO⟩, h3.next ho hO⟩

set_option maxRecDepth 100000 in
set_option maxHeartbeats 4000000 in
theorem groupAutomorphisms_any (t : List (List Int)) (v : Value) (w : World) (hv : Rows w v t) (hG : GroupOk t) :
    Calls Tryz.prog 32 #[v] w fun e w' => ∃ v', e = .returned v' ∧ OwnV w.heap.size w'.heap.size w' v' (isoL t.length [t] [t]) ∧ Ext w w' := by
  obtain ⟨hlen, b, o, c, rfl, -⟩ := id hv
  have HG := Lib.hid hG
  have h12 := hG.1.2.1
  have h1n : 1 ≤ t.length := hG.1.1
  have hfew : (isoL t.length [t] [t]).length ≤ 1000000 := few_iso (by simp) (by rw [tab_one]; exact hG) (by rw [tab_one]; exact hG) (by rw [tab_one]) (by rw [tab_one]) h12
  have hrow : ∀ i, (row (isoL t.length [t] [t]) i).length ≤ 1048576 := fun i => by
    by_cases hi : i < (isoL t.length [t] [t]).length
    · have hm : row (isoL t.length [t] [t]) i ∈ isoL t.length [t] [t] := by
        rw [row_eq]; simp [List.getD, hi]
      have := (mem_isoL.1 hm).1
      omega
    · rw [row_eq]; simp [List.getD, hi]
  have HROW := Lib.hid hrow
  have HNE := Lib.hid (show ∀ i, i < (isoL t.length [t] [t]).length → 0 < (row (isoL t.length [t] [t]) i).length from fun i hi => by
    have hm : row (isoL t.length [t] [t]) i ∈ isoL t.length [t] [t] := by
      rw [row_eq]; simp [List.getD, hi]
    have := (mem_isoL.1 hm).1
    omega)
  have hmx : Tryz.prog.follows .mixedOrders = true := by kernel_rfl
  clear hG hrow
  refine (callsIn_wide (n := 0)).1 ?_
  (refine callsIn_of_wp_marks Tryz.func32 rfl trivial ?_ rfl; simp only [Tryz.ntmps32, List.size_toArray, List.length_cons, List.length_nil, Nat.reduceAdd, Nat.reduceSub, Array.replicate_succ, Array.replicate_zero, List.push_toArray, List.append_toArray, List.nil_append, List.cons_append])
  refine wpIn_wide.2 ?_
  go_wp2_with fail
  refine (isomorphisms_any _ _ _ _ _ _ _).mono ?_
  rintro e w1 ⟨rfl, rfl⟩
  go_wp2_with fail
  refine (wpIn_wide (n := 0)).1 ?_
  have hx4 : Ext w (((((w.alloc (.cells #[.slice none 0 0] 24)).alloc (.cells #[.slice (some ⟨b, o, none⟩) t.length c] 24)).alloc (.cells #[.slice (some ⟨b, o, none⟩) t.length c] 24)).alloc (.cells #[.slice (some ⟨w.heap.size + 1, 0, none⟩) 1 1] 56)).alloc (.cells #[.slice (some ⟨w.heap.size + 2, 0, none⟩) 1 1] 56)) := (((((Ext.refl w).alloc _).alloc _).alloc _).alloc _).alloc _
  have hz4 : (((((w.alloc (.cells #[.slice none 0 0] 24)).alloc (.cells #[.slice (some ⟨b, o, none⟩) t.length c] 24)).alloc (.cells #[.slice (some ⟨b, o, none⟩) t.length c] 24)).alloc (.cells #[.slice (some ⟨w.heap.size + 1, 0, none⟩) 1 1] 56)).alloc (.cells #[.slice (some ⟨w.heap.size + 2, 0, none⟩) 1 1] 56)).heap.size = w.heap.size + 5 := by simp
  have HZ4 := Lib.hid hz4
  clear hz4
  refine wpIn_rangeFunc_iso (fun k => k = w.heap.size) t.length [t] [t] (isoL t.length [t] [t]) rfl (enters_of Tryz.func47 (by kernel_rfl) rfl) rfl ?call (GaI w) (fun _ _ _ _ => False) (gaI_stab w) (fun _ _ _ _ _ _ h _ _ => h) ?h0 ?a1 ?assign ?body ?done ?stop
  case call => exact iso_call (wR := w) (bt := w.heap.size + 1) (bu := w.heap.size + 2) (ct := 1) (cu := 1) hx4 (tabs1 (by simp [go_sem]) hv) (tabs1 (by simp [go_sem]) hv) (fun k hk e => by omega) (by omega) (by omega) (TabsOk.one HG.out.1) (TabsOk.one HG.out.1) rfl (by simp) (by simp) h1n h12 (by simp [go_sem]) (by simp [go_sem])
  case assign =>
    intro m l Ib W K hK
    gi_wp2
    exact hK
  case h0 => exact ⟨⟨_, ⟨by simp [go_sem], by simp [go_sem], fun e => e⟩, MineT.nil _ _ _⟩, hx4, fun _ e => e.elim⟩
  case body =>
    rintro m l xs p O W Ib ⟨⟨vs, ⟨a1, f1, a4⟩, hT⟩, hs⟩ hp hpre hIb hpi hO
    have hpl := hp.1
    have hxl : xs.length + 1 ≤ 1000000 := by
      have := hpre.length_le
      simp at this
      omega
    have hOi := hO Ib hIb
    have hzz := HZ4.out
    have hi : Ints W.drew (.slice (some ⟨Ib, 0, none⟩) t.length t.length) p := ⟨by omega, Ib, 0, t.length, by rw [hpl], hpi⟩
    obtain ⟨va, vc, rfl⟩ := hT.slice
    obtain ⟨us, o1, ow, -⟩ := id hT
    have HC := Lib.hid (slicesClone_any p _ W.drew hi)
    have HPL := Lib.hid hpl
    have HOL := Lib.hid (show ∀ k, O k → k < W.drew.heap.size from fun k e => (hO k e).2)
    have HT := Lib.hid (show MineT (w.heap.size + 5) O W.drew (.slice va xs.length vc) xs from hT.ext (Ext.refl W).drew)
    have HS5 := Lib.hid (show Since w O W.drew from ⟨hs.1.drew, hs.2⟩)
    have HOW := Lib.hid ow
    have l1 : w.heap.size < W.drew.heap.size := World.block_lt_of_cell? _ _ a1
    have l2 : w.heap.size + 5 ≤ W.drew.heap.size := by
      have h5 : Ib < W.heap.size := hOi.2
      have h6 := hOi.1
      rw [hzz] at h6
      show w.heap.size + 5 ≤ W.heap.size
      omega
    have o1 : W.drew.ownsRow (w.heap.size + 5) 29 1 (.slice va xs.length vc) xs.length us := o1
    have a1 : W.drew.cell? ⟨w.heap.size, 0, none⟩ = some (.slice va xs.length vc) := a1
    have f1 : W.drew.frozen? ⟨w.heap.size, 0, none⟩ = false := f1
    rw [hzz]
    have HR := Lib.hid ((Rnd.refl (base := w.heap.size + 5) (X := fun k => k = w.heap.size) O W).ext (Ext.refl W).drew (show w.heap.size + 5 ≤ W.heap.size from l2))
    clear hT hs hO hp hpre hIb hpi hi hpl hOi hzz ow HZ4 hx4
    gi_wp2_with fail
    refine wpIn_region_any hmx ?_
    try (change wpAnyIn _ _ _ _ _ _ _ _ _ (World.drew _))
    generalize W.drew = W5 at *
    refine wpAnyIn_ready (rs := [0, 1]) (by kernel_rfl) (by simp) ?_
    refine AllReadyIn.cons rfl (fun K hK => ?_) (AllReadyIn.cons rfl (fun K hK => ?_) (AllReadyIn.nil))
    · skip
      go_simp
      refine hK _ _ ?_
      clear hK K
      refine wpAnyIn_ready (rs := [1]) (by kernel_rfl) (by simp) ?_
      refine AllReadyIn.cons rfl (fun K hK => ?_) (AllReadyIn.nil)
      go_simp
      refine hK _ _ ?_
      clear hK K
      refine wpAnyIn_ready (rs := [2]) (by kernel_rfl) (by simp) ?_
      refine AllReadyIn.cons rfl (fun K hK => ?_) (AllReadyIn.nil)
      go_simp
      (try gi_wp2_with fail)
      refine ⟨trivial, fun h => absurd h (by decide), (CallsIn.inRound l (callsIn_wide.2 HC.out)).mono ?_⟩
      rintro e W6 ⟨b3, c3, rfl, ho3, hx3⟩
      have a2 := hx3.cell a1
      have a3 := kc_alloc (o := .cells #[.slice (some ⟨b3, 0, none⟩) p.length c3] 29) a2
      have f3 := kf_alloc (o := .cells #[.slice (some ⟨b3, 0, none⟩) p.length c3] 29) (a := ⟨w.heap.size, 0, none⟩) (Nat.lt_of_lt_of_le l1 hx3.size) (hx3.free f1 l1)
      have z6 := hx3.size
      have HO3 := Lib.hid ho3
      have HX3 := Lib.hid hx3
      clear hx3 ho3
      refine hK _ _ ?_
      clear hK K
      refine wpAnyIn_ready (rs := [3]) (by kernel_rfl) (by simp) ?_
      refine AllReadyIn.cons rfl (fun K hK => ?_) (AllReadyIn.nil)
      go_simp
      refine hK _ _ ?_
      clear hK K
      refine wpAnyIn_ready (rs := [4]) (by kernel_rfl) (by simp) ?_
      refine AllReadyIn.cons rfl (fun K hK => ?_) (AllReadyIn.nil)
      refine stepIn_append_row (by rfl) _ _ 24 29 (by rfl) Tryz.underlying24 infoSl (w.heap.size + 5) _ _ us (by rfl) (ownsRow_block o1 (fun g hg => (HX3.out.trans (ext_box W6 (.slice (some ⟨b3, 0, none⟩) p.length c3) 29)).block g (o1.lt g hg).2)) _ (.slice (some ⟨b3, 0, none⟩) p.length c3) rfl (by rfl) (cell_new _ _ _) (by omega) (by simp; omega) ?_
      intro v' w9 q1 q2 q3 q4
      obtain ⟨gg, gc, rfl⟩ := ownsRow_slice q1 q4
      have HQ1 := Lib.hid q1
      clear q1
      have a5 := q2.cell a3 (fun e => by have := o1.lt _ e.symm; simp only [] at this; omega)
      have f5 : w9.frozen? ⟨w.heap.size, 0, none⟩ = false := by
        rw [World.frozen?_of_block (w := W6.alloc (.cells #[.slice (some ⟨b3, 0, none⟩) p.length c3] 29)) (a := ⟨w.heap.size, 0, none⟩) (q2.block w.heap.size (by simp; omega) (fun e => by have := o1.lt _ e.symm; omega))]
        exact f3
      (try simp only [Act.put])
      refine hK _ _ ?_
      clear hK K
      refine wpAnyIn_ready (rs := [5]) (by kernel_rfl) (by simp) ?_
      refine AllReadyIn.cons rfl (fun K hK => ?_) (AllReadyIn.nil)
      go_simp
      refine hK _ _ ?_
      clear hK K
      refine wpAnyIn_done (by kernel_rfl) ?_ _
      gi_wp2_with fail
      refine ⟨(((HR.out.ext HX3.out (by omega)).ext (ext_box _ _ _) (by omega)).grown q2 (fun g e => ⟨HOW.out g e, by have := o1.lt g e; omega⟩) (by simp; omega)).setCell (a := ⟨w.heap.size, 0, none⟩) a4 (.inl rfl) _, ⟨_, ⟨kc_same a5, kf_set f5, a4⟩, (MineT.app (c := c3) HT.out (HX3.out.trans (ext_box _ _ _)) ⟨HO3.out.1, by have := HO3.out.2.1; simp; omega, ki_alloc HO3.out.2.2.1, fun i hi => kf_alloc (by have := HO3.out.2.1; simp only []; omega) (HO3.out.2.2.2 i hi)⟩ (by omega) HOL.out q2 q3 (fun us2 hu => ?_)).setLow (by simp only []; omega) _⟩, (((HS5.out.1.trans HX3.out).trans (ext_box _ _ _)).grownOwn q2 (fun g e => by have := o1.lt g e; omega)).setNew (by simp only []; omega) _, HS5.out.2⟩
      have e2 : us2 = us := ownsRow_same hu (ownsRow_block o1 (fun g hg => (HX3.out.trans (ext_box W6 (.slice (some ⟨b3, 0, none⟩) p.length c3) 29)).block g (o1.lt g hg).2)); subst e2; exact HQ1.out
    · skip
      go_simp
      refine hK _ _ ?_
      clear hK K
      refine wpAnyIn_ready (rs := [0, 2]) (by kernel_rfl) (by simp) ?_
      refine AllReadyIn.cons rfl (fun K hK => ?_) (AllReadyIn.cons rfl (fun K hK => ?_) (AllReadyIn.nil))
      · skip
        go_simp
        refine hK _ _ ?_
        clear hK K
        refine wpAnyIn_ready (rs := [2]) (by kernel_rfl) (by simp) ?_
        refine AllReadyIn.cons rfl (fun K hK => ?_) (AllReadyIn.nil)
        go_simp
        (try gi_wp2_with fail)
        refine ⟨trivial, fun h => absurd h (by decide), (CallsIn.inRound l (callsIn_wide.2 HC.out)).mono ?_⟩
        rintro e W6 ⟨b3, c3, rfl, ho3, hx3⟩
        have a2 := hx3.cell a1
        have a3 := kc_alloc (o := .cells #[.slice (some ⟨b3, 0, none⟩) p.length c3] 29) a2
        have f3 := kf_alloc (o := .cells #[.slice (some ⟨b3, 0, none⟩) p.length c3] 29) (a := ⟨w.heap.size, 0, none⟩) (Nat.lt_of_lt_of_le l1 hx3.size) (hx3.free f1 l1)
        have z6 := hx3.size
        have HO3 := Lib.hid ho3
        have HX3 := Lib.hid hx3
        clear hx3 ho3
        refine hK _ _ ?_
        clear hK K
        refine wpAnyIn_ready (rs := [3]) (by kernel_rfl) (by simp) ?_
        refine AllReadyIn.cons rfl (fun K hK => ?_) (AllReadyIn.nil)
        go_simp
        refine hK _ _ ?_
        clear hK K
        refine wpAnyIn_ready (rs := [4]) (by kernel_rfl) (by simp) ?_
        refine AllReadyIn.cons rfl (fun K hK => ?_) (AllReadyIn.nil)
        refine stepIn_append_row (by rfl) _ _ 24 29 (by rfl) Tryz.underlying24 infoSl (w.heap.size + 5) _ _ us (by rfl) (ownsRow_block o1 (fun g hg => (HX3.out.trans (ext_box W6 (.slice (some ⟨b3, 0, none⟩) p.length c3) 29)).block g (o1.lt g hg).2)) _ (.slice (some ⟨b3, 0, none⟩) p.length c3) rfl (by rfl) (cell_new _ _ _) (by omega) (by simp; omega) ?_
        intro v' w9 q1 q2 q3 q4
        obtain ⟨gg, gc, rfl⟩ := ownsRow_slice q1 q4
        have HQ1 := Lib.hid q1
        clear q1
        have a5 := q2.cell a3 (fun e => by have := o1.lt _ e.symm; simp only [] at this; omega)
        have f5 : w9.frozen? ⟨w.heap.size, 0, none⟩ = false := by
          rw [World.frozen?_of_block (w := W6.alloc (.cells #[.slice (some ⟨b3, 0, none⟩) p.length c3] 29)) (a := ⟨w.heap.size, 0, none⟩) (q2.block w.heap.size (by simp; omega) (fun e => by have := o1.lt _ e.symm; omega))]
          exact f3
        (try simp only [Act.put])
        refine hK _ _ ?_
        clear hK K
        refine wpAnyIn_ready (rs := [5]) (by kernel_rfl) (by simp) ?_
        refine AllReadyIn.cons rfl (fun K hK => ?_) (AllReadyIn.nil)
        go_simp
        refine hK _ _ ?_
        clear hK K
        refine wpAnyIn_done (by kernel_rfl) ?_ _
        gi_wp2_with fail
        refine ⟨(((HR.out.ext HX3.out (by omega)).ext (ext_box _ _ _) (by omega)).grown q2 (fun g e => ⟨HOW.out g e, by have := o1.lt g e; omega⟩) (by simp; omega)).setCell (a := ⟨w.heap.size, 0, none⟩) a4 (.inl rfl) _, ⟨_, ⟨kc_same a5, kf_set f5, a4⟩, (MineT.app (c := c3) HT.out (HX3.out.trans (ext_box _ _ _)) ⟨HO3.out.1, by have := HO3.out.2.1; simp; omega, ki_alloc HO3.out.2.2.1, fun i hi => kf_alloc (by have := HO3.out.2.1; simp only []; omega) (HO3.out.2.2.2 i hi)⟩ (by omega) HOL.out q2 q3 (fun us2 hu => ?_)).setLow (by simp only []; omega) _⟩, (((HS5.out.1.trans HX3.out).trans (ext_box _ _ _)).grownOwn q2 (fun g e => by have := o1.lt g e; omega)).setNew (by simp only []; omega) _, HS5.out.2⟩
        have e2 : us2 = us := ownsRow_same hu (ownsRow_block o1 (fun g hg => (HX3.out.trans (ext_box W6 (.slice (some ⟨b3, 0, none⟩) p.length c3) 29)).block g (o1.lt g hg).2)); subst e2; exact HQ1.out
      · skip
        go_simp
        (try gi_wp2_with fail)
        refine ⟨trivial, fun h => absurd h (by decide), (CallsIn.inRound l (callsIn_wide.2 HC.out)).mono ?_⟩
        rintro e W6 ⟨b3, c3, rfl, ho3, hx3⟩
        have a2 := hx3.cell a1
        have a3 := kc_alloc (o := .cells #[.slice (some ⟨b3, 0, none⟩) p.length c3] 29) a2
        have f3 := kf_alloc (o := .cells #[.slice (some ⟨b3, 0, none⟩) p.length c3] 29) (a := ⟨w.heap.size, 0, none⟩) (Nat.lt_of_lt_of_le l1 hx3.size) (hx3.free f1 l1)
        have z6 := hx3.size
        have HO3 := Lib.hid ho3
        have HX3 := Lib.hid hx3
        clear hx3 ho3
        refine hK _ _ ?_
        clear hK K
        refine wpAnyIn_ready (rs := [0, 3]) (by kernel_rfl) (by simp) ?_
        refine AllReadyIn.cons rfl (fun K hK => ?_) (AllReadyIn.cons rfl (fun K hK => ?_) (AllReadyIn.nil))
        · skip
          go_simp
          refine hK _ _ ?_
          clear hK K
          refine wpAnyIn_ready (rs := [3]) (by kernel_rfl) (by simp) ?_
          refine AllReadyIn.cons rfl (fun K hK => ?_) (AllReadyIn.nil)
          go_simp
          refine hK _ _ ?_
          clear hK K
          refine wpAnyIn_ready (rs := [4]) (by kernel_rfl) (by simp) ?_
          refine AllReadyIn.cons rfl (fun K hK => ?_) (AllReadyIn.nil)
          refine stepIn_append_row (by rfl) _ _ 24 29 (by rfl) Tryz.underlying24 infoSl (w.heap.size + 5) _ _ us (by rfl) (ownsRow_block o1 (fun g hg => (HX3.out.trans (ext_box W6 (.slice (some ⟨b3, 0, none⟩) p.length c3) 29)).block g (o1.lt g hg).2)) _ (.slice (some ⟨b3, 0, none⟩) p.length c3) rfl (by rfl) (cell_new _ _ _) (by omega) (by simp; omega) ?_
          intro v' w9 q1 q2 q3 q4
          obtain ⟨gg, gc, rfl⟩ := ownsRow_slice q1 q4
          have HQ1 := Lib.hid q1
          clear q1
          have a5 := q2.cell a3 (fun e => by have := o1.lt _ e.symm; simp only [] at this; omega)
          have f5 : w9.frozen? ⟨w.heap.size, 0, none⟩ = false := by
            rw [World.frozen?_of_block (w := W6.alloc (.cells #[.slice (some ⟨b3, 0, none⟩) p.length c3] 29)) (a := ⟨w.heap.size, 0, none⟩) (q2.block w.heap.size (by simp; omega) (fun e => by have := o1.lt _ e.symm; omega))]
            exact f3
          (try simp only [Act.put])
          refine hK _ _ ?_
          clear hK K
          refine wpAnyIn_ready (rs := [5]) (by kernel_rfl) (by simp) ?_
          refine AllReadyIn.cons rfl (fun K hK => ?_) (AllReadyIn.nil)
          go_simp
          refine hK _ _ ?_
          clear hK K
          refine wpAnyIn_done (by kernel_rfl) ?_ _
          gi_wp2_with fail
          refine ⟨(((HR.out.ext HX3.out (by omega)).ext (ext_box _ _ _) (by omega)).grown q2 (fun g e => ⟨HOW.out g e, by have := o1.lt g e; omega⟩) (by simp; omega)).setCell (a := ⟨w.heap.size, 0, none⟩) a4 (.inl rfl) _, ⟨_, ⟨kc_same a5, kf_set f5, a4⟩, (MineT.app (c := c3) HT.out (HX3.out.trans (ext_box _ _ _)) ⟨HO3.out.1, by have := HO3.out.2.1; simp; omega, ki_alloc HO3.out.2.2.1, fun i hi => kf_alloc (by have := HO3.out.2.1; simp only []; omega) (HO3.out.2.2.2 i hi)⟩ (by omega) HOL.out q2 q3 (fun us2 hu => ?_)).setLow (by simp only []; omega) _⟩, (((HS5.out.1.trans HX3.out).trans (ext_box _ _ _)).grownOwn q2 (fun g e => by have := o1.lt g e; omega)).setNew (by simp only []; omega) _, HS5.out.2⟩
          have e2 : us2 = us := ownsRow_same hu (ownsRow_block o1 (fun g hg => (HX3.out.trans (ext_box W6 (.slice (some ⟨b3, 0, none⟩) p.length c3) 29)).block g (o1.lt g hg).2)); subst e2; exact HQ1.out
        · skip
          go_simp
          refine hK _ _ ?_
          clear hK K
          refine wpAnyIn_ready (rs := [0]) (by kernel_rfl) (by simp) ?_
          refine AllReadyIn.cons rfl (fun K hK => ?_) (AllReadyIn.nil)
          go_simp
          refine hK _ _ ?_
          clear hK K
          refine wpAnyIn_ready (rs := [4]) (by kernel_rfl) (by simp) ?_
          refine AllReadyIn.cons rfl (fun K hK => ?_) (AllReadyIn.nil)
          refine stepIn_append_row (by rfl) _ _ 24 29 (by rfl) Tryz.underlying24 infoSl (w.heap.size + 5) _ _ us (by rfl) (ownsRow_block o1 (fun g hg => (HX3.out.trans (ext_box W6 (.slice (some ⟨b3, 0, none⟩) p.length c3) 29)).block g (o1.lt g hg).2)) _ (.slice (some ⟨b3, 0, none⟩) p.length c3) rfl (by rfl) (cell_new _ _ _) (by omega) (by simp; omega) ?_
          intro v' w9 q1 q2 q3 q4
          obtain ⟨gg, gc, rfl⟩ := ownsRow_slice q1 q4
          have HQ1 := Lib.hid q1
          clear q1
          have a5 := q2.cell a3 (fun e => by have := o1.lt _ e.symm; simp only [] at this; omega)
          have f5 : w9.frozen? ⟨w.heap.size, 0, none⟩ = false := by
            rw [World.frozen?_of_block (w := W6.alloc (.cells #[.slice (some ⟨b3, 0, none⟩) p.length c3] 29)) (a := ⟨w.heap.size, 0, none⟩) (q2.block w.heap.size (by simp; omega) (fun e => by have := o1.lt _ e.symm; omega))]
            exact f3
          (try simp only [Act.put])
          refine hK _ _ ?_
          clear hK K
          refine wpAnyIn_ready (rs := [5]) (by kernel_rfl) (by simp) ?_
          refine AllReadyIn.cons rfl (fun K hK => ?_) (AllReadyIn.nil)
          go_simp
          refine hK _ _ ?_
          clear hK K
          refine wpAnyIn_done (by kernel_rfl) ?_ _
          gi_wp2_with fail
          refine ⟨(((HR.out.ext HX3.out (by omega)).ext (ext_box _ _ _) (by omega)).grown q2 (fun g e => ⟨HOW.out g e, by have := o1.lt g e; omega⟩) (by simp; omega)).setCell (a := ⟨w.heap.size, 0, none⟩) a4 (.inl rfl) _, ⟨_, ⟨kc_same a5, kf_set f5, a4⟩, (MineT.app (c := c3) HT.out (HX3.out.trans (ext_box _ _ _)) ⟨HO3.out.1, by have := HO3.out.2.1; simp; omega, ki_alloc HO3.out.2.2.1, fun i hi => kf_alloc (by have := HO3.out.2.1; simp only []; omega) (HO3.out.2.2.2 i hi)⟩ (by omega) HOL.out q2 q3 (fun us2 hu => ?_)).setLow (by simp only []; omega) _⟩, (((HS5.out.1.trans HX3.out).trans (ext_box _ _ _)).grownOwn q2 (fun g e => by have := o1.lt g e; omega)).setNew (by simp only []; omega) _, HS5.out.2⟩
          have e2 : us2 = us := ownsRow_same hu (ownsRow_block o1 (fun g hg => (HX3.out.trans (ext_box W6 (.slice (some ⟨b3, 0, none⟩) p.length c3) 29)).block g (o1.lt g hg).2)); subst e2; exact HQ1.out
  case done =>
    rintro D O W hD ⟨⟨vs, ⟨a1, f1, a4⟩, hT⟩, hs⟩ hK
    have hDw : w.heap.size ≤ D := by rw [HZ4.out] at hD; omega
    obtain ⟨va, vc, rfl⟩ := hT.slice
    have HT := Lib.hid hT
    have HS := Lib.hid hs
    clear hT hs hD
    go_wp2
    refine ⟨by simp, .inl ⟨_, _, rfl, run_takeDeferred hK, ?_⟩⟩
    refine ⟨_, results_tmp rfl _ _ _, _, rfl, ?_, HS.out.1.putObj hDw _⟩
    have h1 := HT.out.putObj (fun i hi => HNE.out i hi) hK (.deferred none)
    exact h1.ownV (by omega) (Nat.le_refl _) (by omega) HROW.out
  case stop =>
    rintro D c q O W _ _ _ h _
    exact h.elim

set_option maxRecDepth 100000 in
set_option maxHeartbeats 1000000 in
theorem GroupAutomorphisms_impl (t : List (List Int)) (v : Value) (w : World) (hv : Rows w v t) :
    Calls Tryz.prog 13 #[.agg #[v]] w (NewTC (ifG t (isoL t.length [t] [t]) []) (codeG t) w) := by
  obtain ⟨hlen, b, o, c, rfl, hc⟩ := id hv
  have hX := ext_box w (.slice (some ⟨b, o, none⟩) t.length c) 42
  have k0 := cell_new w (.slice (some ⟨b, o, none⟩) t.length c) 42
  cases hg : groupB t with
  | false =>
    rw [ifG_no hg, codeG_no hg]
    go_enter Tryz.func13, Tryz.ntmps13
    go_wp2_with fail
    refine (IsGroup_impl t _ _ (hv.ext hX)).mono ?_
    rintro e wn ⟨rfl, hx⟩
    rw [hg]
    replace hX := hX.trans hx
    clear hx k0
    go_wp2
    go_ret2
    exact ⟨_, rfl, OwnV.nil _ _ _, hX⟩
  | true =>
    rw [ifG_yes hg, codeG_yes hg]
    have HG := Lib.hid (groupB_iff.1 hg)
    go_enter Tryz.func13, Tryz.ntmps13
    go_wp2_with fail
    refine (IsGroup_impl t _ _ (hv.ext hX)).mono ?_
    rintro e wn ⟨rfl, hx⟩
    rw [hg]
    replace k0 := hx.cell k0
    replace hX := hX.trans hx
    clear hx hg
    go_wp2_with fail
    refine (groupAutomorphisms_any t _ _ (hv.ext hX) HG.out).mono ?_
    rintro e wm ⟨v', rfl, ho, hx⟩
    have HO := Lib.hid ho
    have HX := Lib.hid hx
    obtain ⟨-, a9, c9, rfl, -⟩ := id ho
    clear ho hx
    go_wp2
    go_ret2
    exact ⟨_, rfl, HO.out.mono hX.size (Nat.le_refl _), hX.trans HX.out⟩
end Go.Proofs.YthlafeefjonkdaaGreatDoor
