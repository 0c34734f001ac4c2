/-
  Callers of the iterator over isomorphisms: what they need besides; CountBraceAutomorphisms.
-/
import Derived.Test.YthlafeefjonkdaaGreatDoorJx18
namespace Go.Proofs.YthlafeefjonkdaaGreatDoor
set_option linter.unusedVariables false
set_option linter.unusedSimpArgs false
open Go.RowKit Go.Shelf
open Go.Deep

attribute [local go_sem] Oper.semAt_some

set_option maxHeartbeats 400000 in
theorem isomorphisms_any (b n c b2 n2 c2 : Nat) (w : World) :
    Calls Tryz.prog 26 #[.slice (some ⟨b, 0, none⟩) n c, .slice (some ⟨b2, 0, none⟩) n2 c2] w fun e w' => e = .returned (.func (.func 47) #[] #[.pointer (some ⟨w.heap.size, 0, none⟩), .pointer (some ⟨w.heap.size + 1, 0, none⟩)]) ∧ w' = (w.alloc (.cells #[.slice (some ⟨b, 0, none⟩) n c] 56)).alloc (.cells #[.slice (some ⟨b2, 0, none⟩) n2 c2] 56) := by
  go_enter Tryz.func26, Tryz.ntmps26
  go_wp2
  go_ret
  exact ⟨rfl, rfl⟩

theorem tabsIn_of {base : Nat} {X : Nat → Prop} {wR w0 : World} {b o n : Nat} {ts : List (List (List Int))} (hR : ∀ k, k < ts.length → ∃ r, w0.cell? ⟨b, o + k, none⟩ = some r ∧ Rows wR r (tab ts k)) (hx : Ext wR w0) (hX : ∀ k, k < wR.heap.size → ¬ X k) (hb : b < base) (hXb : ¬ X b) (hbase : wR.heap.size ≤ base) (hT : TabsOk n ts) (h1 : 1 ≤ n) : TabsIn base X w0 b o n ts := by
  refine ⟨hb, hXb, fun k hk => ?_⟩
  obtain ⟨r, h2, h3⟩ := hR k hk
  obtain ⟨_, b1, o1, c1, rfl, h4⟩ := h3
  obtain ⟨ht, hl⟩ := hT k hk
  rw [hl] at h2
  have hrow : ∀ x, x < n → ∃ b2 o2 c2, wR.cell? ⟨b1, o1 + x, none⟩ = some (.slice (some ⟨b2, o2, none⟩) n c2) ∧ IntsAt wR b2 o2 (row (tab ts k) x) := fun x hx => by
    obtain ⟨b2, o2, c2, g1, g2, _⟩ := h4.get (i := x) (by omega)
    rw [ht.len (x := x) (by omega), hl] at g1
    exact ⟨b2, o2, c2, g1, g2⟩
  have hb1 : b1 < wR.heap.size := by
    obtain ⟨_, _, _, g, _⟩ := hrow 0 (by omega)
    exact World.block_lt_of_cell? _ _ g
  refine ⟨b1, o1, c1, by omega, hX b1 hb1, h2, fun x hxn => ?_⟩
  obtain ⟨b2, o2, c2, g1, g2⟩ := hrow x hxn
  have hlx := ht.len (x := x) (by omega)
  have hb2 : b2 < wR.heap.size := World.block_lt_of_cell? _ _ (g2 0 (by omega))
  exact ⟨b2, o2, c2, by omega, hX b2 hb2, hx.cell g1, fun y hy => hx.cell (g2.ent (by omega) hy)⟩

theorem iso_call {wR W0 : World} {X : Nat → Prop} {n bt ct bu cu B1 B2 : Nat} {az bz : List (List (List Int))} (hx : Ext wR W0) (hRa : ∀ k, k < az.length → ∃ r, W0.cell? ⟨bt, 0 + k, none⟩ = some r ∧ Rows wR r (tab az k)) (hRb : ∀ k, k < bz.length → ∃ r, W0.cell? ⟨bu, 0 + k, none⟩ = some r ∧ Rows wR r (tab bz k))
    (hX : ∀ k, k < wR.heap.size → ¬ X k) (hXa : ¬ X bt) (hXb : ¬ X bu) (hA : TabsOk n az) (hB : TabsOk n bz) (hab : az.length = bz.length) (h0 : 0 < az.length) (h2 : az.length ≤ 2) (h1 : 1 ≤ n) (h12 : n ≤ 12)
    (k1 : W0.cell? ⟨B1, 0, none⟩ = some (.slice (some ⟨bt, 0, none⟩) az.length ct)) (k2 : W0.cell? ⟨B2, 0, none⟩ = some (.slice (some ⟨bu, 0, none⟩) bz.length cu)) :
    ∀ (W : World) (l : Nat) (J Jx : List (List Int) → (Nat → Prop) → World → Prop), Ext W0 W → Stab J → Stab Jx → Rounds W0.heap.size X n l az bz (isoL n az bz) J Jx → J [] (fun _ => False) W →
      Calls Tryz.prog 47 (#[.func (.yield l) #[] #[]] ++ #[.pointer (some ⟨B1, 0, none⟩), .pointer (some ⟨B2, 0, none⟩)]) W fun e w' => (∃ v, e = .returned v) ∧ ∃ O, (J (isoL n az bz) O w' ∨ ∃ q, q ≠ [] ∧ q <+: isoL n az bz ∧ Jx q O w') := by
  intro W l J Jx hW hJ hJx hY hj
  obtain ⟨ra, ca, -⟩ := hRa 0 h0
  obtain ⟨rb, cb, -⟩ := hRb 0 (by omega)
  have ba : bt < W0.heap.size := World.block_lt_of_cell? _ _ ca
  have bb : bu < W0.heap.size := World.block_lt_of_cell? _ _ cb
  have hta := (tabsIn_of (base := W0.heap.size) hRa hx hX ba hXa hx.size hA h1).keep (w' := W) (fun k hk _ => hW.block k hk)
  have htb := (tabsIn_of (base := W0.heap.size) hRb hx hX bb hXb hx.size hB h1).keep (w' := W) (fun k hk _ => hW.block k hk)
  exact iso1_any _ _ _ _ _ _ _ _ _ _ _ _ _ _ J Jx hJ hJx hY hA hB hab h0 h2 h12 W hW.size (hW.cell k1) (hW.cell k2) hta htb hj

theorem iso_call_diff {wR W0 : World} {X : Nat → Prop} {n n2 bt ct bu cu B1 B2 : Nat} {az bz : List (List (List Int))} (hx : Ext wR W0) (hRa : ∀ k, k < az.length → ∃ r, W0.cell? ⟨bt, 0 + k, none⟩ = some r ∧ Rows wR r (tab az k)) (hRb : ∀ k, k < bz.length → ∃ r, W0.cell? ⟨bu, 0 + k, none⟩ = some r ∧ Rows wR r (tab bz k))
    (hX : ∀ k, k < wR.heap.size → ¬ X k) (hXa : ¬ X bt) (hXb : ¬ X bu) (hA : TabsOk n az) (hB : TabsOk n2 bz) (hab : az.length = bz.length) (h0 : 0 < az.length) (h2 : az.length ≤ 2) (h1 : 1 ≤ n) (h12 : n ≤ 12) (h3 : 1 ≤ n2) (h32 : n2 ≤ 12) (hne : n2 ≠ n)
    (k1 : W0.cell? ⟨B1, 0, none⟩ = some (.slice (some ⟨bt, 0, none⟩) az.length ct)) (k2 : W0.cell? ⟨B2, 0, none⟩ = some (.slice (some ⟨bu, 0, none⟩) bz.length cu)) (az' bz' : List (List (List Int))) :
    ∀ (W : World) (l : Nat) (J Jx : List (List Int) → (Nat → Prop) → World → Prop), Ext W0 W → Stab J → Stab Jx → Rounds W0.heap.size X n l az' bz' [] J Jx → J [] (fun _ => False) W →
      Calls Tryz.prog 47 (#[.func (.yield l) #[] #[]] ++ #[.pointer (some ⟨B1, 0, none⟩), .pointer (some ⟨B2, 0, none⟩)]) W fun e w' => (∃ v, e = .returned v) ∧ ∃ O, (J [] O w' ∨ ∃ q, q ≠ [] ∧ q <+: [] ∧ Jx q O w') := by
  intro W l J Jx hW hJ hJx hY hj
  obtain ⟨ra, ca, -⟩ := hRa 0 h0
  obtain ⟨rb, cb, -⟩ := hRb 0 (by omega)
  have ba : bt < W0.heap.size := World.block_lt_of_cell? _ _ ca
  have bb : bu < W0.heap.size := World.block_lt_of_cell? _ _ cb
  have hta := (tabsIn_of (base := W0.heap.size) hRa hx hX ba hXa hx.size hA h1).keep (w' := W) (fun k hk _ => hW.block k hk)
  have htb := (tabsIn_of (base := W0.heap.size) hRb hx hX bb hXb hx.size hB h3).keep (w' := W) (fun k hk _ => hW.block k hk)
  refine (iso1_diff _ X _ _ _ _ _ _ n n2 l _ _ az bz h0 (by omega) h2 (by omega) h12 h32 hne W (hW.cell k1) (hW.cell k2) hta htb).mono ?_
  rintro e w' ⟨hr, rfl⟩
  exact ⟨hr, _, .inl hj⟩

theorem tabs1 {wR W0 : World} {b : Nat} {t : List (List Int)} {r : Value} (c0 : W0.cell? ⟨b, 0, none⟩ = some r) (h : Rows wR r t) : ∀ k, k < [t].length → ∃ r, W0.cell? ⟨b, 0 + k, none⟩ = some r ∧ Rows wR r (tab [t] k) := fun k hk => by
  have : k = 0 := by simpa using hk
  subst this
  exact ⟨r, c0, by rw [tab_one]; exact h⟩

theorem tabs2 {wR W0 : World} {b : Nat} {t u : List (List Int)} {r r2 : Value} (c0 : W0.cell? ⟨b, 0, none⟩ = some r) (h : Rows wR r t) (c1 : W0.cell? ⟨b, 1, none⟩ = some r2) (h2 : Rows wR r2 u) : ∀ k, k < [t, u].length → ∃ r, W0.cell? ⟨b, 0 + k, none⟩ = some r ∧ Rows wR r (tab [t, u] k) := fun k hk => by
  have : k = 0 ∨ k = 1 := by have := hk; simp at this; omega
  rcases this with rfl | rfl
  · exact ⟨r, c0, by rw [tab_two0]; exact h⟩
  · exact ⟨r2, c1, by rw [tab_two1]; exact h2⟩

def Since (w : World) (O : Nat → Prop) (W : World) : Prop := Ext w W ∧ ∀ k, O k → w.heap.size ≤ k

theorem Since.next {w W W' : World} {O O' : Nat → Prop} (h : Since w O W) (ho : Only O W W') (hO : ∀ k, O' k → O k ∨ W.heap.size ≤ k) : Since w O' W' := by
  obtain ⟨h1, h2⟩ := h
  refine ⟨⟨ho.os.trans h1.os, ho.tape.trans h1.tape, ho.output.trans h1.output, Nat.le_trans h1.size ho.size, fun k hk => (ho.keep k (Nat.lt_of_lt_of_le hk h1.size) (fun e => by have := h2 k e; omega)).trans (h1.block k hk)⟩, fun k e => ?_⟩
  rcases hO k e with e | e
  · exact h2 k e
  · have := h1.size; omega

def Mine (O : Nat → Prop) (W : World) (C : Nat) (v : Value) : Prop := W.cell? ⟨C, 0, none⟩ = some v ∧ W.frozen? ⟨C, 0, none⟩ = false ∧ ¬ O C

theorem Mine.lt {O : Nat → Prop} {W : World} {C : Nat} {v : Value} (h : Mine O W C v) : C < W.heap.size := World.block_lt_of_cell? _ _ h.1

theorem Mine.next {W W' : World} {O O' : Nat → Prop} {C : Nat} {v : Value} (h : Mine O W C v) (ho : Only O W W') (hO : ∀ k, O' k → O k ∨ W.heap.size ≤ k) : Mine O' W' C v := by
  have hl := h.lt
  obtain ⟨h1, h2, h3⟩ := h
  have e := ho.keep C hl h3
  refine ⟨by rw [World.cell?_of_block (w := W) (a := ⟨C, 0, none⟩) e]; exact h1, by rw [World.frozen?_of_block (w := W) (a := ⟨C, 0, none⟩) e]; exact h2, fun e => ?_⟩
  rcases hO C e with e | e
  · exact h3 e
  · omega

theorem Rnd.refl {base : Nat} {X : Nat → Prop} (O : Nat → Prop) (W : World) : Rnd base X O W W := ⟨Nat.le_refl _, fun _ _ _ => rfl, fun _ _ _ => rfl⟩

theorem Rnd.setCell {base : Nat} {X : Nat → Prop} {O : Nat → Prop} {W W' : World} (h : Rnd base X O W W') {a : Addr} (hO : ¬ O a.block) (hX : X a.block ∨ base ≤ a.block) (v : Value) : Rnd base X O W (W'.setCell a v) :=
  ⟨by have := h.size; simp; exact this, fun k hk hk2 => (Below.heap_setCell _ _ _ _ (fun e => hO (e ▸ hk2))).trans (h.own k hk hk2), fun k hk hk2 => by
    have e : k ≠ a.block := fun e => by subst e; rcases hX with h | h
                                        · exact hk2 h
                                        · omega
    exact (Below.heap_setCell _ _ _ _ e).trans (h.below k hk hk2)⟩

theorem Rnd.ext {base : Nat} {X : Nat → Prop} {O : Nat → Prop} {W W' W2 : World} (h : Rnd base X O W W') (hx : Ext W' W2) (hb : base ≤ W'.heap.size) : Rnd base X O W W2 :=
  ⟨Nat.le_trans h.size hx.size, fun k hk hk2 => (hx.block k (Nat.lt_of_lt_of_le hk h.size)).trans (h.own k hk hk2), fun k hk hk2 => (hx.block k (by omega)).trans (h.below k hk hk2)⟩

theorem Ext.putObj {w W : World} (h : Ext w W) {D : Nat} (hD : w.heap.size ≤ D) (o : Obj) : Ext w (W.putObj D o) :=
  ⟨h.os, h.tape, h.output, by have := h.size; simp [World.putObj]; exact this, fun k hk => (World.putObj_heap_other (by omega)).trans (h.block k hk)⟩

set_option maxRecDepth 100000 in
set_option maxHeartbeats 2000000 in
theorem CountBraceAutomorphisms_impl (t u : List (List Int)) (v y : Value) (w : World) (hv : Rows w v t) (hy : Rows w y u) :
    Calls Tryz.prog 12 #[.agg #[v, y]] w (RetII (ifB t u (((isoL t.length [t, u] [t, u]).length : Nat) : Int) 0) (codeB t u) w) := by
  obtain ⟨hlen, b, o, c, rfl, hc⟩ := id hv
  obtain ⟨hlen2, b2, o2, c2, rfl, hc2⟩ := id hy
  have hX := ext_boxB w (.slice (some ⟨b, o, none⟩) t.length c) (.slice (some ⟨b2, o2, none⟩) u.length c2) 26
  have k0 := cell_new2a w (.slice (some ⟨b, o, none⟩) t.length c) (.slice (some ⟨b2, o2, none⟩) u.length c2) 26
  have k1 := cell_new2b w (.slice (some ⟨b, o, none⟩) t.length c) (.slice (some ⟨b2, o2, none⟩) u.length c2) 26
  cases hb : braceB t u with
  | false =>
    rw [ifB_no hb, codeB_no hb]
    clear hc hc2
    go_enter Tryz.func12, Tryz.ntmps12
    go_wp2_with fail
    refine (IsBrace_impl t u _ _ _ (hv.ext hX) (hy.ext hX)).mono ?_
    rintro e wn ⟨rfl, hx⟩
    replace hX := hX.trans hx
    clear hx k0 k1
    rw [hb]
    go_wp2
    go_ret2
    exact ⟨rfl, hX⟩
  | true =>
    rw [ifB_yes hb, codeB_yes hb]
    obtain ⟨hG, hU, hL⟩ := braceB_ok hb
    have HL := Lib.hid hL
    have HG := Lib.hid hG
    have HU := Lib.hid hU
    have h12 := hG.1.2.1
    have HBR := Lib.hid hb
    clear hL hG hU
    refine (callsIn_wide (n := 0)).1 ?_
    (refine callsIn_of_wp_marks Tryz.func12 rfl trivial ?_ rfl; simp only [Tryz.ntmps12, List.size_toArray, List.length_cons, List.length_nil, Nat.reduceAdd, Nat.reduceSub, Array.replicate_succ, Array.replicate_zero, List.push_toArray, List.append_toArray, List.nil_append, List.cons_append])
    refine wpIn_wide.2 ?_
    go_wp2_with fail
    refine (IsBrace_impl t u _ _ _ (hv.ext hX) (hy.ext hX)).mono ?_
    rintro e wn ⟨rfl, hx⟩
    replace hX := hX.trans hx
    replace k0 := hx.cell k0
    replace k1 := hx.cell k1
    clear hx
    rw [hb]
    clear hb
    go_wp2_with fail
    refine (isomorphisms_any _ _ _ _ _ _ _).mono ?_
    rintro e w1 ⟨rfl, rfl⟩
    go_wp2_with fail
    have h1n : 1 ≤ t.length := HG.out.1.1
    have hT : TabsOk t.length [t, u] := TabsOk.two HG.out.1 HU.out.1 HL.out.symm
    have hfew : (isoL t.length [t, u] [t, u]).length ≤ 1000000 := few_iso (by simp) (by rw [tab_two0]; exact HG.out) (by rw [tab_two0]; exact HG.out) (by rw [tab_two0]) (by rw [tab_two0]) h12
    have hzX := hX.size
    refine (wpIn_wide (n := 0)).1 ?_
    refine wpIn_rangeFunc_iso (fun k => k = wn.heap.size + 1) t.length [t, u] [t, u] (isoL t.length [t, u] [t, u]) rfl (enters_of Tryz.func47 (by kernel_rfl) rfl) rfl ?call
      (fun xs O W => Mine O W (wn.heap.size + 1) (.int .i64 (xs.length : Nat)) ∧ Since w O W) (fun _ _ _ _ => False) (fun xs O O' W W' h ho hO => ⟨h.1.next ho hO, h.2.next ho hO⟩) (fun _ _ _ _ _ _ h _ _ => h) ?h0 ?a1 ?assign ?body ?done ?stop
    case call => exact iso_call (wR := w) (bt := wn.heap.size) (bu := wn.heap.size) (ct := 2) (cu := 2) (hX.trans (((((Ext.refl wn).alloc _).alloc _).alloc _).alloc _)) (tabs2 (by simp [go_sem]) hv (by simp [go_sem]) hy) (tabs2 (by simp [go_sem]) hv (by simp [go_sem]) hy) (fun k hk e => by omega) (by omega) (by omega) hT hT rfl (by simp) (by simp) h1n h12 (by simp [go_sem]) (by simp [go_sem])
    case assign =>
      intro m l Ib W K hK
      gi_wp2
      exact hK
    case h0 => exact ⟨⟨by simp [go_sem], by simp [go_sem], fun e => e⟩, hX.trans (((((Ext.refl wn).alloc _).alloc _).alloc _).alloc _), fun _ e => e.elim⟩
    case body =>
      rintro m l xs p O W Ib ⟨⟨m1, m2, m3⟩, hs⟩ hp hpre hIb hpi hO
      have hlen : xs.length + 1 ≤ 1000000 := by
        have := hpre.length_le
        simp at this
        omega
      have HS := Lib.hid hs
      have HO := Lib.hid hO
      clear hs hO hp hpre hIb hpi
      gi_wp2
      refine ⟨Rnd.setCell (X := fun k => k = wn.heap.size + 1) (a := ⟨wn.heap.size + 1, 0, none⟩) (Rnd.refl _ _) m3 (.inl rfl) _, ⟨?_, kf_set m2, m3⟩, HS.out.1.setNew (by simp only []; omega) _, HS.out.2⟩
      rw [List.length_append]
      exact kc_same m1
    case done =>
      rintro D O W hD ⟨⟨m1, m2, m3⟩, hs⟩ hK
      have HS := Lib.hid hs
      clear hs
      go_wp2
      refine ⟨by simp, .inl ⟨_, _, rfl, run_takeDeferred hK, ?_⟩⟩
      exact ⟨_, results_tmp2 rfl _ _ _, rfl, HS.out.1.putObj (by simp at hD; omega) _⟩
    case stop =>
      rintro D c q O W _ _ _ h _
      exact h.elim
end Go.Proofs.YthlafeefjonkdaaGreatDoor


namespace Go.Proofs.YthlafeefjonkdaaGreatDoor
set_option linter.unusedVariables false
set_option linter.unusedSimpArgs false
open Go.RowKit Go.Shelf
open Go.Deep

attribute [local go_sem] Oper.semAt_some

def MineI (lo : Nat) (O : Nat → Prop) (W : World) (b : Nat) (l : List Int) : Prop := OwnI lo W.heap.size W b 0 l ∧ ¬ O b

theorem MineI.next {lo : Nat} {W W' : World} {O O' : Nat → Prop} {b : Nat} {l : List Int} (h : MineI lo O W b l) (ho : Only O W W') (hO : ∀ k, O' k → O k ∨ W.heap.size ≤ k) : MineI lo O' W' b l := by
  obtain ⟨⟨h1, h2, h3, h4⟩, h5⟩ := h
  have e := ho.keep b h2 h5
  refine ⟨⟨h1, Nat.lt_of_lt_of_le h2 ho.size, h3.block e, h4.block e⟩, fun e => ?_⟩
  rcases hO b e with e | e
  · exact h5 e
  · omega

theorem cell_putObj {W : World} {a : Addr} {v : Value} {D : Nat} {x : Option (List Deferred)} (h : W.cell? a = some v) (hK : W.heap[D]? = some (.deferred x)) (o : Obj) : (W.putObj D o).cell? a = some v :=
  cell_kept h (grownBy_putObj' _ D o) (fun r e => by cases e; exact ⟨_, hK, rfl⟩)

theorem ne_deferred {W : World} {b : Nat} {l : List Int} {D : Nat} {x : Option (List Deferred)} (h : IntsAt W b 0 l) (hl : 0 < l.length) (hK : W.heap[D]? = some (.deferred x)) : b ≠ D := fun e => by
  have hc := h 0 hl
  obtain ⟨o, ho, hc2⟩ := cells_of_cell hc
  subst e
  rw [hK] at ho
  cases ho
  cases hc2

theorem OwnI.putObj {lo hi : Nat} {W : World} {b : Nat} {l : List Int} {D : Nat} {x : Option (List Deferred)} (h : OwnI lo hi W b 0 l) (hl : 0 < l.length) (hK : W.heap[D]? = some (.deferred x)) (o : Obj) : OwnI lo hi (W.putObj D o) b 0 l :=
  h.block (World.putObj_heap_other (ne_deferred h.2.2.1 hl hK))

def GiI (w : World) (xs : List (List Int)) (O : Nat → Prop) (W : World) : Prop := xs = [] ∧ Mine O W (w.heap.size + 2) (.slice none 0 0) ∧ Mine O W (w.heap.size + 3) (.int .i64 0) ∧ Since w O W

def GiX (w : World) (c : Code) (xs : List (List Int)) (O : Nat → Prop) (W : World) : Prop := c = .ret ∧ ∃ p b cc, xs = [p] ∧ Mine O W (w.heap.size + 2) (.slice (some ⟨b, 0, none⟩) p.length cc) ∧ MineI w.heap.size O W b p ∧ Mine O W (w.heap.size + 3) (.int .i64 0) ∧ Since w O W

theorem giI_stab (w : World) : Stab (GiI w) := fun xs O O' W W' h ho hO => ⟨h.1, h.2.1.next ho hO, h.2.2.1.next ho hO, h.2.2.2.next ho hO⟩

theorem giX_stab (w : World) (c : Code) : Stab (GiX w c) := fun xs O O' W W' ⟨h0, p, b, cc, h1, h2, h3, h4, h5⟩ ho hO => ⟨h0, p, b, cc, h1, h2.next ho hO, h3.next ho hO, h4.next ho hO, h5.next ho hO⟩

end Go.Proofs.YthlafeefjonkdaaGreatDoor


namespace Go.Proofs.YthlafeefjonkdaaGreatDoor
set_option linter.unusedVariables false
set_option linter.unusedSimpArgs false
open Go.RowKit Go.Shelf
open Go.Deep
attribute [local go_sem] Oper.semAt_some

set_option maxRecDepth 100000 in
set_option maxHeartbeats 4000000 in
theorem BraceIsomorphism_impl (t u a d : List (List Int)) (v y v2 y2 : Value) (w : World) (hv : Rows w v t) (hy : Rows w y u) (hv2 : Rows w v2 a) (hy2 : Rows w y2 d) :
    Calls Tryz.prog 6 #[.agg #[v, y], .agg #[v2, y2]] w (NewIC (bisoV t u a d) (bisoC t u a d) w) := by
  obtain ⟨hlen, b, o, c, rfl, -⟩ := id hv
  obtain ⟨hlen2, b2, o2, c2, rfl, -⟩ := id hy
  obtain ⟨hlen3, b3, o3, c3, rfl, -⟩ := id hv2
  obtain ⟨hlen4, b4, o4, c4, rfl, -⟩ := id hy2
  have hX : Ext w ((((w.alloc (.cells #[.slice (some ⟨b, o, none⟩) t.length c, .slice (some ⟨b2, o2, none⟩) u.length c2] 26)).alloc (.cells #[.slice (some ⟨b3, o3, none⟩) a.length c3, .slice (some ⟨b4, o4, none⟩) d.length c4] 26)).alloc (.cells #[.slice none 0 0] 29)).alloc (.cells #[.int .i64 0] 2)) := ((((Ext.refl w).alloc _).alloc _).alloc _).alloc _
  have k0 : ((((w.alloc (.cells #[.slice (some ⟨b, o, none⟩) t.length c, .slice (some ⟨b2, o2, none⟩) u.length c2] 26)).alloc (.cells #[.slice (some ⟨b3, o3, none⟩) a.length c3, .slice (some ⟨b4, o4, none⟩) d.length c4] 26)).alloc (.cells #[.slice none 0 0] 29)).alloc (.cells #[.int .i64 0] 2)).cell? ⟨w.heap.size, 0, none⟩ = some (.slice (some ⟨b, o, none⟩) t.length c) := by simp [go_sem]
  have j0 : ((((w.alloc (.cells #[.slice (some ⟨b, o, none⟩) t.length c, .slice (some ⟨b2, o2, none⟩) u.length c2] 26)).alloc (.cells #[.slice (some ⟨b3, o3, none⟩) a.length c3, .slice (some ⟨b4, o4, none⟩) d.length c4] 26)).alloc (.cells #[.slice none 0 0] 29)).alloc (.cells #[.int .i64 0] 2)).cell? ⟨w.heap.size, 1, none⟩ = some (.slice (some ⟨b2, o2, none⟩) u.length c2) := by simp [go_sem]
  have k1 : ((((w.alloc (.cells #[.slice (some ⟨b, o, none⟩) t.length c, .slice (some ⟨b2, o2, none⟩) u.length c2] 26)).alloc (.cells #[.slice (some ⟨b3, o3, none⟩) a.length c3, .slice (some ⟨b4, o4, none⟩) d.length c4] 26)).alloc (.cells #[.slice none 0 0] 29)).alloc (.cells #[.int .i64 0] 2)).cell? ⟨w.heap.size + 1, 0, none⟩ = some (.slice (some ⟨b3, o3, none⟩) a.length c3) := by simp [go_sem]
  have j1 : ((((w.alloc (.cells #[.slice (some ⟨b, o, none⟩) t.length c, .slice (some ⟨b2, o2, none⟩) u.length c2] 26)).alloc (.cells #[.slice (some ⟨b3, o3, none⟩) a.length c3, .slice (some ⟨b4, o4, none⟩) d.length c4] 26)).alloc (.cells #[.slice none 0 0] 29)).alloc (.cells #[.int .i64 0] 2)).cell? ⟨w.heap.size + 1, 1, none⟩ = some (.slice (some ⟨b4, o4, none⟩) d.length c4) := by simp [go_sem]
  have k2 : ((((w.alloc (.cells #[.slice (some ⟨b, o, none⟩) t.length c, .slice (some ⟨b2, o2, none⟩) u.length c2] 26)).alloc (.cells #[.slice (some ⟨b3, o3, none⟩) a.length c3, .slice (some ⟨b4, o4, none⟩) d.length c4] 26)).alloc (.cells #[.slice none 0 0] 29)).alloc (.cells #[.int .i64 0] 2)).cell? ⟨w.heap.size + 2, 0, none⟩ = some (.slice none 0 0) := by simp [go_sem]
  have k3 : ((((w.alloc (.cells #[.slice (some ⟨b, o, none⟩) t.length c, .slice (some ⟨b2, o2, none⟩) u.length c2] 26)).alloc (.cells #[.slice (some ⟨b3, o3, none⟩) a.length c3, .slice (some ⟨b4, o4, none⟩) d.length c4] 26)).alloc (.cells #[.slice none 0 0] 29)).alloc (.cells #[.int .i64 0] 2)).cell? ⟨w.heap.size + 3, 0, none⟩ = some (.int .i64 0) := by simp [go_sem]
  have f2 : ((((w.alloc (.cells #[.slice (some ⟨b, o, none⟩) t.length c, .slice (some ⟨b2, o2, none⟩) u.length c2] 26)).alloc (.cells #[.slice (some ⟨b3, o3, none⟩) a.length c3, .slice (some ⟨b4, o4, none⟩) d.length c4] 26)).alloc (.cells #[.slice none 0 0] 29)).alloc (.cells #[.int .i64 0] 2)).frozen? ⟨w.heap.size + 2, 0, none⟩ = false := by simp [go_sem]
  have f3 : ((((w.alloc (.cells #[.slice (some ⟨b, o, none⟩) t.length c, .slice (some ⟨b2, o2, none⟩) u.length c2] 26)).alloc (.cells #[.slice (some ⟨b3, o3, none⟩) a.length c3, .slice (some ⟨b4, o4, none⟩) d.length c4] 26)).alloc (.cells #[.slice none 0 0] 29)).alloc (.cells #[.int .i64 0] 2)).frozen? ⟨w.heap.size + 3, 0, none⟩ = false := by simp [go_sem]
  have z0 : w.heap.size + 4 ≤ ((((w.alloc (.cells #[.slice (some ⟨b, o, none⟩) t.length c, .slice (some ⟨b2, o2, none⟩) u.length c2] 26)).alloc (.cells #[.slice (some ⟨b3, o3, none⟩) a.length c3, .slice (some ⟨b4, o4, none⟩) d.length c4] 26)).alloc (.cells #[.slice none 0 0] 29)).alloc (.cells #[.int .i64 0] 2)).heap.size := by simp
  cases hg : braceB t u with
  | false =>
    rw [(biso_1 (a := a) (d := d) (fun h => by rw [hg] at h; cases h.1)).1, (biso_1 (a := a) (d := d) (fun h => by rw [hg] at h; cases h.1)).2]
    go_enter Tryz.func6, Tryz.ntmps6
    go_wp2_with fail
    refine (IsBrace_impl t u _ _ _ (hv.ext hX) (hy.ext hX)).mono ?_
    rintro e wn ⟨rfl, hx⟩
    replace f2 := hx.free f2 (by simp only []; omega)
    replace f3 := hx.free f3 (by simp only []; omega)
    replace k0 := hx.cell k0
    replace j0 := hx.cell j0
    replace j1 := hx.cell j1
    replace k1 := hx.cell k1
    replace k2 := hx.cell k2
    replace k3 := hx.cell k3
    replace z0 := Nat.le_trans z0 hx.size
    replace hX := hX.trans hx
    clear hx
    rw [hg]
    go_wp2
    refine bodyPost_ret (v := .tuple #[.slice none 0 0, .int .i64 1]) (by simp [results, Tryz.results6, go_sem, k2, k3]) rfl ⟨_, rfl, OwnIV.nil _ _ _, (hX.setNew (by simp only []; omega) _).setNew (by simp only []; omega) _⟩
  | true =>
    cases hg2 : braceB a d with
    | false =>
      rw [(biso_1 (t := t) (u := u) (fun h => by rw [hg2] at h; cases h.2)).1, (biso_1 (t := t) (u := u) (fun h => by rw [hg2] at h; cases h.2)).2]
      go_enter Tryz.func6, Tryz.ntmps6
      go_wp2_with fail
      refine (IsBrace_impl t u _ _ _ (hv.ext hX) (hy.ext hX)).mono ?_
      rintro e wn ⟨rfl, hx⟩
      replace f2 := hx.free f2 (by simp only []; omega)
      replace f3 := hx.free f3 (by simp only []; omega)
      replace k0 := hx.cell k0
      replace j0 := hx.cell j0
      replace j1 := hx.cell j1
      replace k1 := hx.cell k1
      replace k2 := hx.cell k2
      replace k3 := hx.cell k3
      replace z0 := Nat.le_trans z0 hx.size
      replace hX := hX.trans hx
      clear hx
      rw [hg]
      go_wp2_with fail
      refine (IsBrace_impl a d _ _ _ (hv2.ext hX) (hy2.ext hX)).mono ?_
      rintro e wp ⟨rfl, hx⟩
      replace f2 := hx.free f2 (by simp only []; omega)
      replace f3 := hx.free f3 (by simp only []; omega)
      replace k0 := hx.cell k0
      replace j0 := hx.cell j0
      replace j1 := hx.cell j1
      replace k1 := hx.cell k1
      replace k2 := hx.cell k2
      replace k3 := hx.cell k3
      replace z0 := Nat.le_trans z0 hx.size
      replace hX := hX.trans hx
      clear hx
      rw [hg2]
      go_wp2
      refine bodyPost_ret (v := .tuple #[.slice none 0 0, .int .i64 1]) (by simp [results, Tryz.results6, go_sem, k2, k3]) rfl ⟨_, rfl, OwnIV.nil _ _ _, (hX.setNew (by simp only []; omega) _).setNew (by simp only []; omega) _⟩
    | true =>
      obtain ⟨g1, g2, g3⟩ := braceB_ok hg
      obtain ⟨e1, e2, e3⟩ := braceB_ok hg2
      have HG := Lib.hid g1
      have HG2 := Lib.hid g2
      have HG3 := Lib.hid g3
      have HU := Lib.hid e1
      have HU2 := Lib.hid e2
      have HU3 := Lib.hid e3
      clear g1 g2 g3 e1 e2 e3
      have HB := Lib.hid (And.intro hg hg2)
      have h12 := HG.out.1.2.1
      have h22 := HU.out.1.2.1
      have h1n : 1 ≤ t.length := HG.out.1.1
      have h2n : 1 ≤ a.length := HU.out.1.1
      refine (callsIn_wide (n := 0)).1 ?_
      (refine callsIn_of_wp_marks Tryz.func6 rfl trivial ?_ rfl; simp only [Tryz.ntmps6, List.size_toArray, List.length_cons, List.length_nil, Nat.reduceAdd, Nat.reduceSub, Array.replicate_succ, Array.replicate_zero, List.push_toArray, List.append_toArray, List.nil_append, List.cons_append])
      refine wpIn_wide.2 ?_
      go_wp2_with fail
      refine (IsBrace_impl t u _ _ _ (hv.ext hX) (hy.ext hX)).mono ?_
      rintro e wn ⟨rfl, hx⟩
      replace f2 := hx.free f2 (by simp only []; omega)
      replace f3 := hx.free f3 (by simp only []; omega)
      replace k0 := hx.cell k0
      replace j0 := hx.cell j0
      replace j1 := hx.cell j1
      replace k1 := hx.cell k1
      replace k2 := hx.cell k2
      replace k3 := hx.cell k3
      replace z0 := Nat.le_trans z0 hx.size
      replace hX := hX.trans hx
      clear hx
      rw [hg]
      go_wp2_with fail
      refine (IsBrace_impl a d _ _ _ (hv2.ext hX) (hy2.ext hX)).mono ?_
      rintro e wp ⟨rfl, hx⟩
      replace f2 := hx.free f2 (by simp only []; omega)
      replace f3 := hx.free f3 (by simp only []; omega)
      replace k0 := hx.cell k0
      replace j0 := hx.cell j0
      replace j1 := hx.cell j1
      replace k1 := hx.cell k1
      replace k2 := hx.cell k2
      replace k3 := hx.cell k3
      replace z0 := Nat.le_trans z0 hx.size
      replace hX := hX.trans hx
      clear hx
      rw [hg2]
      clear hg hg2
      have k1' : (wp.alloc (.cells #[.slice (some ⟨b, o, none⟩) t.length c, .slice (some ⟨b2, o2, none⟩) u.length c2] 24)).cell? ⟨w.heap.size + 1, 0, none⟩ = some (.slice (some ⟨b3, o3, none⟩) a.length c3) := kc_alloc k1
      have j1' : (wp.alloc (.cells #[.slice (some ⟨b, o, none⟩) t.length c, .slice (some ⟨b2, o2, none⟩) u.length c2] 24)).cell? ⟨w.heap.size + 1, 1, none⟩ = some (.slice (some ⟨b4, o4, none⟩) d.length c4) := kc_alloc j1
      go_wp2_with fail
      refine (isomorphisms_any _ _ _ _ _ _ _).mono ?_
      rintro e w1 ⟨rfl, rfl⟩
      go_wp2_with fail
      refine (wpIn_wide (n := 0)).1 ?_
      obtain ⟨L, hL⟩ : ∃ L, L = if t.length = a.length then isoL t.length [t, u] [a, d] else [] := ⟨_, rfl⟩
      have HL := Lib.hid hL
      clear hL
      have hx4 : Ext w ((((wp.alloc (.cells #[.slice (some ⟨b, o, none⟩) t.length c, .slice (some ⟨b2, o2, none⟩) u.length c2] 24)).alloc (.cells #[.slice (some ⟨b3, o3, none⟩) a.length c3, .slice (some ⟨b4, o4, none⟩) d.length c4] 24)).alloc (.cells #[.slice (some ⟨wp.heap.size, 0, none⟩) 2 2] 56)).alloc (.cells #[.slice (some ⟨wp.heap.size + 1, 0, none⟩) 2 2] 56)) := (((hX.alloc _).alloc _).alloc _).alloc _
      refine wpIn_rangeFunc_iso (fun k => k = w.heap.size + 2 ∨ k = w.heap.size + 3) t.length [t, u] [a, d] L rfl (enters_of Tryz.func47 (by kernel_rfl) rfl) rfl ?call (GiI w) (GiX w) (giI_stab w) (giX_stab w) ?h0 ?a1 ?assign ?body ?done ?stop
      case call =>
        by_cases hlu : t.length = a.length
        · rw [HL.out, if_pos hlu]
          exact iso_call (wR := w) (bt := wp.heap.size) (bu := wp.heap.size + 1) (ct := 2) (cu := 2) hx4 (tabs2 (by simp [go_sem]) hv (by simp [go_sem]) hy) (tabs2 (by simp [go_sem]) hv2 (by simp [go_sem]) hy2) (fun k hk e => by omega) (by omega) (by omega) (TabsOk.two HG.out.1 HG2.out.1 HG3.out.symm) (by rw [hlu]; exact TabsOk.two HU.out.1 HU2.out.1 HU3.out.symm) rfl (by simp) (by simp) h1n h12 (by simp [go_sem]) (by simp [go_sem])
        · rw [HL.out, if_neg hlu]
          exact iso_call_diff (wR := w) (bt := wp.heap.size) (bu := wp.heap.size + 1) (ct := 2) (cu := 2) (n2 := a.length) (az := [t, u]) (bz := [a, d]) hx4 (tabs2 (by simp [go_sem]) hv (by simp [go_sem]) hy) (tabs2 (by simp [go_sem]) hv2 (by simp [go_sem]) hy2) (fun k hk e => by omega) (by omega) (by omega) (TabsOk.two HG.out.1 HG2.out.1 HG3.out.symm) (TabsOk.two HU.out.1 HU2.out.1 HU3.out.symm) rfl (by simp) (by simp) h1n h12 h2n h22 (fun e => hlu e.symm) (by simp [go_sem]) (by simp [go_sem]) [t, u] [a, d]
      case assign =>
        intro m l Ib W K hK
        gi_wp2
        exact hK
      case h0 => exact ⟨rfl, ⟨kc_alloc (kc_alloc (kc_alloc (kc_alloc k2))), (((((Ext.refl wp).alloc _).alloc _).alloc _).alloc _).free f2 (by simp only []; omega), fun e => e⟩, ⟨kc_alloc (kc_alloc (kc_alloc (kc_alloc k3))), (((((Ext.refl wp).alloc _).alloc _).alloc _).alloc _).free f3 (by simp only []; omega), fun e => e⟩, hx4, fun _ e => e.elim⟩
      case body =>
        rintro m l xs p O W Ib ⟨rfl, ⟨a1, a2, a3⟩, ⟨d1, d2, d3⟩, hs⟩ hp hpre hIb hpi hO
        have hpl := hp.1
        have hi : Ints W (.slice (some ⟨Ib, 0, none⟩) t.length t.length) p := ⟨by omega, Ib, 0, t.length, by rw [hpl], hpi⟩
        have HC := Lib.hid (slicesClone_any p _ W hi)
        have HS := Lib.hid hs
        have HPL := Lib.hid hpl
        have l1 := World.block_lt_of_cell? _ _ a1
        have l2 := World.block_lt_of_cell? _ _ d1
        have hOi := hO Ib hIb
        have HO := Lib.hid hO
        clear hs hO hp hpre hIb hpi hi hpl
        gi_wp2_with fail
        refine ⟨trivial, fun h => absurd h (by decide), (CallsIn.inRound l (callsIn_wide.2 HC.out)).mono ?_⟩
        rintro e W2 ⟨b9, c9, rfl, ho3, hx3⟩
        have a4 := hx3.cell a1
        have a5 := hx3.free a2 l1
        have d4 := hx3.cell d1
        have d5 := hx3.free d2 l2
        have HO3 := Lib.hid ho3
        have HX3 := Lib.hid hx3
        clear ho3 hx3 a1 a2 d1 d2
        gi_wp2_with fail
        have hb3 := HO3.out.1
        have r1 := Rnd.setCell (X := fun k => k = w.heap.size + 2 ∨ k = w.heap.size + 3) (base := ((((wp.alloc (.cells #[.slice (some ⟨b, o, none⟩) t.length c, .slice (some ⟨b2, o2, none⟩) u.length c2] 24)).alloc (.cells #[.slice (some ⟨b3, o3, none⟩) a.length c3, .slice (some ⟨b4, o4, none⟩) d.length c4] 24)).alloc (.cells #[.slice (some ⟨wp.heap.size, 0, none⟩) 2 2] 56)).alloc (.cells #[.slice (some ⟨wp.heap.size + 1, 0, none⟩) 2 2] 56)).heap.size) (a := ⟨w.heap.size + 2, 0, none⟩) ((Rnd.refl O W).ext HX3.out (by omega)) a3 (.inl (.inl rfl)) (.slice (some ⟨b9, 0, none⟩) p.length c9)
        have r2 := r1.setCell (a := ⟨w.heap.size + 3, 0, none⟩) d3 (.inl (.inr rfl)) (.int .i64 0)
        have hs2 : Since w O ((W2.setCell ⟨w.heap.size + 2, 0, none⟩ (.slice (some ⟨b9, 0, none⟩) p.length c9)).setCell ⟨w.heap.size + 3, 0, none⟩ (.int .i64 0)) := ⟨((HS.out.1.trans HX3.out).setNew (by simp only []; omega) _).setNew (by simp only []; omega) _, HS.out.2⟩
        have hzW := HS.out.1.size
        refine ⟨r2, rfl, p, b9, c9, rfl, ⟨kc_set (by simp) (kc_same a4), kf_set (kf_set a5), a3⟩, ⟨⟨by omega, ?_, ?_, ?_⟩, fun e => by have := (HO.out b9 e).2; omega⟩, ⟨kc_same (kc_set (by simp) d4), kf_set (kf_set d5), d3⟩, hs2⟩
        · have := HO3.out.2.1; simpa using this
        · exact ki_set (by simp only []; omega) (ki_set (by simp only []; omega) HO3.out.2.2.1)
        · exact fun i hi => kf_set (kf_set (HO3.out.2.2.2 i hi))
      case done =>
        rintro D O W hD ⟨h0, ⟨a1, a2, a3⟩, ⟨d1, d2, d3⟩, hs⟩ hK
        have hF : isoF [t, u] [a, d] = [] := by
          rw [HL.out] at h0
          by_cases hlu : t.length = a.length
          · rw [if_pos hlu] at h0
            exact isoF_nil (by rw [tab_two0]) h0
          · exact isoF_len (by rw [tab_two0, tab_two0]; exact hlu)
        have HV := Lib.hid (biso_2 HB.out hF)
        have HS := Lib.hid hs
        have hzW := HS.out.1.size
        have hDw : w.heap.size ≤ D := by simp at hD; omega
        clear hs h0 hF hD
        go_wp2
        have hK2 := (((KeepsOthers.refl W).trans (KeepsOthers.setCell _ ⟨w.heap.size + 2, 0, none⟩ (.slice none 0 0))).trans (KeepsOthers.setCell _ ⟨w.heap.size + 3, 0, none⟩ (.int .i64 4))).same D _ hK rfl
        have q0 := cell_putObj (kc_set (u := .int .i64 4) (p := ⟨w.heap.size + 3, 0, none⟩) (by simp) (kc_same (u := .slice none 0 0) a1)) hK2 (.deferred none)
        have q1 := cell_putObj (kc_same (u := .int .i64 4) (kc_set (u := .slice none 0 0) (p := ⟨w.heap.size + 2, 0, none⟩) (by simp) d1)) hK2 (.deferred none)
        refine ⟨by simp, .inl ⟨_, _, rfl, run_takeDeferred hK2, ?_⟩⟩
        exact ⟨.tuple #[.slice none 0 0, .int .i64 4], by simp [results, Tryz.results6, go_sem, q0, q1], _, by rw [HV.out.2], by rw [HV.out.1]; exact OwnIV.nil _ _ _, ((HS.out.1.setNew (by simp only []; omega) _).setNew (by simp only []; omega) _).putObj hDw _⟩
      case stop =>
        rintro D c q O W hD _ hq ⟨rfl, p, bb, cc, rfl, ⟨a1, a2, a3⟩, hm, ⟨d1, d2, d3⟩, hs⟩ hK
        obtain ⟨r, hr⟩ := hq
        have hlu : t.length = a.length := by
          by_cases hlu : t.length = a.length
          · exact hlu
          · rw [HL.out, if_neg hlu] at hr
            simp at hr
        rw [HL.out, if_pos hlu] at hr
        have hF : isoF [t, u] [a, d] = p := isoF_cons (by rw [tab_two0]) (by rw [tab_two0]; exact hlu.symm) hr.symm
        have hne := isoF_ne h1n hr.symm
        have hF0 : ¬ isoF [t, u] [a, d] = [] := by rw [hF]; exact ne_nil_of_lt hne.2
        have HV := Lib.hid (show bisoV t u a d = p ∧ bisoC t u a d = 0 by rw [(biso_3 HB.out hF0).1, hF]; exact ⟨rfl, (biso_3 HB.out hF0).2⟩)
        have HS := Lib.hid hs
        have HM := Lib.hid hm
        have HN := Lib.hid hne
        have hDw : w.heap.size ≤ D := by simp at hD; omega
        clear hs hm hr hF hF0 hne hD
        refine wpIn_wide.2 ?_
        go_wp2
        have q0 := cell_putObj a1 hK (.deferred none)
        have q1 := cell_putObj d1 hK (.deferred none)
        refine ⟨by simp, .inl ⟨_, _, rfl, run_takeDeferred hK, ?_⟩⟩
        exact ⟨.tuple #[.slice (some ⟨bb, 0, none⟩) p.length cc, .int .i64 0], by simp [results, Tryz.results6, go_sem, q0, q1], _, by rw [HV.out.2], by rw [HV.out.1]; exact ⟨by have := HN.out.1; omega, _, cc, rfl, fun _ => ⟨bb, 0, rfl, by have := HM.out.1.putObj HN.out.2 hK (.deferred none); simpa [World.putObj] using this⟩⟩, HS.out.1.putObj hDw _⟩
end Go.Proofs.YthlafeefjonkdaaGreatDoor
