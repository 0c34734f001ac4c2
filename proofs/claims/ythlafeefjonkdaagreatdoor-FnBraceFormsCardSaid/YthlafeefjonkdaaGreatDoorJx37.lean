/-
  A variable that holds a pair of tables in memory of the call's own; regions that draw their order inside a round.
-/
import Derived.Test.YthlafeefjonkdaaGreatDoorJx23
namespace Go.Proofs.YthlafeefjonkdaaGreatDoor
set_option linter.unusedVariables false
set_option linter.unusedSimpArgs false
open Go.RowKit
open Go.Deep

def TwoAt (O : Nat → Prop) (base : Nat) (W : World) (C : Nat) (T U : List (List Int)) : Prop :=
  ∃ a b c d bA cA bB cB : Nat, W.cell? ⟨C, 0, none⟩ = some (.slice (some ⟨bA, 0, none⟩) T.length cA) ∧ W.cell? ⟨C, 1, none⟩ = some (.slice (some ⟨bB, 0, none⟩) U.length cB) ∧ (W.frozen? ⟨C, 0, none⟩ = false ∧ W.frozen? ⟨C, 1, none⟩ = false) ∧
    (OwnT a b W bA 0 T ∧ OwnT c d W bB 0 U) ∧ (base ≤ a ∧ b ≤ W.heap.size ∧ base ≤ c ∧ d ≤ W.heap.size ∧ (b ≤ c ∨ d ≤ a) ∧ ¬ (a ≤ C ∧ C < b) ∧ ¬ (c ≤ C ∧ C < d) ∧ base ≤ C) ∧ (∀ k, a ≤ k → k < b → ¬ O k) ∧ (∀ k, c ≤ k → k < d → ¬ O k) ∧ ¬ O C
theorem TwoAt.lt {O : Nat → Prop} {base : Nat} {W : World} {C : Nat} {T U : List (List Int)} (h : TwoAt O base W C T U) : C < W.heap.size := by
  obtain ⟨a, b, c, d, bA, cA, bB, cB, h1, -⟩ := h
  exact World.block_lt_of_cell? _ _ h1
theorem TwoAt.next {O O' : Nat → Prop} {base : Nat} {W W' : World} {C : Nat} {T U : List (List Int)} (h : TwoAt O base W C T U) (ho : Only O W W') (hO : ∀ k, O' k → O k ∨ W.heap.size ≤ k) : TwoAt O' base W' C T U := by
  have hl := h.lt
  obtain ⟨a, b, c, d, bA, cA, bB, cB, h1, h2, ⟨h3, h4⟩, ⟨h5, h6⟩, ⟨g1, g2, g3, g4, g5, g6, g7, g8⟩, o1, o2, o3⟩ := h
  have e := ho.keep C hl o3
  have z := ho.size
  have no : ∀ k, k < W.heap.size → ¬ O k → ¬ O' k := fun k hk hn e => by
    rcases hO k e with e | e
    · exact hn e
    · omega
  refine ⟨a, b, c, d, bA, cA, bB, cB, ?_, ?_, ⟨?_, ?_⟩, ⟨h5.keep (fun k k1 k2 => ho.keep k (by omega) (o1 k k1 k2)), h6.keep (fun k k1 k2 => ho.keep k (by omega) (o2 k k1 k2))⟩, ⟨g1, by omega, g3, by omega, g5, g6, g7, g8⟩, fun k k1 k2 => no k (by omega) (o1 k k1 k2), fun k k1 k2 => no k (by omega) (o2 k k1 k2), no C hl o3⟩
  · rw [World.cell?_of_block (w := W) (a := ⟨C, 0, none⟩) e]; exact h1
  · rw [World.cell?_of_block (w := W) (a := ⟨C, 1, none⟩) e]; exact h2
  · rw [World.frozen?_of_block (w := W) (a := ⟨C, 0, none⟩) e]; exact h3
  · rw [World.frozen?_of_block (w := W) (a := ⟨C, 1, none⟩) e]; exact h4
theorem TwoAt.ext {O : Nat → Prop} {base : Nat} {W W' : World} {C : Nat} {T U : List (List Int)} (h : TwoAt O base W C T U) (hx : Ext W W') : TwoAt O base W' C T U :=
  h.next (Only.ext hx) (fun _ e => .inl e)
theorem TwoAt.rows {O : Nat → Prop} {base n : Nat} {W : World} {C : Nat} {T U : List (List Int)} (h : TwoAt O base W C T U) (hT : Small T) (hU : Small U) : ∃ bA cA bB cB, W.cell? ⟨C, 0, none⟩ = some (.slice (some ⟨bA, 0, none⟩) T.length cA) ∧ W.cell? ⟨C, 1, none⟩ = some (.slice (some ⟨bB, 0, none⟩) U.length cB) ∧
    Rows W (.slice (some ⟨bA, 0, none⟩) T.length cA) T ∧ Rows W (.slice (some ⟨bB, 0, none⟩) U.length cB) U := by
  obtain ⟨a, b, c, d, bA, cA, bB, cB, h1, h2, -, ⟨h5, h6⟩, -⟩ := h
  exact ⟨bA, cA, bB, cB, h1, h2, (h5.rowsAt hT).rows hT.1 _, (h6.rowsAt hU).rows hU.1 _⟩
theorem TwoAt.copy {O : Nat → Prop} {base base2 : Nat} {W : World} {C D : Nat} {T U T2 U2 : List (List Int)} {v1 v2 : Value} (h : TwoAt O base W C T U) (h2 : TwoAt (fun _ => False) base2 W D T2 U2) (h1 : W.cell? ⟨D, 0, none⟩ = some v1) (h1' : W.cell? ⟨D, 1, none⟩ = some v2)
    (hC : C < base2) (hb : base ≤ base2) (hO : ∀ k, O k → k < base2) : TwoAt O base ((W.setCell ⟨C, 0, none⟩ v1).setCell ⟨C, 1, none⟩ v2) C T2 U2 := by
  obtain ⟨_, _, _, _, _, _, _, _, p1, p2, ⟨p3, p4⟩, -, ⟨-, -, -, -, -, -, -, p8⟩, -, -, o3⟩ := h
  obtain ⟨a, b, c, d, bA, cA, bB, cB, q1, q2, -, ⟨q5, q6⟩, ⟨g1, g2, g3, g4, g5, g6, g7, g8⟩, -, -, -⟩ := h2
  rw [q1] at h1
  rw [q2] at h1'
  obtain rfl := Option.some.inj h1
  obtain rfl := Option.some.inj h1'
  refine ⟨a, b, c, d, bA, cA, bB, cB, kc_set2 (by simp) (kc_same p1), kc_same (kc_set2 (by simp) p2), ⟨kf_set (kf_set p3), kf_set (kf_set p4)⟩, ⟨(q5.setOther (.inl (by simp only []; omega)) _).setOther (.inl (by simp only []; omega)) _, (q6.setOther (.inl (by simp only []; omega)) _).setOther (.inl (by simp only []; omega)) _⟩, ⟨by omega, by simp; exact g2, by omega, by simp; exact g4, g5, by omega, by omega, p8⟩, fun k k1 k2 e => by have := hO k e; omega, fun k k1 k2 e => by have := hO k e; omega, o3⟩
theorem TwoAt.ownB {O : Nat → Prop} {base lo hi : Nat} {W : World} {C : Nat} {T U : List (List Int)} {v1 v2 : Value} (h : TwoAt O base W C T U) (h1 : W.cell? ⟨C, 0, none⟩ = some v1) (h2 : W.cell? ⟨C, 1, none⟩ = some v2) (hT : Small T) (hU : Small U) (hl : lo ≤ base) (hh : W.heap.size ≤ hi) : OwnB lo hi W v1 v2 T U := by
  obtain ⟨a, b, c, d, bA, cA, bB, cB, q1, q2, -, ⟨q5, q6⟩, ⟨g1, g2, g3, g4, g5, -⟩, -⟩ := h
  rw [q1] at h1
  rw [q2] at h2
  obtain rfl := Option.some.inj h1
  obtain rfl := Option.some.inj h2
  exact ⟨a, b, c, d, by omega, by omega, by omega, by omega, g5, q5.v hT _, q6.v hU _⟩
theorem TwoAt.mk {base : Nat} {W : World} {D bA cA bB cB a b c d nA nB : Nat} {T U : List (List Int)} (h1 : W.cell? ⟨D, 0, none⟩ = some (.slice none 0 0)) (h2 : W.cell? ⟨D, 1, none⟩ = some (.slice none 0 0)) (h3 : W.frozen? ⟨D, 0, none⟩ = false) (h4 : W.frozen? ⟨D, 1, none⟩ = false)
    (h5 : OwnT a b W bA 0 T) (h6 : OwnT c d W bB 0 U) (hnA : nA = T.length) (hnB : nB = U.length) (g : base ≤ a ∧ b ≤ W.heap.size ∧ base ≤ c ∧ d ≤ W.heap.size ∧ (b ≤ c ∨ d ≤ a) ∧ ¬ (a ≤ D ∧ D < b) ∧ ¬ (c ≤ D ∧ D < d) ∧ base ≤ D) :
    TwoAt (fun _ => False) base ((W.setCell ⟨D, 0, none⟩ (.slice (some ⟨bA, 0, none⟩) nA cA)).setCell ⟨D, 1, none⟩ (.slice (some ⟨bB, 0, none⟩) nB cB)) D T U := by
  subst hnA hnB
  obtain ⟨g1, g2, g3, g4, g5, g6, g7, g8⟩ := g
  exact ⟨a, b, c, d, bA, cA, bB, cB, kc_set2 (by simp) (kc_same h1), kc_same (kc_set2 (by simp) h2), ⟨kf_set (kf_set h3), kf_set (kf_set h4)⟩, ⟨(h5.setOther (by simp only []; omega) _).setOther (by simp only []; omega) _, (h6.setOther (by simp only []; omega) _).setOther (by simp only []; omega) _⟩, ⟨g1, by simp; exact g2, g3, by simp; exact g4, g5, g6, g7, g8⟩, fun _ _ _ e => e, fun _ _ _ e => e, fun e => e⟩

structure SinceX (w : World) (C : Nat) (O : Nat → Prop) (W : World) : Prop where
  os : W.os = w.os
  tape : W.tape = w.tape
  output : W.output = w.output
  size : w.heap.size ≤ W.heap.size
  keep : ∀ k, k < w.heap.size → k ≠ C → W.heap[k]? = w.heap[k]?
  new : ∀ k, O k → w.heap.size ≤ k
theorem SinceX.next {w W W' : World} {C : Nat} {O O' : Nat → Prop} (h : SinceX w C O W) (ho : Only O W W') (hO : ∀ k, O' k → O k ∨ W.heap.size ≤ k) : SinceX w C O' W' :=
  ⟨ho.os.trans h.os, ho.tape.trans h.tape, ho.output.trans h.output, Nat.le_trans h.size ho.size, fun k hk hn => (ho.keep k (Nat.lt_of_lt_of_le hk h.size) (fun e => by have := h.new k e; omega)).trans (h.keep k hk hn), fun k e => by
    rcases hO k e with e | e
    · exact h.new k e
    · have := h.size; omega⟩
theorem SinceX.ext {w W W' : World} {C : Nat} {O : Nat → Prop} (h : SinceX w C O W) (hx : Ext W W') : SinceX w C O W' := h.next (Only.ext hx) (fun _ e => .inl e)
theorem SinceX.setC {w W : World} {C : Nat} {O : Nat → Prop} (h : SinceX w C O W) {a : Addr} (ha : a.block = C) (v : Value) : SinceX w C O (W.setCell a v) :=
  have hb := Below.setCell (Below.refl 0 W) (p := a) (Nat.zero_le _) v
  ⟨hb.os.trans h.os, hb.tape.trans h.tape, hb.output.trans h.output, Nat.le_trans h.size hb.size, fun k hk hn => (Below.heap_setCell _ _ _ _ (fun e => hn (e.trans ha))).trans (h.keep k hk hn), h.new⟩
theorem SinceX.putObj {w W : World} {C : Nat} {O : Nat → Prop} (h : SinceX w C O W) {D : Nat} (hD : w.heap.size ≤ D) (o : Obj) : SinceX w C O (W.putObj D o) :=
  ⟨h.os, h.tape, h.output, by have := h.size; simp [World.putObj]; exact this, fun k hk hn => (World.putObj_heap_other (by omega)).trans (h.keep k hk hn), h.new⟩
theorem SinceX.cell {w W : World} {C : Nat} {O : Nat → Prop} (h : SinceX w C O W) {p : Addr} {v : Value} (hp : w.cell? p = some v) (hn : p.block ≠ C) : W.cell? p = some v := by
  rw [World.cell?_of_block (w := w) (h.keep p.block (World.block_lt_of_cell? _ _ hp) hn)]; exact hp
theorem SinceX.free {w W : World} {C : Nat} {O : Nat → Prop} (h : SinceX w C O W) {p : Addr} (hf : w.frozen? p = false) (hl : p.block < w.heap.size) (hn : p.block ≠ C) : W.frozen? p = false := by
  rw [World.frozen?_of_block (w := w) (h.keep p.block hl hn)]; exact hf
theorem SinceX.toExt {w0 w W : World} {C : Nat} {O : Nat → Prop} (h : SinceX w C O W) (hx : Ext w0 w) (hC : w0.heap.size ≤ C) : Ext w0 W :=
  ⟨h.os.trans hx.os, h.tape.trans hx.tape, h.output.trans hx.output, Nat.le_trans hx.size h.size, fun k hk => (h.keep k (Nat.lt_of_lt_of_le hk hx.size) (by omega)).trans (hx.block k hk)⟩
theorem SinceX.start (w : World) (C : Nat) : SinceX w C (fun _ => False) w := ⟨rfl, rfl, rfl, Nat.le_refl _, fun _ _ _ => rfl, fun _ e => e.elim⟩
/-! ### a region that draws its order, inside a round -/
def noDefer (ops : Array Oper) : Bool := ops.all fun o => match o.op with | .defer _ => false | _ => true
theorem noDefer_spec {ops : Array Oper} (h : noDefer ops = true) (i : Nat) (o : Oper) (c : Call) (hi : ops[i]? = some o) : o.op ≠ .defer c := fun e => by
  unfold noDefer at h
  rw [Array.all_eq_true] at h
  obtain ⟨hl, hi⟩ := Array.getElem?_eq_some_iff.1 hi
  have := h i hl
  rw [hi, e] at this
  cases this
theorem uponIn_of_upon {l m : Nat} {P : Program} {o : Oper} {a : Act} {K K' : Act → World → Prop} {Q : Exit → Act → World → Prop} (hk : ∀ a w, K a w → K' a w) (r : Result Next) (h : o.upon P a K Q r) : o.uponIn (Fence.wide.inRound l) m P a K' Q r := by
  cases r with
  | ok x w =>
    cases x with
    | value v => exact hk _ _ h
    | skip => exact hk _ _ h
    | defer d => exact hk _ _ h
    | enter f args =>
      refine ⟨fun h => absurd h (by rw [Fence.inRound_depth]; decide), CallsIn.inRound l (callsIn_wide.2 (Calls.mono h fun e w' he => ?_))⟩
      cases e with
      | returned v => exact hk _ _ he
      | panicked c => exact he
      | outgrown => exact he
    | row row args =>
      refine ⟨fun h => absurd h (by rw [Fence.inRound_depth]; decide), fun c cs _ => ?_⟩
      obtain ⟨v, w', r, s⟩ := h c cs
      exact ⟨v, w', hk _ _ r, stepsIn_wide.2 s⟩
    | _ => exact h.elim
  | halt x w =>
    cases x <;> first | exact h | exact h.elim
theorem wpAnyIn_of_held {l m : Nat} {P : Program} {md : Region.Mode} {ops : Array Oper} {Q : Exit → Act → World → Prop} {S : World → Prop} (hnd : ∀ (i : Nat) (o : Oper) c, ops[i]? = some o → o.op ≠ .defer c) (hq : ¬ LetsOut Q) :
    ∀ (fuel : Nat) (listed : Array Bool) (a : Act) (w : World), wpAnyH P md ops Q S fuel listed a w → wpAnyIn (Fence.wide.inRound l) m P md ops Q fuel listed a w
  | 0, _, _, _, h => h
  | fuel + 1, listed, a, w, h => ⟨h.1, fun i hi => by
    have h2 := h.2 i hi
    unfold wpOp at h2
    unfold wpOpIn
    cases ho : ops[i]? with
    | none =>
      rw [ho] at h2
      exact wpAnyIn_of_held hnd hq fuel _ a w h2.2
    | some o =>
      rw [ho] at h2
      simp only [] at h2 ⊢
      split
      · rename_i hw
        rw [if_pos hw] at h2
        rcases h2 with h2 | h2
        · refine ⟨fun f _ => trivial, ?_⟩
          rw [Oper.semAt_plain _ _ _ (fun c => hnd i o c ho)]
          exact uponIn_of_upon (fun a' w' h' => wpAnyIn_of_held hnd hq fuel _ a' w' h'.2) _ h2
        · exact absurd h2.2 hq
      · rename_i hw
        rw [if_neg hw] at h2
        exact ⟨fun f _ => trivial, wpAnyIn_of_held hnd hq fuel _ _ w h2.2⟩⟩
end Go.Proofs.YthlafeefjonkdaaGreatDoor


namespace Go.Proofs.YthlafeefjonkdaaGreatDoor
set_option linter.unusedVariables false
set_option linter.unusedSimpArgs false
open Go.RowKit
attribute [local go_sem ↓] Go.wp_at_zero Go.wp_at_succ

set_option maxRecDepth 100000 in
set_option maxHeartbeats 2000000 in
theorem l11Maps_first (t t' u u' : List (List Int)) (v v2 y y2 : Value) (w : World) (hv : Rows w v t) (hv2 : Rows w v2 t') (hy : Rows w y u) (hy2 : Rows w y2 u') (hG : GroupOk t) (hG2 : GroupOk t') (hGL : t.length = t'.length) (hU : GroupOk u) (hU2 : GroupOk u') (hUL : u.length = u'.length) :
    Calls Tryz.prog 28 #[.agg #[v, v2], .agg #[y, y2], .bool true] w fun e w' => ∃ v', e = .returned v' ∧ RowsR w' v' (if t.length = u.length then (isoL t.length [t, t'] [u, u']).take 1 else []) ∧ Ext w w' := by
  obtain ⟨hlen, b, o, c, rfl, hc⟩ := id hv
  obtain ⟨hlen2, b2, o2, c2, rfl, hc2⟩ := id hv2
  obtain ⟨hlen3, b3, o3, c3, rfl, hc3⟩ := id hy
  obtain ⟨hlen4, b4, o4, c4, rfl, hc4⟩ := id hy2
  clear hc hc2 hc3 hc4
  replace hGL := Lib.hid hGL
  replace hUL := Lib.hid hUL
  have hX0 : Ext w ((w.alloc (.cells #[.slice (some ⟨b, o, none⟩) t.length c, .slice (some ⟨b2, o2, none⟩) t'.length c2] 26)).alloc (.cells #[.slice (some ⟨b3, o3, none⟩) u.length c3, .slice (some ⟨b4, o4, none⟩) u'.length c4] 26)) := ((Ext.refl w).alloc _).alloc _
  have k0 : ((w.alloc (.cells #[.slice (some ⟨b, o, none⟩) t.length c, .slice (some ⟨b2, o2, none⟩) t'.length c2] 26)).alloc (.cells #[.slice (some ⟨b3, o3, none⟩) u.length c3, .slice (some ⟨b4, o4, none⟩) u'.length c4] 26)).cell? ⟨w.heap.size, 0, none⟩ = some (.slice (some ⟨b, o, none⟩) t.length c) := by simp [go_sem]
  have k1 : ((w.alloc (.cells #[.slice (some ⟨b, o, none⟩) t.length c, .slice (some ⟨b2, o2, none⟩) t'.length c2] 26)).alloc (.cells #[.slice (some ⟨b3, o3, none⟩) u.length c3, .slice (some ⟨b4, o4, none⟩) u'.length c4] 26)).cell? ⟨w.heap.size, 1, none⟩ = some (.slice (some ⟨b2, o2, none⟩) t'.length c2) := by simp [go_sem]
  have k2 : ((w.alloc (.cells #[.slice (some ⟨b, o, none⟩) t.length c, .slice (some ⟨b2, o2, none⟩) t'.length c2] 26)).alloc (.cells #[.slice (some ⟨b3, o3, none⟩) u.length c3, .slice (some ⟨b4, o4, none⟩) u'.length c4] 26)).cell? ⟨w.heap.size + 1, 0, none⟩ = some (.slice (some ⟨b3, o3, none⟩) u.length c3) := by simp [go_sem]
  have k3 : ((w.alloc (.cells #[.slice (some ⟨b, o, none⟩) t.length c, .slice (some ⟨b2, o2, none⟩) t'.length c2] 26)).alloc (.cells #[.slice (some ⟨b3, o3, none⟩) u.length c3, .slice (some ⟨b4, o4, none⟩) u'.length c4] 26)).cell? ⟨w.heap.size + 1, 1, none⟩ = some (.slice (some ⟨b4, o4, none⟩) u'.length c4) := by simp [go_sem]
  have k4 : (((w.alloc (.cells #[.slice (some ⟨b, o, none⟩) t.length c, .slice (some ⟨b2, o2, none⟩) t'.length c2] 26)).alloc (.cells #[.slice (some ⟨b3, o3, none⟩) u.length c3, .slice (some ⟨b4, o4, none⟩) u'.length c4] 26)).alloc (.cells #[.slice (some ⟨b, o, none⟩) t.length c, .slice (some ⟨b2, o2, none⟩) t'.length c2] 24)).cell? ⟨w.heap.size + 1, 0, none⟩ = some (.slice (some ⟨b3, o3, none⟩) u.length c3) := by simp [go_sem]
  have k5 : (((w.alloc (.cells #[.slice (some ⟨b, o, none⟩) t.length c, .slice (some ⟨b2, o2, none⟩) t'.length c2] 26)).alloc (.cells #[.slice (some ⟨b3, o3, none⟩) u.length c3, .slice (some ⟨b4, o4, none⟩) u'.length c4] 26)).alloc (.cells #[.slice (some ⟨b, o, none⟩) t.length c, .slice (some ⟨b2, o2, none⟩) t'.length c2] 24)).cell? ⟨w.heap.size + 1, 1, none⟩ = some (.slice (some ⟨b4, o4, none⟩) u'.length c4) := by simp [go_sem]
  go_enter Tryz.func28, Tryz.ntmps28
  by_cases hl : ¬ t.length = u.length
  · rw [if_neg hl]
    have hl' : ¬ (t.length : Int) = (u.length : Int) := by omega
    go_wp2
    go_ret
    exact ⟨_, rfl, RowsR.nil _ _, hX0⟩
  replace hl := Classical.not_not.1 hl
  rw [if_pos hl]
  have HTA := Lib.hid (brace_tabs hG hG2 hGL.out)
  have HTB := Lib.hid (show TabsOk t.length [u, u'] by rw [hl]; exact brace_tabs hU hU2 hUL.out)
  have HN1 := Lib.hid hG.1.1
  have HN12 := Lib.hid hG.1.2.1
  have HG := Lib.hid hG
  have HU := Lib.hid hU
  have HL := Lib.hid hl
  have hl' : (t.length : Int) = (u.length : Int) := by omega
  clear hG hU hl hG2 hGL hU2 hUL
  go_wp2_with fail
  have hX : Ext w (((((w.alloc (.cells #[.slice (some ⟨b, o, none⟩) t.length c, .slice (some ⟨b2, o2, none⟩) t'.length c2] 26)).alloc (.cells #[.slice (some ⟨b3, o3, none⟩) u.length c3, .slice (some ⟨b4, o4, none⟩) u'.length c4] 26)).alloc (.cells #[.slice (some ⟨b, o, none⟩) t.length c, .slice (some ⟨b2, o2, none⟩) t'.length c2] 24)).alloc (.cells #[.slice (some ⟨b3, o3, none⟩) u.length c3, .slice (some ⟨b4, o4, none⟩) u'.length c4] 24)).alloc (.cells #[.int .i64 0] 2)) := ((hX0.alloc _).alloc _).alloc _
  refine (l03Maps_any [t, t'] [u, u'] (.slice (some ⟨w.heap.size + 1 + 1, 0, none⟩) 2 2) (.slice (some ⟨w.heap.size + 1 + 1 + 1, 0, none⟩) 2 2) (.slice (some ⟨w.heap.size + 1 + 1 + 1 + 1, 0, none⟩) 1 1) t.length 1 _ (tabs_lit2 (by simp [go_sem]; done) (by simp [go_sem]; done) (hv.ext hX) (hv2.ext hX)) (tabs_lit2 (by simp [go_sem]; done) (by simp [go_sem]; done) (hy.ext hX) (hy2.ext hX)) (ints_lit0 (by simp [go_sem]; done)) HTA.out HTB.out (by simp) (by simp) HN1.out HN12.out (by simp) (by omega) (by omega)).mono ?_
  rintro e wn ⟨v', rfl, hg, hx⟩
  replace hX := hX.trans hx
  clear hx
  rw [extL_grp HG.out HU.out rfl HL.out.symm] at hg
  have hr := Lib.hid hg.toR
  clear hg
  go_wp2
  go_ret
  exact ⟨_, rfl, hr.out, hX⟩

end Go.Proofs.YthlafeefjonkdaaGreatDoor


namespace Go.Proofs.YthlafeefjonkdaaGreatDoor
set_option linter.unusedVariables false
set_option linter.unusedSimpArgs false
open Go.RowKit
attribute [local go_sem ↓] Go.wp_at_zero Go.wp_at_succ

set_option maxRecDepth 100000 in
set_option maxHeartbeats 2000000 in
theorem BraceIsomorphism_spec (t u a d : List (List Int)) (v y v2 y2 : Value) (w : World) (hv : Rows w v t) (hy : Rows w y u) (hv2 : Rows w v2 a) (hy2 : Rows w y2 d) :
    Calls Tryz.prog 7 #[.agg #[v, y], .agg #[v2, y2]] w (RetIC (bisoV t u a d) (bisoC t u a d) w) := by
  obtain ⟨hlen, b, o, c, rfl, -⟩ := id hv
  obtain ⟨hlen2, b2, o2, c2, rfl, -⟩ := id hy
  obtain ⟨hlen3, b3, o3, c3, rfl, -⟩ := id hv2
  obtain ⟨hlen4, b4, o4, c4, rfl, -⟩ := id hy2
  have hX : Ext w ((w.alloc (.cells #[.slice (some ⟨b, o, none⟩) t.length c, .slice (some ⟨b2, o2, none⟩) u.length c2] 26)).alloc (.cells #[.slice (some ⟨b3, o3, none⟩) a.length c3, .slice (some ⟨b4, o4, none⟩) d.length c4] 26)) := ((Ext.refl w).alloc _).alloc _
  have k0 : ((w.alloc (.cells #[.slice (some ⟨b, o, none⟩) t.length c, .slice (some ⟨b2, o2, none⟩) u.length c2] 26)).alloc (.cells #[.slice (some ⟨b3, o3, none⟩) a.length c3, .slice (some ⟨b4, o4, none⟩) d.length c4] 26)).cell? ⟨w.heap.size, 0, none⟩ = some (.slice (some ⟨b, o, none⟩) t.length c) := by simp [go_sem]
  have k1 : ((w.alloc (.cells #[.slice (some ⟨b, o, none⟩) t.length c, .slice (some ⟨b2, o2, none⟩) u.length c2] 26)).alloc (.cells #[.slice (some ⟨b3, o3, none⟩) a.length c3, .slice (some ⟨b4, o4, none⟩) d.length c4] 26)).cell? ⟨w.heap.size, 1, none⟩ = some (.slice (some ⟨b2, o2, none⟩) u.length c2) := by simp [go_sem]
  have k2 : ((w.alloc (.cells #[.slice (some ⟨b, o, none⟩) t.length c, .slice (some ⟨b2, o2, none⟩) u.length c2] 26)).alloc (.cells #[.slice (some ⟨b3, o3, none⟩) a.length c3, .slice (some ⟨b4, o4, none⟩) d.length c4] 26)).cell? ⟨w.heap.size + 1, 0, none⟩ = some (.slice (some ⟨b3, o3, none⟩) a.length c3) := by simp [go_sem]
  have k3 : ((w.alloc (.cells #[.slice (some ⟨b, o, none⟩) t.length c, .slice (some ⟨b2, o2, none⟩) u.length c2] 26)).alloc (.cells #[.slice (some ⟨b3, o3, none⟩) a.length c3, .slice (some ⟨b4, o4, none⟩) d.length c4] 26)).cell? ⟨w.heap.size + 1, 1, none⟩ = some (.slice (some ⟨b4, o4, none⟩) d.length c4) := by simp [go_sem]
  cases hb : braceB t u with
  | false =>
    rw [(biso_1 (fun h => by rw [hb] at h; cases h.1)).1, (biso_1 (fun h => by rw [hb] at h; cases h.1)).2]
    go_enter Tryz.func7, Tryz.ntmps7
    go_wp2_with fail
    refine (l11Is_any t u _ _ _ (hv.ext hX) (hy.ext hX)).mono ?_
    rintro e wn ⟨rfl, hx⟩
    replace k0 := hx.cell k0
    replace k1 := hx.cell k1
    replace k2 := hx.cell k2
    replace k3 := hx.cell k3
    replace hX := hX.trans hx
    clear hx
    rw [hb]
    go_wp2
    go_ret2
    exact ⟨_, rfl, IntsR.nil _ _, hX⟩
  | true =>
    cases hb2 : braceB a d with
    | false =>
      rw [(biso_1 (fun h => by rw [hb2] at h; cases h.2)).1, (biso_1 (fun h => by rw [hb2] at h; cases h.2)).2]
      go_enter Tryz.func7, Tryz.ntmps7
      go_wp2_with fail
      refine (l11Is_any t u _ _ _ (hv.ext hX) (hy.ext hX)).mono ?_
      rintro e wn ⟨rfl, hx⟩
      replace k0 := hx.cell k0
      replace k1 := hx.cell k1
      replace k2 := hx.cell k2
      replace k3 := hx.cell k3
      replace hX := hX.trans hx
      clear hx
      rw [hb]
      go_wp2_with fail
      refine (l11Is_any a d _ _ _ (hv2.ext hX) (hy2.ext hX)).mono ?_
      rintro e wn ⟨rfl, hx⟩
      replace k0 := hx.cell k0
      replace k1 := hx.cell k1
      replace k2 := hx.cell k2
      replace k3 := hx.cell k3
      replace hX := hX.trans hx
      clear hx
      rw [hb2]
      go_wp2
      go_ret2
      exact ⟨_, rfl, IntsR.nil _ _, hX⟩
    | true =>
      have HO := Lib.hid (braceB_ok hb)
      have HO2 := Lib.hid (braceB_ok hb2)
      have HB := Lib.hid (And.intro hb hb2)
      rcases biso_cases (u := u) (a := a) (d := d) HO.out.1 with ⟨hl, hi⟩ | ⟨p, hl, hi, hp⟩
      · rw [(biso_2 HB.out hi).1, (biso_2 HB.out hi).2]
        have HL := Lib.hid hl
        clear hl hi
        go_enter Tryz.func7, Tryz.ntmps7
        go_wp2_with fail
        refine (l11Is_any t u _ _ _ (hv.ext hX) (hy.ext hX)).mono ?_
        rintro e wn ⟨rfl, hx⟩
        replace k0 := hx.cell k0
        replace k1 := hx.cell k1
        replace k2 := hx.cell k2
        replace k3 := hx.cell k3
        replace hX := hX.trans hx
        clear hx
        rw [hb]
        go_wp2_with fail
        refine (l11Is_any a d _ _ _ (hv2.ext hX) (hy2.ext hX)).mono ?_
        rintro e wn ⟨rfl, hx⟩
        replace k0 := hx.cell k0
        replace k1 := hx.cell k1
        replace k2 := hx.cell k2
        replace k3 := hx.cell k3
        replace hX := hX.trans hx
        clear hx
        rw [hb2]
        go_wp2_with fail
        refine (l11Maps_first t u a d _ _ _ _ _ (hv.ext hX) (hy.ext hX) (hv2.ext hX) (hy2.ext hX) HO.out.1 HO.out.2.1 HO.out.2.2 HO2.out.1 HO2.out.2.1 HO2.out.2.2).mono ?_
        rintro e wm ⟨v', rfl, hr, hx⟩
        rw [HL.out] at hr
        obtain ⟨a9, c9, rfl, -⟩ := hr
        replace hX := hX.trans hx
        clear hx
        go_wp2
        go_ret2
        exact ⟨_, rfl, IntsR.nil _ _, hX⟩
      · have hne : ¬ isoF [t, u] [a, d] = [] := fun h => by rw [hi] at h; rw [h] at hp; simp at hp
        rw [(biso_3 HB.out hne).1, (biso_3 HB.out hne).2, hi]
        have HL := Lib.hid hl
        clear hl hi hne hp
        go_enter Tryz.func7, Tryz.ntmps7
        go_wp2_with fail
        refine (l11Is_any t u _ _ _ (hv.ext hX) (hy.ext hX)).mono ?_
        rintro e wn ⟨rfl, hx⟩
        replace k0 := hx.cell k0
        replace k1 := hx.cell k1
        replace k2 := hx.cell k2
        replace k3 := hx.cell k3
        replace hX := hX.trans hx
        clear hx
        rw [hb]
        go_wp2_with fail
        refine (l11Is_any a d _ _ _ (hv2.ext hX) (hy2.ext hX)).mono ?_
        rintro e wn ⟨rfl, hx⟩
        replace k0 := hx.cell k0
        replace k1 := hx.cell k1
        replace k2 := hx.cell k2
        replace k3 := hx.cell k3
        replace hX := hX.trans hx
        clear hx
        rw [hb2]
        go_wp2_with fail
        refine (l11Maps_first t u a d _ _ _ _ _ (hv.ext hX) (hy.ext hX) (hv2.ext hX) (hy2.ext hX) HO.out.1 HO.out.2.1 HO.out.2.2 HO2.out.1 HO2.out.2.1 HO2.out.2.2).mono ?_
        rintro e wm ⟨v', rfl, hr, hx⟩
        rw [HL.out] at hr
        obtain ⟨a9, c9, rfl, hr⟩ := hr
        obtain ⟨b8, o8, rfl, hr5⟩ := hr (by simp)
        obtain ⟨x8, k8, hr6⟩ := hr5 0 (by simp)
        have HR := Lib.hid hr6
        replace hX := hX.trans hx
        clear hx hr hr5 hr6
        simp only [Nat.add_zero] at k8
        go_wp2
        go_ret2
        exact ⟨_, rfl, by have := HR.out; rw [row_eq] at this; exact this, hX⟩

end Go.Proofs.YthlafeefjonkdaaGreatDoor
