/-
  The statement 'for p := range isomorphisms(..)': the law; the iterator at lists of tables of different sizes.
-/
import Derived.Test.YtjbloenjphpngaaProg
import Derived.Deep.DeepCutAuto
import Derived.Deep.DrawnRows
import Derived.RangeFuncNested
import Derived.Test.YtjbloenjphpngaaJx0
import Derived.Test.YtjbloenjphpngaaJx1
import Derived.Test.YtjbloenjphpngaaJx5
import Derived.Test.YtjbloenjphpngaaJx14
import Derived.Test.YtjbloenjphpngaaJx8
import Derived.Test.YtjbloenjphpngaaJx9
import Derived.Test.YtjbloenjphpngaaJx25
import Derived.Test.YtjbloenjphpngaaJx2
import Derived.Test.YtjbloenjphpngaaJx27
import Derived.Test.YtjbloenjphpngaaJx10
import Derived.Test.YtjbloenjphpngaaJx6
import Derived.Test.YtjbloenjphpngaaJx3
import Derived.Test.YtjbloenjphpngaaJx4
import Derived.Test.YtjbloenjphpngaaJx12
import Derived.Test.YtjbloenjphpngaaJx13
import Derived.Test.YtjbloenjphpngaaJx16
import Derived.Test.YtjbloenjphpngaaJx26
import Derived.Test.YtjbloenjphpngaaJx28
import Derived.Test.YtjbloenjphpngaaJx29
import Derived.Test.YtjbloenjphpngaaJx30
namespace Go.Proofs.Ytjbloenjphpngaa
set_option linter.unusedVariables false
set_option linter.unusedSimpArgs false
open Go.RowKit
open Go.Deep

/-- how the body of a round may be left -/
def isoPost (base : Nat) (X : Nat → Prop)  (O : Nat → Prop) (I : List (List Int) → (Nat → Prop) → World → Prop) (Ix : Code → List (List Int) → (Nat → Prop) → World → Prop) (xs : List (List Int)) (W : World) : Exit → Act → World → Prop
  | .normal, _, W' => Rnd base X O W W' ∧ I xs O W'
  | .ret, _, W' => Rnd base X O W W' ∧ Ix .ret xs O W'
  | .exit id, _, W' => Rnd base X O W W' ∧ Ix (.exit id) xs O W'
  | .goto t, _, W' => Rnd base X O W W' ∧ Ix (.goto t) xs O W'
  | .panic _, _, _ => False
  | .outgrown, _, _ => False
theorem only_putObj {O : Nat → Prop} {W : World} {l : Nat} (o : Obj) (hl : O l) : Only O W (W.putObj l o) :=
  have h := grownBy_putObj' W l o
  ⟨h.os, h.tape, h.output, h.size, fun k hk hn => h.block k hk (fun e => hn (by injection e with e; exact e ▸ hl))⟩
theorem Rnd.putObj {base : Nat} {X : Nat → Prop}  {O : Nat → Prop} {W : World} {l : Nat} (o : Obj) (hl : ¬ O l) (hb : base ≤ l) : Rnd base X O W (W.putObj l o) :=
  have h := grownBy_putObj' W l o
  ⟨h.size, fun k hk hO => h.block k hk (fun e => hl (by injection e with e; exact e ▸ hO)), fun k hk _ => by
    by_cases e : k < W.heap.size
    · exact h.block k e (fun e => by injection e with e; omega)
    · show (W.putObj l o).heap[k]? = W.heap[k]?
      exact World.putObj_heap_other (by omega)⟩
theorem Rnd.trans {base : Nat} {X : Nat → Prop}  {O : Nat → Prop} {A B C : World} (h : Rnd base X O A B) (k : Rnd base X O B C) : Rnd base X O A C :=
  ⟨Nat.le_trans h.size k.size, fun i hi hO => (k.own i (Nat.lt_of_lt_of_le hi h.size) hO).trans (h.own i hi hO), h.below.trans k.below⟩
theorem Rnd.mono {base : Nat} {X : Nat → Prop}  {O O' : Nat → Prop} {A B : World} (h : Rnd base X O A B) (hO : ∀ k, O' k → O k) : Rnd base X O' A B := ⟨h.size, fun i hi h' => h.own i hi (hO i h'), h.below⟩
/-- the iterator's blocks, and the law's own two -/
def Plus (O : Nat → Prop) (B k : Nat) : Prop := O k ∨ k = B ∨ k = B + 1
theorem Stab.plus {J : List (List Int) → (Nat → Prop) → World → Prop} (h : Stab J) {B : Nat} {xs : List (List Int)} {O O' : Nat → Prop} {W W' : World} (hj : J xs (Plus O B) W) (ho : Only O W W') (hO : ∀ k, O' k → O k ∨ W.heap.size ≤ k) : J xs (Plus O' B) W' :=
  h xs _ _ W W' hj (ho.mono fun k _ e => .inl e) fun k e => by
    rcases e with e | e | e
    · rcases hO k e with e | e
      · exact .inl (.inl e)
      · exact .inr e
    · exact .inl (.inr (.inl e))
    · exact .inl (.inr (.inr e))
theorem Stab.put {J : List (List Int) → (Nat → Prop) → World → Prop} (h : Stab J) {B : Nat} {xs : List (List Int)} {O : Nat → Prop} {W : World} (hj : J xs (Plus O B) W) (o : Obj) : J xs (Plus O B) (W.putObj (B + 1) o) :=
  h xs _ _ W _ hj (only_putObj o (.inr (.inr rfl))) fun _ e => .inl e

theorem wpIn_rangeFunc_iso {g : Operand} {ps : Array Tmp} {assign body : Code} {Q : Exit → Act → World → Prop} {a : Act} {w : World} {m gf : Nat} {lb : Array Value}
    (X : Nat → Prop) (n : Nat) (az bz : List (List (List Int))) (L : List (List Int)) (hg : a.eval g = .func (.func gf) #[] lb) (eg : ∀ args w, (callFunc gf args).run Try.prog w = .ok (.enter gf args) w) (hps : ps.size = 1)
    (hcall : ∀ (W : World) (l : Nat) (J Jx : List (List Int) → (Nat → Prop) → World → Prop), Ext w W → Stab J → Stab Jx → Rounds w.heap.size X n l az bz L J Jx → J [] (fun _ => False) W →
      Calls Try.prog gf (#[.func (.yield l) #[] #[]] ++ lb) W fun e w' => (∃ v, e = .returned v) ∧ ∃ O, (J L O w' ∨ ∃ q, q ≠ [] ∧ q <+: L ∧ Jx q O w'))
    (I : List (List Int) → (Nat → Prop) → World → Prop) (Ix : Code → List (List Int) → (Nat → Prop) → World → Prop) (hI : Stab I) (hIx : ∀ c, Stab (Ix c)) (h0 : I [] (fun _ => False) w) (a₁ : Nat → Act)
    (hassign : ∀ (m l Ib : Nat) (W : World) (K : Act → World → Prop), K (a₁ Ib) W →
      assign.wpIn (Fence.wide.inRound l) m Try.prog (Exit.then K (fun _ _ _ => False)) { tmps := (ps.zip #[.slice (some ⟨Ib, 0, none⟩) n n]).foldl (fun t (p, v) => t.setIfInBounds p v) a.tmps, defers := [] } W)
    (hbody : ∀ (m l : Nat) (xs : List (List Int)) (p : List Int) (O : Nat → Prop) (W : World) (Ib : Nat), I xs O W → IsoOk n az bz p → xs ++ [p] <+: L → O Ib → IntsAt W Ib 0 p → (∀ k, O k → w.heap.size ≤ k ∧ k < W.heap.size) →
      body.wpIn (Fence.wide.inRound l) m Try.prog (isoPost w.heap.size X O I Ix (xs ++ [p]) W) (a₁ Ib) W)
    (hdone : ∀ (D : Nat) (O : Nat → Prop) (W : World), w.heap.size ≤ D → I L O W → W.heap[D]? = some (.deferred (some [])) → Q .normal { a with defers := { target := .collected D, args := #[] } :: a.defers } W)
    (hstop : ∀ (D : Nat) (c : Code) (q : List (List Int)) (O : Nat → Prop) (W : World), w.heap.size ≤ D → q ≠ [] → q <+: L → Ix c q O W → W.heap[D]? = some (.deferred (some [])) → c.wpIn Fence.wide m Try.prog Q { a with defers := { target := .collected D, args := #[] } :: a.defers } W) :
    (Code.rangeFunc g ps assign body).wpIn Fence.wide m Try.prog Q a w := by
  refine wpIn_rangeFunc ?_
  intro fn hfn
  rw [show Fence.wide.round = none from rfl]
  obtain ⟨rec, hrec⟩ : ∃ rec : LoopState → Option Code → Loop, rec = fun st pe => { state := st, pending := pe, fn, tmps := a.tmps, params := ps, assign, body, defers := w.heap.size } := ⟨_, rfl⟩
  obtain ⟨W1, hW1⟩ : ∃ W1, (w.alloc (.deferred (some []))).alloc (.loop (rec .ready none)) = W1 := ⟨_, rfl⟩
  have hL1 : W1.heap[w.heap.size + 1]? = some (.loop (rec .ready none)) := by
    rw [← hW1]; have := World.alloc_heap_new (w.alloc (.deferred (some []))) (.loop (rec .ready none)); rwa [World.size_alloc] at this
  have hK1 : W1.heap[w.heap.size]? = some (.deferred (some [])) := by
    rw [← hW1]; exact (Below.heap_alloc _ _ _ (by simp)).trans (World.alloc_heap_new w _)
  have hx1 : Ext w W1 := by rw [← hW1]; exact ((Ext.refl w).alloc _).alloc _
  have hI1 : I [] (Plus (fun _ => False) w.heap.size) W1 := hI _ _ _ _ _ h0 (Only.ext hx1) fun k e => by
    rcases e with e | e | e
    · exact e.elim
    · exact .inr (by omega)
    · exact .inr (by omega)
  have hz1 : w.heap.size + 2 ≤ W1.heap.size := by rw [← hW1]; simp
  refine ⟨w.heap.size + 1, [{ target := .collected w.heap.size, args := #[] }], W1, { target := .fn (.func gf) lb, args := #[.func (.yield (w.heap.size + 1)) #[] #[]] }, W1, gf,
    #[.func (.yield (w.heap.size + 1)) #[] #[]] ++ lb, W1, ?_, ?_, ?_, ?_, fun h => absurd h (by decide), ?_⟩
  · rw [← hW1, hrec]; exact run_enterLoop_outer _ _ _ _ _
  · simp only [resolve, hg]
    simp [go_sem]
  · intro f' _; trivial
  · simp [invoke, go_sem, eg]
  · have hJs : ∀ (I' : List (List Int) → (Nat → Prop) → World → Prop) (R : Obj), Stab I' → Stab (fun xs O W => I' xs (Plus O w.heap.size) W ∧ W.heap[w.heap.size + 1]? = some R ∧ W.heap[w.heap.size]? = some (.deferred (some [])) ∧ (¬ O (w.heap.size + 1) ∧ ¬ O w.heap.size) ∧ (∀ k, O k → w.heap.size ≤ k)) := by
      intro I' R hS xs O O' W W' ⟨h1, h2, h3, h4, h5⟩ ho hO
      have g1 := (Array.getElem?_eq_some_iff.1 h2).1
      have g2 := (Array.getElem?_eq_some_iff.1 h3).1
      refine ⟨hS.plus h1 ho hO, (ho.keep _ g1 h4.1).trans h2, (ho.keep _ g2 h4.2).trans h3, ⟨fun e => ?_, fun e => ?_⟩, fun k e => ?_⟩
      · rcases hO _ e with e | e
        · exact h4.1 e
        · omega
      · rcases hO _ e with e | e
        · exact h4.2 e
        · omega
      · rcases hO _ e with e | e
        · exact h5 k e
        · omega
    refine (callsIn_wide.2 (hcall W1 (w.heap.size + 1)
      (fun xs O W => I xs (Plus O w.heap.size) W ∧ W.heap[w.heap.size + 1]? = some (.loop (rec .ready none)) ∧ W.heap[w.heap.size]? = some (.deferred (some [])) ∧ (¬ O (w.heap.size + 1) ∧ ¬ O w.heap.size) ∧ (∀ k, O k → w.heap.size ≤ k))
      (fun xs O W => ∃ c, Ix c xs (Plus O w.heap.size) W ∧ W.heap[w.heap.size + 1]? = some (.loop (rec .done (some c))) ∧ W.heap[w.heap.size]? = some (.deferred (some [])) ∧ (¬ O (w.heap.size + 1) ∧ ¬ O w.heap.size) ∧ (∀ k, O k → w.heap.size ≤ k))
      hx1 (hJs I _ hI) (fun xs O O' W W' ⟨c, h⟩ ho hO => ⟨c, hJs (Ix c) _ (hIx c) xs O O' W W' h ho hO⟩) ?_ ⟨hI1, hL1, hK1, ⟨fun e => e, fun e => e⟩, fun _ e => e.elim⟩)).mono ?_
    · -- one round
      rintro m' xs p O W Ib ⟨hi, hl, hk, hO, hOb⟩ hp hpre hIb hbase - hpi
      have hlt : w.heap.size + 1 < W.heap.size := (Array.getElem?_eq_some_iff.1 hl).1
      have hy := run_yield (P := Try.prog) (args := #[.slice (some ⟨Ib, 0, none⟩) n n]) hl (by rw [hrec]; simp [hps])
      rw [hrec] at hy
      refine ⟨fn, _, assign, body, hy, roundIn_of_wpIn hfn (hassign _ _ Ib W _ ⟨_, run_beginRound hl (by rw [hrec]), ?_⟩)⟩
      have hl2 : (W.putObj (w.heap.size + 1) (.loop { rec .ready none with state := .busy })).heap[w.heap.size + 1]? = some (.loop { rec .ready none with state := .busy }) := World.putObj_heap_same hlt
      have hk2 : (W.putObj (w.heap.size + 1) (.loop { rec .ready none with state := .busy })).heap[w.heap.size]? = some (.deferred (some [])) := (World.putObj_heap_other (by omega)).trans hk
      have hr2 : Rnd w.heap.size X O W (W.putObj (w.heap.size + 1) (.loop { rec .ready none with state := .busy })) := Rnd.putObj _ hO.1 (by omega)
      have hsz2 : W.heap.size = (W.putObj (w.heap.size + 1) (.loop { rec .ready none with state := .busy })).heap.size := by simp [World.putObj]
      have hpi2 : IntsAt (W.putObj (w.heap.size + 1) (.loop { rec .ready none with state := .busy })) Ib 0 p := hpi.block (World.putObj_heap_other (fun e => hO.1 (e ▸ hIb)))
      refine wpIn_mono (hbody _ _ xs p (Plus O w.heap.size) _ Ib (hI.put hi _) hp hpre (.inl hIb) hpi2 (fun k e => by
        rcases e with e | e | e
        · exact ⟨hOb k e, hsz2 ▸ (hbase k e).2⟩
        · rw [e]; exact ⟨Nat.le_refl _, (Array.getElem?_eq_some_iff.1 hk2).1⟩
        · rw [e]; exact ⟨by omega, (Array.getElem?_eq_some_iff.1 hl2).1⟩)) ?_
      have fin : ∀ (jump : Option Code) (W3 : World), Rnd w.heap.size X (Plus O w.heap.size) (W.putObj (w.heap.size + 1) (.loop { rec .ready none with state := .busy })) W3 →
          (Instr.endRound (w.heap.size + 1) jump).run Try.prog W3 = .ok (.bool jump.isNone) (W3.putObj (w.heap.size + 1) (.loop (rec (if jump.isNone then .ready else .done) jump))) ∧
          (W3.putObj (w.heap.size + 1) (.loop (rec (if jump.isNone then .ready else .done) jump))).heap[w.heap.size + 1]? = some (.loop (rec (if jump.isNone then .ready else .done) jump)) ∧
          (W3.putObj (w.heap.size + 1) (.loop (rec (if jump.isNone then .ready else .done) jump))).heap[w.heap.size]? = some (.deferred (some [])) ∧
          Rnd w.heap.size X O W (W3.putObj (w.heap.size + 1) (.loop (rec (if jump.isNone then .ready else .done) jump))) := fun jump W3 hk3 => by
        have hl3 := (hk3.own _ (by omega) (.inr (.inr rfl))).trans hl2
        have hk3' := (hk3.own _ (by omega) (.inr (.inl rfl))).trans hk2
        have := run_endRound (P := Try.prog) jump hl3
        rw [hrec] at this ⊢
        exact ⟨this, World.putObj_heap_same (Array.getElem?_eq_some_iff.1 hl3).1, (World.putObj_heap_other (by omega)).trans hk3', (hr2.trans (hk3.mono (fun k e => .inl e))).trans (Rnd.putObj _ hO.1 (by omega))⟩
      rintro e a3 W3 hp3
      cases e with
      | normal =>
        obtain ⟨hk3, hi3⟩ := hp3
        obtain ⟨hr, hl4, hk4, hr4⟩ := fin none W3 hk3
        exact ⟨_, _, hr, hr4, .inl ⟨rfl, hI.put hi3 _, hl4, hk4, hO, hOb⟩⟩
      | ret =>
        obtain ⟨hk3, hi3⟩ := hp3
        obtain ⟨hr, hl4, hk4, hr4⟩ := fin (some .ret) W3 hk3
        exact ⟨_, _, hr, hr4, .inr ⟨rfl, .ret, (hIx _).put hi3 _, hl4, hk4, hO, hOb⟩⟩
      | exit id =>
        obtain ⟨hk3, hi3⟩ := hp3
        obtain ⟨hr, hl4, hk4, hr4⟩ := fin (some (.exit id)) W3 hk3
        exact ⟨_, _, hr, hr4, .inr ⟨rfl, .exit id, (hIx _).put hi3 _, hl4, hk4, hO, hOb⟩⟩
      | goto t =>
        obtain ⟨hk3, hi3⟩ := hp3
        obtain ⟨hr, hl4, hk4, hr4⟩ := fin (some (.goto t)) W3 hk3
        exact ⟨_, _, hr, hr4, .inr ⟨rfl, .goto t, (hIx _).put hi3 _, hl4, hk4, hO, hOb⟩⟩
      | panic ch => exact hp3.elim
      | outgrown => exact hp3.elim
    · -- behind the iterator
      rintro e W2 ⟨⟨v, rfl⟩, O, (⟨hi, hl, hk, hO, hOb⟩ | ⟨q, hq0, hqp, c, hi, hl, hk, hO, hOb⟩)⟩
      · exact ⟨none, _, by have := run_endLoop (P := Try.prog) hl (by rw [hrec]; simp); rw [hrec] at this; exact this, hdone _ _ _ (Nat.le_refl _) (hI.put hi _) ((World.putObj_heap_other (by omega)).trans hk)⟩
      · exact ⟨some c, _, by have := run_endLoop (P := Try.prog) hl (by rw [hrec]; simp); rw [hrec] at this; exact this, hstop _ c q _ _ (Nat.le_refl _) hq0 hqp ((hIx c).put hi _) ((World.putObj_heap_other (by omega)).trans hk)⟩

end Go.Proofs.Ytjbloenjphpngaa
