/-
  Contract of the iterator over isomorphisms.
-/
import Derived.Test.YthlafeefjonkdaaGreatDoorJx17
namespace Go.Proofs.YthlafeefjonkdaaGreatDoor
set_option linter.unusedVariables false
set_option linter.unusedSimpArgs false
open Go.RowKit
open Go.Deep
attribute [local go_sem ↓] Go.wp_at_zero Go.wp_at_succ

theorem infoBoolT : (Tryz.prog.info? 4).map (fun i => (i.zero, i.size, i.bytes)) = some (some (.bool false), 1, 1) := by kernel_rfl
structure MapPre (base : Nat) (w : World) (M I U : Nat) (v u : Value) (n k : Nat) : Prop where
  c0 : w.cell? ⟨M, 0, none⟩ = some v
  c1 : w.cell? ⟨M, 1, none⟩ = some u
  c2 : w.cell? ⟨M, 2, none⟩ = some (.slice (some ⟨I, 0, none⟩) n n)
  c3 : w.cell? ⟨M, 3, none⟩ = some (.slice (some ⟨U, 0, none⟩) n n)
  c4 : w.cell? ⟨M, 4, none⟩ = some (.slice none 0 0)
  fr : w.frozen? ⟨M, 4, none⟩ = false
  img : w.rowIs I 2 n (fun i => .int .i64 (if i < k then -1 else 0))
  usd : w.rowIs U 4 n (fun _ => .bool false)
  apart : M ≠ I ∧ M ≠ U ∧ I ≠ U
  low : base ≤ M ∧ base ≤ I ∧ base ≤ U
theorem MapPre.of_heap {base : Nat} {w : World} {M I U : Nat} {v u : Value} {n : Nat} (hM : w.heap[M]? = some (.cells #[v, u, .slice (some ⟨I, 0, none⟩) n n, .slice (some ⟨U, 0, none⟩) n n, .slice none 0 0] 81 (0, 0)))
    (hI : w.heap[I]? = some (.cells (madeCells #[.int .i64 0] n) 2 (0, 0))) (hU : w.heap[U]? = some (.cells (madeCells #[.bool false] n) 4 (0, 0))) (ha : M ≠ I ∧ M ≠ U ∧ I ≠ U) (hl : base ≤ M ∧ base ≤ I ∧ base ≤ U) : MapPre base w M I U v u n 0 where
  c0 := by simp [World.cell?, hM]
  c1 := by simp [World.cell?, hM]
  c2 := by simp [World.cell?, hM]
  c3 := by simp [World.cell?, hM]
  c4 := by simp [World.cell?, hM]
  fr := by simp [World.frozen?, hM]
  img := ⟨_, hI, size_madeCells _ _, fun i hi => by simp [madeCells, hi, Nat.mod_one]⟩
  usd := ⟨_, hU, size_madeCells _ _, fun i hi => by simp [madeCells, hi, Nat.mod_one]⟩
  apart := ha
  low := hl
theorem h3at0 (w : World) (A B C : Obj) : (((w.alloc A).alloc B).alloc C).drew.heap[w.heap.size]? = some A := by
  show (((w.alloc A).alloc B).alloc C).heap[w.heap.size]? = some A
  rw [blk_alloc_lt _ _ _ (by simp; omega), blk_alloc_lt _ _ _ (by simp), blk_alloc_new]
theorem h3at1 (w : World) (A B C : Obj) : (((w.alloc A).alloc B).alloc C).drew.heap[w.heap.size + 1]? = some B := by
  show (((w.alloc A).alloc B).alloc C).heap[w.heap.size + 1]? = some B
  rw [blk_alloc_lt _ _ _ (by simp)]
  have := blk_alloc_new (w.alloc A) B
  rwa [World.size_alloc] at this
theorem h3at2 (w : World) (A B C : Obj) : (((w.alloc A).alloc B).alloc C).drew.heap[w.heap.size + 1 + 1]? = some C := by
  show (((w.alloc A).alloc B).alloc C).heap[w.heap.size + 1 + 1]? = some C
  have := blk_alloc_new ((w.alloc A).alloc B) C
  rwa [World.size_alloc, World.size_alloc] at this
theorem MapPre.next {base : Nat} {w : World} {M I U : Nat} {v u : Value} {n k : Nat} (h : MapPre base w M I U v u n k) : MapPre base (w.setCell ⟨I, k, none⟩ (.int .i64 (-1))) M I U v u n (k + 1) where
  c0 := kc_set h.apart.1 h.c0
  c1 := kc_set h.apart.1 h.c1
  c2 := kc_set h.apart.1 h.c2
  c3 := kc_set h.apart.1 h.c3
  c4 := kc_set h.apart.1 h.c4
  fr := kf_set h.fr
  img := (h.img.set k _).congr fun i hi => by
    by_cases e : i = k
    · rw [if_pos e, if_pos (by omega)]
    · by_cases e2 : i < k
      · rw [if_neg e, if_pos e2, if_pos (by omega)]
      · rw [if_neg e, if_neg e2, if_neg (by omega)]
  usd := h.usd.setOther (fun e => h.apart.2.2 e.symm) _
  apart := h.apart
  low := h.low
theorem ix_repl (n i : Nat) (hi : i < n) : ix (List.replicate n (-1)) i = -1 := by rw [ix_eq]; simp [List.getD, hi]
theorem MapPre.fin {base b0 : Nat} {w : World} {M I U : Nat} {v u : Value} {n : Nat} (h : MapPre base w M I U v u n n) (hb : b0 ≤ base) : MapSt b0 w M I U v u n (List.replicate n (-1)) [] (.slice none 0 0) where
  c0 := h.c0
  c1 := h.c1
  c2 := h.c2
  c3 := h.c3
  c4 := h.c4
  fr := h.fr
  img := h.img.congr fun i hi => by rw [if_pos hi, ix_repl n i hi]
  usd := h.usd.congr fun i hi => by
    cases hh : hasB (List.replicate n (-1)) i with
    | false => rfl
    | true =>
      obtain ⟨j, hj, e⟩ := hasB_has.1 hh
      rw [ix_repl n j (by simpa using hj)] at e
      omega
  set := GrowI.nil _ _ _
  apart := ⟨h.apart.1, h.apart.2.1, h.apart.2.2, fun g e => by simp [Value.ownBlock] at e⟩
  low := ⟨by have := h.low.1; omega, by have := h.low.2.1; omega, by have := h.low.2.2; omega⟩
theorem partOk_none (n : Nat) : PartOk n (List.replicate n (-1)) [] where
  len := by simp
  rng x hx := by rw [ix_repl n x hx]; omega
  inj x hx y _ h := by rw [ix_repl n x hx] at h; omega
  mem x hx := by rw [ix_repl n x hx]; simp
  bd i hi := by simp at hi
  nodup := List.nodup_nil
theorem goodAll_none (n : Nat) (az bz : List (List (List Int))) : GoodAll az bz n (List.replicate n (-1)) := fun x hx y _ h => by rw [ix_repl n x hx] at h; omega
theorem extL_none (n : Nat) (az bz : List (List (List Int))) : extL n az bz (List.replicate n (-1)) = isoL n az bz := extL_all fun p _ i hi h => by rw [ix_repl n i (by simpa using hi)] at h; omega

set_option maxRecDepth 1000000 in
set_option maxHeartbeats 4000000 in
theorem iso1_any (base : Nat) (X : Nat → Prop) (tb tq cz ub uo cu n l b1 b2 : Nat) (az bz : List (List (List Int))) (J Jx : List (List Int) → (Nat → Prop) → World → Prop) (hJ : Stab J) (hJx : Stab Jx) (hY : Rounds base X n l az bz (isoL n az bz) J Jx) (hA : TabsOk n az) (hB : TabsOk n bz) (hab : az.length = bz.length) (h0 : 0 < az.length) (hts : az.length ≤ 2) (h12 : n ≤ 12)
    (w : World) (hb : base ≤ w.heap.size) (k1 : w.cell? ⟨b1, 0, none⟩ = some (.slice (some ⟨tb, tq, none⟩) az.length cz)) (k2 : w.cell? ⟨b2, 0, none⟩ = some (.slice (some ⟨ub, uo, none⟩) bz.length cu)) (hta : TabsIn base X w tb tq n az) (htu : TabsIn base X w ub uo n bz) (hj : J [] (fun _ => False) w) :
    Calls Tryz.prog 47 #[.func (.yield l) #[] #[], .pointer (some ⟨b1, 0, none⟩), .pointer (some ⟨b2, 0, none⟩)] w fun e w' => (∃ v, e = .returned v) ∧ ∃ O, (J (isoL n az bz) O w' ∨ ∃ q, q ≠ [] ∧ q <+: isoL n az bz ∧ Jx q O w') := by
  have HJ := Lib.hid hJ
  have HJX := Lib.hid hJx
  have HY := Lib.hid hY
  have HA := Lib.hid hA
  have HB := Lib.hid hB
  have HAB := Lib.hid hab
  have hbz : 0 < bz.length := by omega
  have hbz2 : bz.length ≤ 2 := by omega
  obtain ⟨t1, t2, t3⟩ := id hta
  obtain ⟨u1, u2, u3⟩ := id htu
  obtain ⟨q1, q2, q3, -, -, q4, -⟩ := t3 0 h0
  obtain ⟨r1, r2, r3, -, -, r4, -⟩ := u3 0 hbz
  rw [Nat.add_zero] at q4 r4
  have HTA := Lib.hid hta
  have HTU := Lib.hid htu
  have HJ0 := Lib.hid hj
  have hB1 := World.block_lt_of_cell? _ _ k1
  have hB2 := World.block_lt_of_cell? _ _ k2
  clear hJ hJx hY hA hB hab hta htu hj t3 u3
  have hmk := run_make_row' (P := Tryz.prog) 29 2 (.int .i64 0) 8 Tryz.underlying29 infoInt rfl .i64 .i64 n (by omega) (by omega)
  have hmk2 := run_make_row' (P := Tryz.prog) 79 4 (.bool false) 1 Tryz.underlying79 infoBoolT rfl .i64 .i64 n (by omega) (by omega)
  go_enter Tryz.func47, Tryz.ntmps47
  go_upto_region 2 with (fail)
  go_cut [5] (fun v wr => ∃ M I U, v = .pointer (some ⟨M, 0, none⟩) ∧ MapPre w.heap.size wr M I U (.slice (some ⟨tb, tq, none⟩) az.length cz) (.slice (some ⟨ub, uo, none⟩) bz.length cu) n 0 ∧ Ext w wr)
  case first =>
    go_region_held3 (fun w' => w'.cell? ⟨b1, 0, none⟩ = some (.slice (some ⟨tb, tq, none⟩) az.length cz) ∧ w'.cell? ⟨b2, 0, none⟩ = some (.slice (some ⟨ub, uo, none⟩) bz.length cu))
      ((refine ⟨?_, ?_⟩ <;> (repeat first | (with_reducible assumption) |  (with_reducible exact kc_new) | ((with_reducible refine kc_newE ?_); (simp; done)) | ((with_reducible refine kc_newEa ?_); (simp; done)) | ((with_reducible refine kc_newEb ?_); (simp; done)) | (with_reducible apply kc_alloc) | (with_reducible apply kc_drewN) | (with_reducible apply kc_drew) | ((with_reducible refine kc_set ?_ ?_); (first | (simp only []; omega) | (simp; omega) | (focus (simp; done)))) | ((with_reducible refine kc_set2 ?_ ?_); (focus (simp; done))) | (with_reducible refine kc_same (v := .slice none 0 0) ?_))))
      (fail)
    all_goals
      go_wp2_with fail
      go_meet
      refine ⟨_, ?_, ?_, rfl, MapPre.of_heap ?_ ?_ ?_ ?_ ?_, ?_⟩
      rotate_left 2
      · first | exact h3at0 _ _ _ _ | exact h3at1 _ _ _ _ | exact h3at2 _ _ _ _
      · first | exact h3at0 _ _ _ _ | exact h3at1 _ _ _ _ | exact h3at2 _ _ _ _
      · first | exact h3at0 _ _ _ _ | exact h3at1 _ _ _ _ | exact h3at2 _ _ _ _
      · refine ⟨?_, ?_, ?_⟩ <;> omega
      · refine ⟨?_, ?_, ?_⟩ <;> omega
      · exact ((((Ext.refl w).alloc _).alloc _).alloc _).drew
  case rest =>
    obtain ⟨M, I, U, rfl, hp, hx⟩ := hcut
    have c2 := hp.c2
    have HP := Lib.hid hp
    have HX := Lib.hid hx
    clear hp hx k1 k2 q4 r4 hmk hmk2
    go_wp2_with fail
    go_loopw [27] (fun i wr => ∃ k, k ≤ n ∧ i = .int .i64 (k : Nat) ∧ MapPre w.heap.size wr M I U (.slice (some ⟨tb, tq, none⟩) az.length cz) (.slice (some ⟨ub, uo, none⟩) bz.length cu) n k ∧ Ext w wr) (fun i _ => n - (intOf i).toNat)
    case atStart => exact ⟨0, Nat.zero_le _, rfl, HP.out, HX.out⟩
    case round =>
      clear c2 HP HX
      obtain ⟨k, hk, rfl, hp, hx⟩ := hrel
      have c2 := hp.c2
      by_cases hkn : k < n
      · have i0 := hp.img.cell hkn
        have i1 := hp.img.frozen k
        rw [if_neg (Nat.lt_irrefl k)] at i0
        have HP := Lib.hid hp
        have HX := Lib.hid hx
        clear hp hx
        go_wp2_with fail
        go_roundw
        case rel => exact ⟨k + 1, by omega, by go_num, HP.out.next, HX.out.setNew HP.out.low.2.1 _⟩
        case measure => simp [intOf]; omega
      · have hkk : n = k := by omega
        subst hkk
        have hm := hp.fin hb
        have hst : AsgSt base X M I U tb tq cz ub uo cu n az bz (List.replicate n (-1)) [] (.slice none 0 0) wr :=
          ⟨hm, HTA.out.keep ((Only.ext (p := fun _ => False) hx).keepB (fun _ h => h.elim) hb), HTU.out.keep ((Only.ext (p := fun _ => False) hx).keepB (fun _ h => h.elim) hb), partOk_none n⟩
        have hj2 := HJ.out _ _ (OwnP M I U (.slice none 0 0)) _ _ HJ0.out (Only.ext hx) (fun k hk => by
          rcases hk with e | e | e | e
          · subst e; exact .inr hp.low.1
          · subst e; exact .inr hp.low.2.1
          · subst e; exact .inr hp.low.2.2
          · simp [Value.ownBlock] at e)
        have HC := Lib.hid (callsIn_wide.1 (extend_any base X M I U tb tq cz ub uo cu n l az bz (isoL n az bz) J Jx HJ.out HJX.out HY.out HA.out HB.out HAB.out hts h12 n 0 _ _ [] _ wr (by simp) hst (goodAll_none n az bz) (by rw [extL_none, List.nil_append]; exact List.prefix_refl _) hj2))
        clear hst hj2 hm hp hx
        go_wp2_with fail
        refine HC.out.mono ?_
        rintro e w1 ⟨sv', -, (⟨rfl, hj3⟩ | ⟨rfl, q, hq0, hqp, hj3⟩)⟩
        · have HJ3 := Lib.hid hj3
          clear hj3
          go_wp2_with fail
          go_end0
          exact ⟨⟨_, rfl⟩, _, .inl (by have := HJ3.out; rw [extL_none, List.nil_append] at this; exact this)⟩
        · have HJ3 := Lib.hid hj3
          have HQ := Lib.hid (And.intro hq0 hqp)
          clear hj3 hq0 hqp
          go_wp2_with fail
          go_end0
          exact ⟨⟨_, rfl⟩, _, .inr ⟨q, HQ.out.1, by have := HQ.out.2; rw [extL_none] at this; exact this, HJ3.out⟩⟩
end Go.Proofs.YthlafeefjonkdaaGreatDoor


namespace Go.Proofs.YthlafeefjonkdaaGreatDoor
set_option linter.unusedVariables false
set_option linter.unusedSimpArgs false
open Go.RowKit
open Go.Deep

def isoPost (base : Nat) (X : Nat → Prop)  (O : Nat → Prop) (I : List (List Int) → (Nat → Prop) → World → Prop) (Ix : Code → List (List Int) → (Nat → Prop) → World → Prop) (xs : List (List Int)) (W : World) : Exit → Act → World → Prop
  | .normal, _, W' => Rnd base X O W W' ∧ I xs O W'
  | .ret, _, W' => Rnd base X O W W' ∧ Ix .ret xs O W'
  | .exit id, _, W' => Rnd base X O W W' ∧ Ix (.exit id) xs O W'
  | .goto t, _, W' => Rnd base X O W W' ∧ Ix (.goto t) xs O W'
  | .panic _, _, _ => False
  | .outgrown, _, _ => False
theorem only_putObj {O : Nat → Prop} {W : World} {l : Nat} (o : Obj) (hl : O l) : Only O W (W.putObj l o) :=
  have h := grownBy_putObj' W l o
  ⟨h.os, h.tape, h.output, h.size, fun k hk hn => h.block k hk (fun e => hn (by injection e with e; exact e ▸ hl))⟩
theorem Rnd.putObj {base : Nat} {X : Nat → Prop}  {O : Nat → Prop} {W : World} {l : Nat} (o : Obj) (hl : ¬ O l) (hb : base ≤ l) : Rnd base X O W (W.putObj l o) :=
  have h := grownBy_putObj' W l o
  ⟨h.size, fun k hk hO => h.block k hk (fun e => hl (by injection e with e; exact e ▸ hO)), fun k hk _ => by
    by_cases e : k < W.heap.size
    · exact h.block k e (fun e => by injection e with e; omega)
    · show (W.putObj l o).heap[k]? = W.heap[k]?
      exact World.putObj_heap_other (by omega)⟩
theorem Rnd.trans {base : Nat} {X : Nat → Prop}  {O : Nat → Prop} {A B C : World} (h : Rnd base X O A B) (k : Rnd base X O B C) : Rnd base X O A C :=
  ⟨Nat.le_trans h.size k.size, fun i hi hO => (k.own i (Nat.lt_of_lt_of_le hi h.size) hO).trans (h.own i hi hO), h.below.trans k.below⟩
theorem Rnd.mono {base : Nat} {X : Nat → Prop}  {O O' : Nat → Prop} {A B : World} (h : Rnd base X O A B) (hO : ∀ k, O' k → O k) : Rnd base X O' A B := ⟨h.size, fun i hi h' => h.own i hi (hO i h'), h.below⟩
def Plus (O : Nat → Prop) (B k : Nat) : Prop := O k ∨ k = B ∨ k = B + 1
theorem Stab.plus {J : List (List Int) → (Nat → Prop) → World → Prop} (h : Stab J) {B : Nat} {xs : List (List Int)} {O O' : Nat → Prop} {W W' : World} (hj : J xs (Plus O B) W) (ho : Only O W W') (hO : ∀ k, O' k → O k ∨ W.heap.size ≤ k) : J xs (Plus O' B) W' :=
  h xs _ _ W W' hj (ho.mono fun k _ e => .inl e) fun k e => by
    rcases e with e | e | e
    · rcases hO k e with e | e
      · exact .inl (.inl e)
      · exact .inr e
    · exact .inl (.inr (.inl e))
    · exact .inl (.inr (.inr e))
theorem Stab.put {J : List (List Int) → (Nat → Prop) → World → Prop} (h : Stab J) {B : Nat} {xs : List (List Int)} {O : Nat → Prop} {W : World} (hj : J xs (Plus O B) W) (o : Obj) : J xs (Plus O B) (W.putObj (B + 1) o) :=
  h xs _ _ W _ hj (only_putObj o (.inr (.inr rfl))) fun _ e => .inl e

theorem wpIn_rangeFunc_iso {g : Operand} {ps : Array Tmp} {assign body : Code} {Q : Exit → Act → World → Prop} {a : Act} {w : World} {m gf : Nat} {lb : Array Value}
    (X : Nat → Prop) (n : Nat) (az bz : List (List (List Int))) (L : List (List Int)) (hg : a.eval g = .func (.func gf) #[] lb) (eg : ∀ args w, (callFunc gf args).run Tryz.prog w = .ok (.enter gf args) w) (hps : ps.size = 1)
    (hcall : ∀ (W : World) (l : Nat) (J Jx : List (List Int) → (Nat → Prop) → World → Prop), Ext w W → Stab J → Stab Jx → Rounds w.heap.size X n l az bz L J Jx → J [] (fun _ => False) W →
      Calls Tryz.prog gf (#[.func (.yield l) #[] #[]] ++ lb) W fun e w' => (∃ v, e = .returned v) ∧ ∃ O, (J L O w' ∨ ∃ q, q ≠ [] ∧ q <+: L ∧ Jx q O w'))
    (I : List (List Int) → (Nat → Prop) → World → Prop) (Ix : Code → List (List Int) → (Nat → Prop) → World → Prop) (hI : Stab I) (hIx : ∀ c, Stab (Ix c)) (h0 : I [] (fun _ => False) w) (a₁ : Nat → Act)
    (hassign : ∀ (m l Ib : Nat) (W : World) (K : Act → World → Prop), K (a₁ Ib) W →
      assign.wpIn (Fence.wide.inRound l) m Tryz.prog (Exit.then K (fun _ _ _ => False)) { tmps := (ps.zip #[.slice (some ⟨Ib, 0, none⟩) n n]).foldl (fun t (p, v) => t.setIfInBounds p v) a.tmps, defers := [] } W)
    (hbody : ∀ (m l : Nat) (xs : List (List Int)) (p : List Int) (O : Nat → Prop) (W : World) (Ib : Nat), I xs O W → IsoOk n az bz p → xs ++ [p] <+: L → O Ib → IntsAt W Ib 0 p → (∀ k, O k → w.heap.size ≤ k ∧ k < W.heap.size) →
      body.wpIn (Fence.wide.inRound l) m Tryz.prog (isoPost w.heap.size X O I Ix (xs ++ [p]) W) (a₁ Ib) W)
    (hdone : ∀ (D : Nat) (O : Nat → Prop) (W : World), w.heap.size ≤ D → I L O W → W.heap[D]? = some (.deferred (some [])) → Q .normal { a with defers := { target := .collected D, args := #[] } :: a.defers } W)
    (hstop : ∀ (D : Nat) (c : Code) (q : List (List Int)) (O : Nat → Prop) (W : World), w.heap.size ≤ D → q ≠ [] → q <+: L → Ix c q O W → W.heap[D]? = some (.deferred (some [])) → c.wpIn Fence.wide m Tryz.prog Q { a with defers := { target := .collected D, args := #[] } :: a.defers } W) :
    (Code.rangeFunc g ps assign body).wpIn Fence.wide m Tryz.prog Q a w := by
  refine wpIn_rangeFunc ?_
  intro fn hfn
  rw [show Fence.wide.round = none from rfl]
  obtain ⟨rec, hrec⟩ : ∃ rec : LoopState → Option Code → Loop, rec = fun st pe => { state := st, pending := pe, fn, tmps := a.tmps, params := ps, assign, body, defers := w.heap.size } := ⟨_, rfl⟩
  obtain ⟨W1, hW1⟩ : ∃ W1, (w.alloc (.deferred (some []))).alloc (.loop (rec .ready none)) = W1 := ⟨_, rfl⟩
  have hL1 : W1.heap[w.heap.size + 1]? = some (.loop (rec .ready none)) := by
    rw [← hW1]; have := World.alloc_heap_new (w.alloc (.deferred (some []))) (.loop (rec .ready none)); rwa [World.size_alloc] at this
  have hK1 : W1.heap[w.heap.size]? = some (.deferred (some [])) := by
    rw [← hW1]; exact (Below.heap_alloc _ _ _ (by simp)).trans (World.alloc_heap_new w _)
  have hx1 : Ext w W1 := by rw [← hW1]; exact ((Ext.refl w).alloc _).alloc _
  have hI1 : I [] (Plus (fun _ => False) w.heap.size) W1 := hI _ _ _ _ _ h0 (Only.ext hx1) fun k e => by
    rcases e with e | e | e
    · exact e.elim
    · exact .inr (by omega)
    · exact .inr (by omega)
  have hz1 : w.heap.size + 2 ≤ W1.heap.size := by rw [← hW1]; simp
  refine ⟨w.heap.size + 1, [{ target := .collected w.heap.size, args := #[] }], W1, { target := .fn (.func gf) lb, args := #[.func (.yield (w.heap.size + 1)) #[] #[]] }, W1, gf,
    #[.func (.yield (w.heap.size + 1)) #[] #[]] ++ lb, W1, ?_, ?_, ?_, ?_, fun h => absurd h (by decide), ?_⟩
  · rw [← hW1, hrec]; exact run_enterLoop_outer _ _ _ _ _
  · simp only [resolve, hg]
    simp [go_sem]
  · intro f' _; trivial
  · simp [invoke, go_sem, eg]
  · have hJs : ∀ (I' : List (List Int) → (Nat → Prop) → World → Prop) (R : Obj), Stab I' → Stab (fun xs O W => I' xs (Plus O w.heap.size) W ∧ W.heap[w.heap.size + 1]? = some R ∧ W.heap[w.heap.size]? = some (.deferred (some [])) ∧ (¬ O (w.heap.size + 1) ∧ ¬ O w.heap.size) ∧ (∀ k, O k → w.heap.size ≤ k)) := by
      intro I' R hS xs O O' W W' ⟨h1, h2, h3, h4, h5⟩ ho hO
      have g1 := (Array.getElem?_eq_some_iff.1 h2).1
      have g2 := (Array.getElem?_eq_some_iff.1 h3).1
      refine ⟨hS.plus h1 ho hO, (ho.keep _ g1 h4.1).trans h2, (ho.keep _ g2 h4.2).trans h3, ⟨fun e => ?_, fun e => ?_⟩, fun k e => ?_⟩
      · rcases hO _ e with e | e
        · exact h4.1 e
        · omega
      · rcases hO _ e with e | e
        · exact h4.2 e
        · omega
      · rcases hO _ e with e | e
        · exact h5 k e
        · omega
    refine (callsIn_wide.2 (hcall W1 (w.heap.size + 1)
      (fun xs O W => I xs (Plus O w.heap.size) W ∧ W.heap[w.heap.size + 1]? = some (.loop (rec .ready none)) ∧ W.heap[w.heap.size]? = some (.deferred (some [])) ∧ (¬ O (w.heap.size + 1) ∧ ¬ O w.heap.size) ∧ (∀ k, O k → w.heap.size ≤ k))
      (fun xs O W => ∃ c, Ix c xs (Plus O w.heap.size) W ∧ W.heap[w.heap.size + 1]? = some (.loop (rec .done (some c))) ∧ W.heap[w.heap.size]? = some (.deferred (some [])) ∧ (¬ O (w.heap.size + 1) ∧ ¬ O w.heap.size) ∧ (∀ k, O k → w.heap.size ≤ k))
      hx1 (hJs I _ hI) (fun xs O O' W W' ⟨c, h⟩ ho hO => ⟨c, hJs (Ix c) _ (hIx c) xs O O' W W' h ho hO⟩) ?_ ⟨hI1, hL1, hK1, ⟨fun e => e, fun e => e⟩, fun _ e => e.elim⟩)).mono ?_
    · -- one round
      rintro m' xs p O W Ib ⟨hi, hl, hk, hO, hOb⟩ hp hpre hIb hbase - hpi
      have hlt : w.heap.size + 1 < W.heap.size := (Array.getElem?_eq_some_iff.1 hl).1
      have hy := run_yield (P := Tryz.prog) (args := #[.slice (some ⟨Ib, 0, none⟩) n n]) hl (by rw [hrec]; simp [hps])
      rw [hrec] at hy
      refine ⟨fn, _, assign, body, hy, roundIn_of_wpIn hfn (hassign _ _ Ib W _ ⟨_, run_beginRound hl (by rw [hrec]), ?_⟩)⟩
      have hl2 : (W.putObj (w.heap.size + 1) (.loop { rec .ready none with state := .busy })).heap[w.heap.size + 1]? = some (.loop { rec .ready none with state := .busy }) := World.putObj_heap_same hlt
      have hk2 : (W.putObj (w.heap.size + 1) (.loop { rec .ready none with state := .busy })).heap[w.heap.size]? = some (.deferred (some [])) := (World.putObj_heap_other (by omega)).trans hk
      have hr2 : Rnd w.heap.size X O W (W.putObj (w.heap.size + 1) (.loop { rec .ready none with state := .busy })) := Rnd.putObj _ hO.1 (by omega)
      have hsz2 : W.heap.size = (W.putObj (w.heap.size + 1) (.loop { rec .ready none with state := .busy })).heap.size := by simp [World.putObj]
      have hpi2 : IntsAt (W.putObj (w.heap.size + 1) (.loop { rec .ready none with state := .busy })) Ib 0 p := hpi.block (World.putObj_heap_other (fun e => hO.1 (e ▸ hIb)))
      refine wpIn_mono (hbody _ _ xs p (Plus O w.heap.size) _ Ib (hI.put hi _) hp hpre (.inl hIb) hpi2 (fun k e => by
        rcases e with e | e | e
        · exact ⟨hOb k e, hsz2 ▸ (hbase k e).2⟩
        · rw [e]; exact ⟨Nat.le_refl _, (Array.getElem?_eq_some_iff.1 hk2).1⟩
        · rw [e]; exact ⟨by omega, (Array.getElem?_eq_some_iff.1 hl2).1⟩)) ?_
      have fin : ∀ (jump : Option Code) (W3 : World), Rnd w.heap.size X (Plus O w.heap.size) (W.putObj (w.heap.size + 1) (.loop { rec .ready none with state := .busy })) W3 →
          (Instr.endRound (w.heap.size + 1) jump).run Tryz.prog W3 = .ok (.bool jump.isNone) (W3.putObj (w.heap.size + 1) (.loop (rec (if jump.isNone then .ready else .done) jump))) ∧
          (W3.putObj (w.heap.size + 1) (.loop (rec (if jump.isNone then .ready else .done) jump))).heap[w.heap.size + 1]? = some (.loop (rec (if jump.isNone then .ready else .done) jump)) ∧
          (W3.putObj (w.heap.size + 1) (.loop (rec (if jump.isNone then .ready else .done) jump))).heap[w.heap.size]? = some (.deferred (some [])) ∧
          Rnd w.heap.size X O W (W3.putObj (w.heap.size + 1) (.loop (rec (if jump.isNone then .ready else .done) jump))) := fun jump W3 hk3 => by
        have hl3 := (hk3.own _ (by omega) (.inr (.inr rfl))).trans hl2
        have hk3' := (hk3.own _ (by omega) (.inr (.inl rfl))).trans hk2
        have := run_endRound (P := Tryz.prog) jump hl3
        rw [hrec] at this ⊢
        exact ⟨this, World.putObj_heap_same (Array.getElem?_eq_some_iff.1 hl3).1, (World.putObj_heap_other (by omega)).trans hk3', (hr2.trans (hk3.mono (fun k e => .inl e))).trans (Rnd.putObj _ hO.1 (by omega))⟩
      rintro e a3 W3 hp3
      cases e with
      | normal =>
        obtain ⟨hk3, hi3⟩ := hp3
        obtain ⟨hr, hl4, hk4, hr4⟩ := fin none W3 hk3
        exact ⟨_, _, hr, hr4, .inl ⟨rfl, hI.put hi3 _, hl4, hk4, hO, hOb⟩⟩
      | ret =>
        obtain ⟨hk3, hi3⟩ := hp3
        obtain ⟨hr, hl4, hk4, hr4⟩ := fin (some .ret) W3 hk3
        exact ⟨_, _, hr, hr4, .inr ⟨rfl, .ret, (hIx _).put hi3 _, hl4, hk4, hO, hOb⟩⟩
      | exit id =>
        obtain ⟨hk3, hi3⟩ := hp3
        obtain ⟨hr, hl4, hk4, hr4⟩ := fin (some (.exit id)) W3 hk3
        exact ⟨_, _, hr, hr4, .inr ⟨rfl, .exit id, (hIx _).put hi3 _, hl4, hk4, hO, hOb⟩⟩
      | goto t =>
        obtain ⟨hk3, hi3⟩ := hp3
        obtain ⟨hr, hl4, hk4, hr4⟩ := fin (some (.goto t)) W3 hk3
        exact ⟨_, _, hr, hr4, .inr ⟨rfl, .goto t, (hIx _).put hi3 _, hl4, hk4, hO, hOb⟩⟩
      | panic ch => exact hp3.elim
      | outgrown => exact hp3.elim
    · -- behind the iterator
      rintro e W2 ⟨⟨v, rfl⟩, O, (⟨hi, hl, hk, hO, hOb⟩ | ⟨q, hq0, hqp, c, hi, hl, hk, hO, hOb⟩)⟩
      · exact ⟨none, _, by have := run_endLoop (P := Tryz.prog) hl (by rw [hrec]; simp); rw [hrec] at this; exact this, hdone _ _ _ (Nat.le_refl _) (hI.put hi _) ((World.putObj_heap_other (by omega)).trans hk)⟩
      · exact ⟨some c, _, by have := run_endLoop (P := Tryz.prog) hl (by rw [hrec]; simp); rw [hrec] at this; exact this, hstop _ c q _ _ (Nat.le_refl _) hq0 hqp ((hIx c).put hi _) ((World.putObj_heap_other (by omega)).trans hk)⟩

set_option maxRecDepth 100000 in
set_option maxHeartbeats 1000000 in
theorem iso1_diff (base : Nat) (X : Nat → Prop) (tb tq cz ub uo cu n n2 l b1 b2 : Nat) (az bz : List (List (List Int))) (h0 : 0 < az.length) (h1 : 0 < bz.length) (hts : az.length ≤ 2) (hts2 : bz.length ≤ 2) (h12 : n ≤ 12) (h22 : n2 ≤ 12) (hne : n2 ≠ n)
    (w : World) (k1 : w.cell? ⟨b1, 0, none⟩ = some (.slice (some ⟨tb, tq, none⟩) az.length cz)) (k2 : w.cell? ⟨b2, 0, none⟩ = some (.slice (some ⟨ub, uo, none⟩) bz.length cu)) (hta : TabsIn base X w tb tq n az) (htu : TabsIn base X w ub uo n2 bz) :
    Calls Tryz.prog 47 #[.func (.yield l) #[] #[], .pointer (some ⟨b1, 0, none⟩), .pointer (some ⟨b2, 0, none⟩)] w fun e w' => (∃ v, e = .returned v) ∧ w = w' := by
  obtain ⟨q1, q2, q3, -, -, q4, -⟩ := hta.2.2 0 h0
  obtain ⟨r1, r2, r3, -, -, r4, -⟩ := htu.2.2 0 h1
  rw [Nat.add_zero] at q4 r4
  have hb : ((n2 : Int) != (n : Int)) = true := by simp; omega
  clear hta htu
  go_enter Tryz.func47, Tryz.ntmps47
  go_wp2_with fail
  refine bodyPost_ret (results_none rfl _ _ _) rfl ?_
  exact ⟨⟨_, rfl⟩, rfl⟩
end Go.Proofs.YthlafeefjonkdaaGreatDoor
