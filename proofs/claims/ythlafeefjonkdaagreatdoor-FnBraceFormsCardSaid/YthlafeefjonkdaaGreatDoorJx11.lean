/-
  Contracts of ClassesOf: reference and program.
-/
import Derived.StillTailTactics
import Derived.Deep.RegionLaw
import Derived.Test.YthlafeefjonkdaaGreatDoorJx10
namespace Go.Proofs.YthlafeefjonkdaaGreatDoor
set_option linter.unusedVariables false
set_option linter.unusedSimpArgs false
open Go.RowKit
attribute [local go_sem ↓] Go.wp_at_zero Go.wp_at_succ

theorem GrowI.one {e base : Nat} {w : World} {x : Int} (hb : base ≤ w.heap.size) : GrowI e base (w.alloc (.cells #[.int .i64 x] e)) (.slice (some ⟨w.heap.size, 0, none⟩) 1 1) [x] :=
  ⟨by simp, .inr ⟨w.heap.size, 1, #[.int .i64 x], rfl, hb, heap_alloc_new w _, Nat.le_refl _, by decide, by simp, by simp⟩⟩
end Go.Proofs.YthlafeefjonkdaaGreatDoor


namespace Go.Proofs.YthlafeefjonkdaaGreatDoor
set_option linter.unusedVariables false
set_option linter.unusedSimpArgs false

def Goes (n : Nat) (f f' : List Int) : Prop := f'.length = n ∧ ∀ i, i < n → 0 ≤ ix f i → ix f' i = ix f i
theorem Goes.refl {n : Nat} {f : List Int} (h : f.length = n) : Goes n f f := ⟨h, fun _ _ _ => rfl⟩
theorem Goes.trans {n : Nat} {f g h : List Int} (a : Goes n f g) (b : Goes n g h) : Goes n f h := ⟨b.1, fun i hi h0 => by
  have e := a.2 i hi h0
  rw [b.2 i hi (by omega), e]⟩
def Good (az bz : List (List (List Int))) (f : List Int) (x y : Nat) : Prop :=
  ∀ k, k < az.length → 0 ≤ ix f (ent (tab az k) x y).toNat ∧ ix f (ent (tab az k) x y).toNat = ent (tab bz k) (ix f x).toNat (ix f y).toNat
theorem Good.goes {n : Nat} {az bz : List (List (List Int))} {f g : List Int} {x y : Nat} (hA : TabsOk n az) (h : Good az bz f x y) (hg : Goes n f g) (hx : x < n) (hy : y < n) (fx : 0 ≤ ix f x) (fy : 0 ≤ ix f y) : Good az bz g x y := fun k hk => by
  obtain ⟨h1, h2⟩ := h k hk
  have hb := hA.bd hk hx hy
  have e := hg.2 _ hb.2 h1
  rw [e, hg.2 x hx fx, hg.2 y hy fy]
  exact ⟨h1, h2⟩
structure PartOk (n : Nat) (f s : List Int) : Prop where
  len : f.length = n
  rng : ∀ x, x < n → -1 ≤ ix f x ∧ ix f x < (n : Int)
  inj : ∀ x, x < n → ∀ y, y < n → 0 ≤ ix f x → ix f x = ix f y → x = y
  mem : ∀ x : Nat, x < n → ((x : Int) ∈ s ↔ 0 ≤ ix f x)
  bd : ∀ i, i < s.length → 0 ≤ ix s i ∧ (ix s i).toNat < n
  nodup : s.Nodup
def GoodAll (az bz : List (List (List Int))) (n : Nat) (f : List Int) : Prop := ∀ x, x < n → ∀ y, y < n → 0 ≤ ix f x → 0 ≤ ix f y → Good az bz f x y
theorem iso_of_good {n : Nat} {az bz : List (List (List Int))} {f s : List Int} (h : PartOk n f s) (hall : ∀ x, x < n → 0 ≤ ix f x) (hg : GoodAll az bz n f) : IsoOk n az bz f :=
  ⟨h.len, ⟨fun i hi => by
      have := h.rng i (by have := h.len; omega)
      have := hall i (by have := h.len; omega)
      have := h.len
      omega, fun i hi j hj e => by
      have := h.len
      have := h.inj j (by omega) i (by omega) (hall j (by omega)) e
      omega⟩, fun k hk x hx y hy => (hg x hx y hy (hall x hx) (hall y hy) k hk).2⟩
theorem ix_set_same (f : List Int) (x : Nat) (v : Int) (h : x < f.length) : ix (f.set x v) x = v := by
  rw [ix_eq]; simp [List.getD, h]
theorem ix_set_other (f : List Int) (x i : Nat) (v : Int) (h : i ≠ x) : ix (f.set x v) i = ix f i := by
  rw [ix_eq, ix_eq]; simp [List.getD, List.getElem?_set_ne (Ne.symm h)]
theorem extP_set {f p : List Int} {x : Nat} {v : Int} (hx : x < f.length) (hf : ix f x < 0) (hv : 0 ≤ v) : (ExtP f p ∧ ix p x = v) ↔ ExtP (f.set x v) p := by
  constructor
  · rintro ⟨h1, h2⟩ i hi h0
    rw [List.length_set] at hi
    by_cases e : i = x
    · subst e; rw [ix_set_same _ _ _ hi]; exact h2
    · rw [ix_set_other _ _ _ _ e] at h0 ⊢
      exact h1 i hi h0
  · intro h
    refine ⟨fun i hi h0 => ?_, ?_⟩
    · have e : i ≠ x := fun e => by subst e; omega
      have := h i (by rw [List.length_set]; exact hi) (by rw [ix_set_other _ _ _ _ e]; exact h0)
      rw [this, ix_set_other _ _ _ _ e]
    · have e := ix_set_same f x v hx
      rw [h x (by rw [List.length_set]; exact hx) (by rw [e]; exact hv), e]
theorem goes_set {n : Nat} {f : List Int} {x : Nat} {v : Int} (hl : f.length = n) (hf : ix f x < 0) : Goes n f (f.set x v) :=
  ⟨by rw [List.length_set]; exact hl, fun i _ h0 => ix_set_other _ _ _ _ (fun e => by subst e; omega)⟩
theorem mem_snoc_iff {s : List Int} {a b : Int} : a ∈ s ++ [b] ↔ a ∈ s ∨ a = b := by simp
theorem PartOk.set {n : Nat} {f s : List Int} {x v : Nat} (h : PartOk n f s) (hx : x < n) (hv : v < n) (hf : ix f x < 0) (hu : ∀ y, y < n → ix f y ≠ (v : Int)) : PartOk n (f.set x (v : Int)) (s ++ [(x : Int)]) where
  len := by rw [List.length_set]; exact h.len
  rng y hy := by
    by_cases e : y = x
    · subst e; rw [ix_set_same _ _ _ (by rw [h.len]; exact hy)]; omega
    · rw [ix_set_other _ _ _ _ e]; exact h.rng y hy
  inj y hy z hz h0 e := by
    have hxl : x < f.length := by rw [h.len]; exact hx
    by_cases ey : y = x
    · subst ey
      by_cases ez : z = y
      · exact ez.symm
      · rw [ix_set_same _ _ _ hxl, ix_set_other _ _ _ _ ez] at e
        exact absurd e.symm (hu z hz)
    · by_cases ez : z = x
      · subst ez
        rw [ix_set_same _ _ _ hxl, ix_set_other _ _ _ _ ey] at e
        exact absurd e (hu y hy)
      · rw [ix_set_other _ _ _ _ ey] at h0
        rw [ix_set_other _ _ _ _ ey, ix_set_other _ _ _ _ ez] at e
        exact h.inj y hy z hz h0 e
  mem y hy := by
    have hxl : x < f.length := by rw [h.len]; exact hx
    rw [mem_snoc_iff, h.mem y hy]
    by_cases e : y = x
    · subst e; rw [ix_set_same _ _ _ hxl]; constructor
      · intro _; omega
      · intro _; exact .inr rfl
    · rw [ix_set_other _ _ _ _ e]; constructor
      · rintro (h1 | h1)
        · exact h1
        · exact absurd (Int.ofNat.inj h1) e
      · exact .inl
  bd i hi := by
    by_cases e : i < s.length
    · rw [ix_app e]; exact h.bd i e
    · have : i = s.length := by simp at hi; omega
      subst this
      rw [ix_snoc]; omega
  nodup := by
    rw [List.nodup_append]
    refine ⟨h.nodup, by simp, fun a ha b hb e => ?_⟩
    have : b = (x : Int) := by simpa using hb
    subst this; subst e
    have := (h.mem x hx).1 ha
    omega
theorem used_no {n : Nat} {az bz : List (List (List Int))} {f p : List Int} {x y : Nat} {v : Int} (hl : f.length = n) (hp : IsoOk n az bz p) (he : ExtP f p) (hx : x < n) (hy : y < n) (hf : ix f x < 0) (hv : 0 ≤ v) (e : ix f y = v) : ix p x ≠ v := fun h => by
  have h1 := he y (by omega) (by omega)
  have := hp.inj hx hy (by omega)
  subst this
  omega
theorem ext_follows {n : Nat} {az bz : List (List (List Int))} {f p : List Int} {x y k : Nat} (hl : f.length = n) (hp : IsoOk n az bz p) (he : ExtP f p) (hx : x < n) (hy : y < n) (fx : 0 ≤ ix f x) (fy : 0 ≤ ix f y) (hk : k < az.length) : ix p (ent (tab az k) x y).toNat = ent (tab bz k) (ix f x).toNat (ix f y).toNat := by
  rw [hp.2.2 k hk x hx y hy, he x (by omega) fx, he y (by omega) fy]
end Go.Proofs.YthlafeefjonkdaaGreatDoor


namespace Go.Proofs.YthlafeefjonkdaaGreatDoor
set_option linter.unusedVariables false
set_option linter.unusedSimpArgs false

@[irreducible] def clearL (f l : List Int) : List Int := l.foldl (fun g x => g.set x.toNat (-1)) f
theorem clearL_nil (f : List Int) : clearL f [] = f := by unfold clearL; rfl
theorem clearL_snoc (f l : List Int) (x : Int) : clearL f (l ++ [x]) = (clearL f l).set x.toNat (-1) := by unfold clearL; rw [List.foldl_append]; rfl
theorem clearL_cons (f l : List Int) (x : Int) : clearL f (x :: l) = clearL (f.set x.toNat (-1)) l := by unfold clearL; rfl
theorem length_clearL : ∀ (l f : List Int), (clearL f l).length = f.length
  | [], f => by rw [clearL_nil]
  | x :: l, f => by rw [clearL_cons, length_clearL l, List.length_set]
theorem clearL_not : ∀ (l f : List Int) (y : Nat), (∀ z, z ∈ l → 0 ≤ z) → (y : Int) ∉ l → ix (clearL f l) y = ix f y
  | [], f, y, _, _ => by rw [clearL_nil]
  | x :: l, f, y, h0, hn => by
    rw [clearL_cons, clearL_not l _ y (fun z hz => h0 z (by simp [hz])) (fun h => hn (by simp [h])), ix_set_other]
    intro e
    have := h0 x (by simp)
    exact hn (by simp; left; omega)
theorem clearL_in : ∀ (l f : List Int) (y : Nat), (∀ z, z ∈ l → 0 ≤ z) → y < f.length → (y : Int) ∈ l → ix (clearL f l) y = -1
  | x :: l, f, y, h0, hy, hm => by
    rw [clearL_cons]
    by_cases hl : (y : Int) ∈ l
    · exact clearL_in l _ y (fun z hz => h0 z (by simp [hz])) (by rw [List.length_set]; exact hy) hl
    · rw [clearL_not l _ y (fun z hz => h0 z (by simp [hz])) hl]
      have : x = (y : Int) := by
        rcases List.mem_cons.1 hm with h | h
        · exact h.symm
        · exact absurd h hl
      subst this
      rw [Int.toNat_natCast, ix_set_same _ _ _ hy]
theorem clearL_back {n : Nat} {f g s l : List Int} (hf : PartOk n f s) (hg : PartOk n g (s ++ l)) (hgo : Goes n f g) : clearL g l = f := by
  have h0 : ∀ z, z ∈ l → 0 ≤ z := fun z hz => by
    obtain ⟨i, hi, e⟩ := mem_ix (show z ∈ s ++ l by simp [hz])
    have := (hg.bd i hi).1
    omega
  refine ix_ext (by rw [length_clearL, hg.len, hf.len]) fun i hi => ?_
  rw [length_clearL, hg.len] at hi
  by_cases hm : (i : Int) ∈ l
  · rw [clearL_in l g i h0 (by rw [hg.len]; exact hi) hm]
    have hns : (i : Int) ∉ s := fun h => by
      have := hg.nodup
      rw [List.nodup_append] at this
      exact this.2.2 _ h _ hm rfl
    have h1 : ¬ 0 ≤ ix f i := fun h => hns ((hf.mem i hi).2 h)
    have := (hf.rng i hi).1
    omega
  · rw [clearL_not l g i h0 hm]
    by_cases hs : (i : Int) ∈ s
    · exact hgo.2 i hi ((hf.mem i hi).1 hs)
    · have h1 : ¬ 0 ≤ ix f i := fun h => hs ((hf.mem i hi).2 h)
      have h2 : ¬ 0 ≤ ix g i := fun h => by
        rcases List.mem_append.1 ((hg.mem i hi).2 h) with h3 | h3
        · exact hs h3
        · exact hm h3
      have := (hf.rng i hi).1
      have := (hg.rng i hi).1
      omega
def PartF (n : Nat) (f : List Int) : Prop := f.length = n ∧ (∀ x, x < n → -1 ≤ ix f x ∧ ix f x < (n : Int)) ∧ ∀ x, x < n → ∀ y, y < n → 0 ≤ ix f x → ix f x = ix f y → x = y
theorem PartOk.toF {n : Nat} {f s : List Int} (h : PartOk n f s) : PartF n f := ⟨h.len, h.rng, h.inj⟩
theorem PartF.clear {n : Nat} {f : List Int} (h : PartF n f) {x : Nat} (hx : x < n) : PartF n (f.set x (-1)) := by
  obtain ⟨h1, h2, h3⟩ := h
  have hxl : x < f.length := by omega
  refine ⟨by rw [List.length_set]; exact h1, fun y hy => ?_, fun y hy z hz h0 e => ?_⟩
  · by_cases e : y = x
    · subst e; rw [ix_set_same _ _ _ hxl]; omega
    · rw [ix_set_other _ _ _ _ e]; exact h2 y hy
  · by_cases ey : y = x
    · subst ey; rw [ix_set_same _ _ _ hxl] at h0; omega
    · rw [ix_set_other _ _ _ _ ey] at h0
      rw [ix_set_other _ _ _ _ ey] at e
      by_cases ez : z = x
      · subst ez; rw [ix_set_same _ _ _ hxl] at e; omega
      · rw [ix_set_other _ _ _ _ ez] at e; exact h3 y hy z hz h0 e
theorem hasB_has {l : List Int} {v : Int} : hasB l v = true ↔ ∃ i, i < l.length ∧ ix l i = v := by
  rw [hasB_iff]
  rcases indexOf_spec l v with ⟨h, hn⟩ | ⟨i, hi, h, e, _⟩
  · constructor
    · intro h2; omega
    · rintro ⟨i, hi, e⟩; exact absurd e (hn i hi)
  · exact ⟨fun _ => ⟨i, hi, e⟩, fun _ => by omega⟩
theorem bool_ext {a b : Bool} (h : a = true ↔ b = true) : a = b := by cases a <;> cases b <;> simp_all
theorem hasB_clear {n : Nat} {f : List Int} (h : PartF n f) {x : Nat} (hx : x < n) (h0 : 0 ≤ ix f x) (i : Nat) : hasB (f.set x (-1)) i = if i = (ix f x).toNat then false else hasB f i := by
  obtain ⟨h1, h2, h3⟩ := h
  have hxl : x < f.length := by omega
  by_cases e : i = (ix f x).toNat
  · rw [if_pos e, ← Bool.not_eq_true, hasB_has]
    rintro ⟨y, hy, e2⟩
    rw [List.length_set] at hy
    by_cases ey : y = x
    · subst ey; rw [ix_set_same _ _ _ hxl] at e2; omega
    · rw [ix_set_other _ _ _ _ ey] at e2
      exact ey (h3 x hx y (by omega) h0 (by omega)).symm
  · rw [if_neg e]
    refine bool_ext ?_
    rw [hasB_has, hasB_has, List.length_set]
    constructor
    · rintro ⟨y, hy, e2⟩
      by_cases ey : y = x
      · subst ey; rw [ix_set_same _ _ _ hxl] at e2; omega
      · rw [ix_set_other _ _ _ _ ey] at e2; exact ⟨y, hy, e2⟩
    · rintro ⟨y, hy, e2⟩
      have ey : y ≠ x := fun h => by subst h; omega
      exact ⟨y, hy, by rw [ix_set_other _ _ _ _ ey]; exact e2⟩
theorem hasB_set {n : Nat} {f : List Int} (hl : f.length = n) {x v : Nat} (hx : x < n) (hf : ix f x < 0) (i : Nat) : hasB (f.set x (v : Int)) i = if i = v then true else hasB f i := by
  have hxl : x < f.length := by omega
  by_cases e : i = v
  · rw [if_pos e, hasB_has]
    subst e
    exact ⟨x, by rw [List.length_set]; exact hxl, ix_set_same _ _ _ hxl⟩
  · rw [if_neg e]
    refine bool_ext ?_
    rw [hasB_has, hasB_has, List.length_set]
    constructor
    · rintro ⟨y, hy, e2⟩
      by_cases ey : y = x
      · subst ey; rw [ix_set_same _ _ _ hxl] at e2; omega
      · rw [ix_set_other _ _ _ _ ey] at e2; exact ⟨y, hy, e2⟩
    · rintro ⟨y, hy, e2⟩
      have ey : y ≠ x := fun h => by subst h; omega
      exact ⟨y, hy, by rw [ix_set_other _ _ _ _ ey]; exact e2⟩
theorem PartOk.le {n : Nat} {f s : List Int} (h : PartOk n f s) : s.length ≤ n := by
  have := nodup_le s (intRange n) h.nodup (fun z hz => by
    obtain ⟨i, hi, e⟩ := mem_ix hz
    have := h.bd i hi
    rw [mem_intRange]; omega)
  simpa [intRange] using this
end Go.Proofs.YthlafeefjonkdaaGreatDoor


namespace Go.Proofs.YthlafeefjonkdaaGreatDoor
set_option linter.unusedVariables false
set_option linter.unusedSimpArgs false

def Gd (az bz : List (List (List Int))) (f : List Int) (k x y : Nat) : Prop :=
  0 ≤ ix f (ent (tab az k) x y).toNat ∧ ix f (ent (tab az k) x y).toNat = ent (tab bz k) (ix f x).toNat (ix f y).toNat
theorem Gd.goes {n : Nat} {az bz : List (List (List Int))} {f g : List Int} {k x y : Nat} (hA : TabsOk n az) (hk : k < az.length) (h : Gd az bz f k x y) (hg : Goes n f g) (hx : x < n) (hy : y < n) (fx : 0 ≤ ix f x) (fy : 0 ≤ ix f y) : Gd az bz g k x y := by
  obtain ⟨h1, h2⟩ := h
  have hb := hA.bd hk hx hy
  have e := hg.2 _ hb.2 h1
  unfold Gd
  rw [e, hg.2 x hx fx, hg.2 y hy fy]
  exact ⟨h1, h2⟩
structure AsgR (n : Nat) (az bz : List (List (List Int))) (f s : List Int) (x v : Nat) (r : Bool) (f' s' : List Int) : Prop where
  part : PartOk n f' s'
  goes : Goes n f f'
  more : ∃ l, s' = s ++ l
  new : ix f x < 0 → hasB f v = false → ∃ l, s' = s ++ [(x : Int)] ++ l
  here : r = true → ix f' x = (v : Int)
  good : r = true → ∀ a, a < n → ∀ b, b < n → ix f a < 0 → 0 ≤ ix f' a → 0 ≤ ix f' b → ∀ k, k < az.length → Gd az bz f' k a b ∧ Gd az bz f' k b a
  ext : r = true → ∀ p, IsoOk n az bz p → ExtP f p → ix p x = (v : Int) → ExtP f' p
  no : r = false → ∀ p, IsoOk n az bz p → ExtP f p → ix p x ≠ (v : Int)
theorem AsgR.old {n : Nat} {az bz : List (List (List Int))} {f s : List Int} {x v : Nat} (h : PartOk n f s) (hx : x < n) (hf : 0 ≤ ix f x) : AsgR n az bz f s x v (decide (ix f x = (v : Int))) f s where
  part := h
  goes := Goes.refl h.len
  more := ⟨[], by simp⟩
  new := fun h _ => by omega
  here := fun e => by simpa using e
  good := fun _ a _ b _ h1 h2 => by omega
  ext := fun _ p _ he _ => he
  no := fun e p _ he h2 => by
    have e1 := he x (by rw [h.len]; exact hx) hf
    have : ¬ ix f x = (v : Int) := by simpa using e
    omega
theorem AsgR.used {n : Nat} {az bz : List (List (List Int))} {f s : List Int} {x v : Nat} (h : PartOk n f s) (hx : x < n) (hf : ix f x < 0) (hu : hasB f v = true) : AsgR n az bz f s x v false f s where
  part := h
  goes := Goes.refl h.len
  more := ⟨[], by simp⟩
  new := fun _ h => by rw [hu] at h; cases h
  here := fun e => by cases e
  good := fun e => by cases e
  ext := fun e => by cases e
  no := fun _ p hp he => by
    obtain ⟨y, hy, e⟩ := hasB_has.1 hu
    exact used_no h.len hp he hx (by rw [← h.len]; exact hy) hf (by omega) e
structure Lp (n : Nat) (az bz : List (List (List Int))) (f s : List Int) (x v : Nat) (f1 s1 : List Int) (P : Nat → Nat → Nat → Prop) : Prop where
  part : PartOk n f1 s1
  goes : Goes n f f1
  more : ∃ l, s1 = s ++ [(x : Int)] ++ l
  here : ix f1 x = (v : Int)
  good : ∀ a, a < n → ∀ b, b < n → ix f a < 0 → a ≠ x → 0 ≤ ix f1 a → 0 ≤ ix f1 b → ∀ k, k < az.length → Gd az bz f1 k a b ∧ Gd az bz f1 k b a
  done : ∀ k a b, P k a b → k < az.length ∧ a < n ∧ b < n ∧ 0 ≤ ix f1 a ∧ 0 ≤ ix f1 b ∧ Gd az bz f1 k a b
  ext : ∀ p, IsoOk n az bz p → ExtP f p → ix p x = (v : Int) → ExtP f1 p
theorem Lp.start {n : Nat} {az bz : List (List (List Int))} {f s : List Int} {x v : Nat} (h : PartOk n f s) (hx : x < n) (hv : v < n) (hf : ix f x < 0) (hu : hasB f v = false) : Lp n az bz f s x v (f.set x (v : Int)) (s ++ [(x : Int)]) (fun _ _ _ => False) where
  part := h.set hx hv hf fun y hy e => by
    have := hasB_has.2 ⟨y, by rw [h.len]; exact hy, e⟩
    rw [hu] at this; cases this
  goes := goes_set h.len hf
  more := ⟨[], by simp⟩
  here := ix_set_same _ _ _ (by rw [h.len]; exact hx)
  good := fun a ha b hb h1 hne h2 => by
    rw [ix_set_other _ _ _ _ hne] at h2; omega
  done := fun _ _ _ e => e.elim
  ext := fun p _ he e => (extP_set (by rw [h.len]; exact hx) hf (by omega)).1 ⟨he, e⟩
theorem Lp.mono {n : Nat} {az bz : List (List (List Int))} {f s : List Int} {x v : Nat} {f1 s1 : List Int} {P P' : Nat → Nat → Nat → Prop} (h : Lp n az bz f s x v f1 s1 P) (hp : ∀ k a b, P' k a b → P k a b) : Lp n az bz f s x v f1 s1 P' where
  part := h.part
  goes := h.goes
  more := h.more
  here := h.here
  good := h.good
  done := fun k a b e => h.done k a b (hp k a b e)
  ext := h.ext
theorem Lp.call {n : Nat} {az bz : List (List (List Int))} {f s : List Int} {x v : Nat} {f1 s1 f2 s2 : List Int} {P : Nat → Nat → Nat → Prop} (hA : TabsOk n az) (h : Lp n az bz f s x v f1 s1 P) {k a b x' v' : Nat} (hk : k < az.length) (ha : a < n) (hb : b < n) (h1 : 0 ≤ ix f1 a) (h2 : 0 ≤ ix f1 b)
    (ex : ent (tab az k) a b = (x' : Int)) (ev : ent (tab bz k) (ix f1 a).toNat (ix f1 b).toNat = (v' : Int)) (g : AsgR n az bz f1 s1 x' v' true f2 s2) : Lp n az bz f s x v f2 s2 (fun k' a' b' => P k' a' b' ∨ (k' = k ∧ a' = a ∧ b' = b)) where
  part := g.part
  goes := h.goes.trans g.goes
  more := by
    obtain ⟨l, e⟩ := h.more
    obtain ⟨m, e2⟩ := g.more
    exact ⟨l ++ m, by rw [e2, e]; simp⟩
  here := by
    have hxn : x < n := by
      obtain ⟨l, e⟩ := h.more
      have hm : (x : Int) ∈ s1 := by rw [e]; simp
      obtain ⟨i, hi, e2⟩ := mem_ix hm
      have := h.part.bd i hi
      omega
    rw [g.goes.2 x hxn (by rw [h.here]; omega)]; exact h.here
  good := fun c hc d hd hn hne hc2 hd2 q hq => by
    by_cases g1 : 0 ≤ ix f1 c
    · by_cases g2 : 0 ≤ ix f1 d
      · obtain ⟨r1, r2⟩ := h.good c hc d hd hn hne g1 g2 q hq
        exact ⟨r1.goes hA hq g.goes hc hd g1 g2, r2.goes hA hq g.goes hd hc g2 g1⟩
      · obtain ⟨r1, r2⟩ := g.good rfl d hd c hc (by omega) hd2 hc2 q hq
        exact ⟨r2, r1⟩
    · exact g.good rfl c hc d hd (by omega) hc2 hd2 q hq
  done := fun k' a' b' e => by
    rcases e with e | ⟨rfl, rfl, rfl⟩
    · obtain ⟨d1, d2, d3, d4, d5, d6⟩ := h.done k' a' b' e
      refine ⟨d1, d2, d3, ?_, ?_, d6.goes hA d1 g.goes d2 d3 d4 d5⟩
      · rw [g.goes.2 a' d2 d4]; exact d4
      · rw [g.goes.2 b' d3 d5]; exact d5
    · have e1 := g.goes.2 a' ha h1
      have e2 := g.goes.2 b' hb h2
      refine ⟨hk, ha, hb, by rw [e1]; exact h1, by rw [e2]; exact h2, ?_⟩
      unfold Gd
      rw [ex, e1, e2, ev, Int.toNat_natCast, g.here rfl]
      exact ⟨by omega, rfl⟩
  ext := fun p hp he e => by
    have h3 := h.ext p hp he e
    refine g.ext rfl p hp h3 ?_
    have h4 := ext_follows h.part.len hp h3 ha hb h1 h2 hk
    rw [ex, ev, Int.toNat_natCast] at h4
    exact h4
theorem Lp.no {n : Nat} {az bz : List (List (List Int))} {f s : List Int} {x v : Nat} {f1 s1 f2 s2 : List Int} {P : Nat → Nat → Nat → Prop} (h : Lp n az bz f s x v f1 s1 P) {k a b x' v' : Nat} (hk : k < az.length) (ha : a < n) (hb : b < n) (h1 : 0 ≤ ix f1 a) (h2 : 0 ≤ ix f1 b)
    (ex : ent (tab az k) a b = (x' : Int)) (ev : ent (tab bz k) (ix f1 a).toNat (ix f1 b).toNat = (v' : Int)) (g : AsgR n az bz f1 s1 x' v' false f2 s2) : AsgR n az bz f s x v false f2 s2 where
  part := g.part
  goes := h.goes.trans g.goes
  more := by
    obtain ⟨l, e⟩ := h.more
    obtain ⟨m, e2⟩ := g.more
    exact ⟨[(x : Int)] ++ l ++ m, by rw [e2, e]; simp⟩
  new := fun _ _ => by
    obtain ⟨l, e⟩ := h.more
    obtain ⟨m, e2⟩ := g.more
    exact ⟨l ++ m, by rw [e2, e]; simp⟩
  here := fun e => by cases e
  good := fun e => by cases e
  ext := fun e => by cases e
  no := fun _ p hp he e => by
    have h3 := h.ext p hp he e
    refine g.no rfl p hp h3 ?_
    have h4 := ext_follows h.part.len hp h3 ha hb h1 h2 hk
    rw [ex, ev, Int.toNat_natCast] at h4
    exact h4
theorem Lp.fin {n : Nat} {az bz : List (List (List Int))} {f s : List Int} {x v : Nat} {f1 s1 : List Int} {P : Nat → Nat → Nat → Prop} (h : Lp n az bz f s x v f1 s1 P) (hall : ∀ k, k < az.length → ∀ j, j < s1.length → P k x (ix s1 j).toNat ∧ P k (ix s1 j).toNat x) : AsgR n az bz f s x v true f1 s1 where
  part := h.part
  goes := h.goes
  more := by
    obtain ⟨l, e⟩ := h.more
    exact ⟨[(x : Int)] ++ l, by rw [e]; simp⟩
  new := fun _ _ => h.more
  here := fun _ => h.here
  good := fun _ a ha b hb hn ha2 hb2 k hk => by
    by_cases e : a = x
    · subst e
      obtain ⟨j, hj, e2⟩ := mem_ix ((h.part.mem b hb).2 hb2)
      have := hall k hk j hj
      rw [e2, Int.toNat_natCast] at this
      exact ⟨(h.done _ _ _ this.1).2.2.2.2.2, (h.done _ _ _ this.2).2.2.2.2.2⟩
    · exact h.good a ha b hb hn e ha2 hb2 k hk
  ext := fun _ => h.ext
  no := fun e => by cases e
def PrO (az : List (List (List Int))) (x i : Nat) (s1 : List Int) (k a b : Nat) : Prop := k < az.length ∧ ∃ j, j < i ∧ ((a = x ∧ b = (ix s1 j).toNat) ∨ (b = x ∧ a = (ix s1 j).toNat))
def PrI (az : List (List (List Int))) (x i : Nat) (s1 : List Int) (y kk k a b : Nat) : Prop := PrO az x i s1 k a b ∨ (k < kk ∧ ((a = x ∧ b = y) ∨ (b = x ∧ a = y)))
theorem prO_app {az : List (List (List Int))} {x i : Nat} {s1 l : List Int} {k a b : Nat} (hi : i ≤ s1.length) (h : PrO az x i (s1 ++ l) k a b) : PrO az x i s1 k a b := by
  obtain ⟨h0, j, hj, h⟩ := h
  rw [ix_app (by omega)] at h
  exact ⟨h0, j, hj, h⟩
theorem prO_succ {az : List (List (List Int))} {x i : Nat} {s1 : List Int} {k a b y : Nat} (hy : (ix s1 i).toNat = y) (h : PrO az x (i + 1) s1 k a b) : PrI az x i s1 y az.length k a b := by
  obtain ⟨h0, j, hj, h⟩ := h
  by_cases e : j < i
  · exact .inl ⟨h0, j, e, h⟩
  · have : j = i := by omega
    subst this
    rw [hy] at h
    exact .inr ⟨h0, h⟩
end Go.Proofs.YthlafeefjonkdaaGreatDoor


namespace Go.Proofs.YthlafeefjonkdaaGreatDoor
set_option linter.unusedVariables false
set_option linter.unusedSimpArgs false

abbrev ARes := Bool × List Int × List Int
def tabsL (call : List Int → List Int → Nat → Nat → ARes) (az bz : List (List (List Int))) (x v y : Nat) : Nat → Nat → List Int → List Int → ARes
  | 0, _, f, s => (true, f, s)
  | m + 1, k, f, s =>
    let p := call f s (ent (tab az k) x y).toNat (ent (tab bz k) v (ix f y).toNat).toNat
    if p.1 then
      let q := call p.2.1 p.2.2 (ent (tab az k) y x).toNat (ent (tab bz k) (ix p.2.1 y).toNat v).toNat
      if q.1 then tabsL call az bz x v y m (k + 1) q.2.1 q.2.2 else q
    else p
def asgE (call : List Int → List Int → Nat → Nat → ARes) (az bz : List (List (List Int))) (x v : Nat) : Nat → Nat → List Int → List Int → ARes
  | 0, _, f, s => (true, f, s)
  | m + 1, i, f, s => if i < s.length then
      let p := tabsL call az bz x v (ix s i).toNat az.length 0 f s
      if p.1 then asgE call az bz x v m (i + 1) p.2.1 p.2.2 else p
    else (true, f, s)
def asgF (n : Nat) (az bz : List (List (List Int))) : Nat → List Int → List Int → Nat → Nat → ARes
  | 0, f, s, x, v => (decide (ix f x = (v : Int)), f, s)
  | d + 1, f, s, x, v => if 0 ≤ ix f x then (decide (ix f x = (v : Int)), f, s) else if hasB f v then (false, f, s) else asgE (asgF n az bz d) az bz x v n 0 (f.set x (v : Int)) (s ++ [(x : Int)])

section
variable {call : List Int → List Int → Nat → Nat → ARes} {az bz : List (List (List Int))} {x v y m k i : Nat} {f s : List Int}
theorem tabsL_zero : tabsL call az bz x v y 0 k f s = (true, f, s) := rfl
theorem tabsL_one {x1 v1 : Nat} {f1 s1 : List Int} (ex : ent (tab az k) x y = (x1 : Int)) (ev : ent (tab bz k) v (ix f y).toNat = (v1 : Int)) (h : call f s x1 v1 = (false, f1, s1)) : tabsL call az bz x v y (m + 1) k f s = (false, f1, s1) := by
  have : (ent (tab az k) x y).toNat = x1 := by omega
  have e2 : (ent (tab bz k) v (ix f y).toNat).toNat = v1 := by omega
  simp [tabsL, this, e2, h]
theorem tabsL_two {x1 v1 x2 v2 : Nat} {f1 s1 f2 s2 : List Int} (ex : ent (tab az k) x y = (x1 : Int)) (ev : ent (tab bz k) v (ix f y).toNat = (v1 : Int)) (h : call f s x1 v1 = (true, f1, s1)) (ex2 : ent (tab az k) y x = (x2 : Int)) (ev2 : ent (tab bz k) (ix f1 y).toNat v = (v2 : Int)) (h2 : call f1 s1 x2 v2 = (false, f2, s2)) : tabsL call az bz x v y (m + 1) k f s = (false, f2, s2) := by
  have e1 : (ent (tab az k) x y).toNat = x1 := by omega
  have e2 : (ent (tab bz k) v (ix f y).toNat).toNat = v1 := by omega
  have e3 : (ent (tab az k) y x).toNat = x2 := by omega
  have e4 : (ent (tab bz k) (ix f1 y).toNat v).toNat = v2 := by omega
  simp [tabsL, e1, e2, h, e3, e4, h2]
theorem tabsL_go {x1 v1 x2 v2 : Nat} {f1 s1 f2 s2 : List Int} (ex : ent (tab az k) x y = (x1 : Int)) (ev : ent (tab bz k) v (ix f y).toNat = (v1 : Int)) (h : call f s x1 v1 = (true, f1, s1)) (ex2 : ent (tab az k) y x = (x2 : Int)) (ev2 : ent (tab bz k) (ix f1 y).toNat v = (v2 : Int)) (h2 : call f1 s1 x2 v2 = (true, f2, s2)) : tabsL call az bz x v y (m + 1) k f s = tabsL call az bz x v y m (k + 1) f2 s2 := by
  have e1 : (ent (tab az k) x y).toNat = x1 := by omega
  have e2 : (ent (tab bz k) v (ix f y).toNat).toNat = v1 := by omega
  have e3 : (ent (tab az k) y x).toNat = x2 := by omega
  have e4 : (ent (tab bz k) (ix f1 y).toNat v).toNat = v2 := by omega
  simp [tabsL, e1, e2, h, e3, e4, h2]
def contL (call : List Int → List Int → Nat → Nat → ARes) (az bz : List (List (List Int))) (x v m i : Nat) (p : ARes) : ARes := if p.1 then asgE call az bz x v m (i + 1) p.2.1 p.2.2 else p
theorem asgE_end (h : ¬ i < s.length) : asgE call az bz x v m i f s = (true, f, s) := by
  cases m with
  | zero => rfl
  | succ m => simp [asgE, h]
theorem asgE_go (h : i < s.length) : asgE call az bz x v (m + 1) i f s = contL call az bz x v m i (tabsL call az bz x v (ix s i).toNat az.length 0 f s) := by simp [asgE, contL, h]
theorem contL_go : contL call az bz x v m i (true, f, s) = asgE call az bz x v m (i + 1) f s := rfl
theorem contL_no : contL call az bz x v m i (false, f, s) = (false, f, s) := rfl
end

theorem asgF_old {n d : Nat} {az bz : List (List (List Int))} {f s : List Int} {x v : Nat} (h : 0 ≤ ix f x) : asgF n az bz d f s x v = (decide (ix f x = (v : Int)), f, s) := by
  cases d with
  | zero => rfl
  | succ d => simp [asgF, h]
theorem asgF_used {n d : Nat} {az bz : List (List (List Int))} {f s : List Int} {x v : Nat} (h : ix f x < 0) (hu : hasB f v = true) : asgF n az bz (d + 1) f s x v = (false, f, s) := by
  have : ¬ 0 ≤ ix f x := by omega
  simp [asgF, this, hu]
theorem asgF_go {n d : Nat} {az bz : List (List (List Int))} {f s : List Int} {x v : Nat} (h : ix f x < 0) (hu : hasB f v = false) : asgF n az bz (d + 1) f s x v = asgE (asgF n az bz d) az bz x v n 0 (f.set x (v : Int)) (s ++ [(x : Int)]) := by
  have : ¬ 0 ≤ ix f x := by omega
  simp [asgF, this, hu]

def CallOk (n : Nat) (az bz : List (List (List Int))) (d : Nat) (call : List Int → List Int → Nat → Nat → ARes) : Prop :=
  ∀ f s x v r f' s', n - s.length ≤ d → PartOk n f s → x < n → v < n → call f s x v = (r, f', s') → AsgR n az bz f s x v r f' s'

theorem PartOk.full {n : Nat} {f s : List Int} (h : PartOk n f s) (hl : n ≤ s.length) {x : Nat} (hx : x < n) : 0 ≤ ix f x := by
  have hp := (pigeon s (intRange n) h.nodup (fun z hz => by
    obtain ⟨i, hi, e⟩ := mem_ix hz
    have := h.bd i hi
    rw [mem_intRange]; omega) (by simpa [intRange] using hl)).1
  exact (h.mem x hx).1 (hp _ (mem_intRange.2 (by omega)))
theorem Lp.len {n : Nat} {az bz : List (List (List Int))} {f s : List Int} {x v : Nat} {f1 s1 : List Int} {P : Nat → Nat → Nat → Prop} (h : Lp n az bz f s x v f1 s1 P) : s.length + 1 ≤ s1.length := by
  obtain ⟨l, e⟩ := h.more
  rw [e]; simp
theorem Lp.mapped {n : Nat} {az bz : List (List (List Int))} {f s : List Int} {x v : Nat} {f1 s1 : List Int} {P : Nat → Nat → Nat → Prop} (h : Lp n az bz f s x v f1 s1 P) {y : Nat} (hy : y < n) (hm : (y : Int) ∈ s1) : 0 ≤ ix f1 y ∧ (ix f1 y).toNat < n := by
  have h1 := (h.part.mem y hy).1 hm
  have := h.part.rng y hy
  omega
structure Two (az bz : List (List (List Int))) (n k x y v q x1 v1 x2 v2 : Nat) : Prop where
  e1 : ent (tab az k) x y = (x1 : Int)
  e2 : ent (tab bz k) v q = (v1 : Int)
  e3 : ent (tab az k) y x = (x2 : Int)
  e4 : ent (tab bz k) q v = (v2 : Int)
  l1 : x1 < n
  l2 : v1 < n
  l3 : x2 < n
  l4 : v2 < n
theorem two_of {n : Nat} {az bz : List (List (List Int))} (hA : TabsOk n az) (hB : TabsOk n bz) {k x y v q : Nat} (hk : k < az.length) (hk2 : k < bz.length) (hx : x < n) (hy : y < n) (hv : v < n) (hq : q < n) : ∃ x1 v1 x2 v2, Two az bz n k x y v q x1 v1 x2 v2 := by
  have h1 := hA.bd hk hx hy
  have h2 := hB.bd hk2 hv hq
  have h3 := hA.bd hk hy hx
  have h4 := hB.bd hk2 hq hv
  exact ⟨_, _, _, _, (Int.toNat_of_nonneg h1.1).symm, (Int.toNat_of_nonneg h2.1).symm, (Int.toNat_of_nonneg h3.1).symm, (Int.toNat_of_nonneg h4.1).symm, h1.2, h2.2, h3.2, h4.2⟩
theorem Lp.both {n d : Nat} {az bz : List (List (List Int))} {f s : List Int} {x v : Nat} {call : List Int → List Int → Nat → Nat → ARes} (hA : TabsOk n az) (hc : CallOk n az bz d call) (hd : n - s.length ≤ d + 1) {f2 s2 s1 l : List Int} {i y k x1 v1 x2 v2 q : Nat}
    (h : Lp n az bz f s x v f2 s2 (PrI az x i s1 y k)) (hx : x < n) (hy : y < n) (hym : (y : Int) ∈ s2) (hk : k < az.length) (hq : ix f2 y = (q : Int)) (ht : Two az bz n k x y v q x1 v1 x2 v2) (hs : s2 = s1 ++ l) :
    (∀ f3 s3, call f2 s2 x1 v1 = (false, f3, s3) → AsgR n az bz f s x v false f3 s3) ∧
    (∀ f3 s3, call f2 s2 x1 v1 = (true, f3, s3) → AsgR n az bz f2 s2 x1 v1 true f3 s3 ∧ ix f3 y = (q : Int) ∧ (∃ l, s3 = s1 ++ l) ∧ PartOk n f3 s3 ∧ n - s3.length ≤ d ∧
      (∀ f4 s4, call f3 s3 x2 v2 = (false, f4, s4) → AsgR n az bz f s x v false f4 s4) ∧
      (∀ f4 s4, call f3 s3 x2 v2 = (true, f4, s4) → Lp n az bz f s x v f4 s4 (PrI az x i s1 y (k + 1)) ∧ ∃ l, s4 = s1 ++ l)) := by
  have hfx : ix f2 x = (v : Int) := h.here
  have hlen := h.len
  have e2 : ent (tab bz k) (ix f2 x).toNat (ix f2 y).toNat = (v1 : Int) := by rw [hfx, hq]; exact ht.e2
  refine ⟨fun f3 s3 e => h.no hk hx hy (by omega) (by omega) ht.e1 e2 (hc _ _ _ _ _ _ _ (by omega) h.part ht.l1 ht.l2 e), fun f3 s3 e => ?_⟩
  have g := hc _ _ _ _ _ _ _ (by omega) h.part ht.l1 ht.l2 e
  have h3 := h.call hA hk hx hy (by omega) (by omega) ht.e1 e2 g
  have e3 : ix f3 y = (q : Int) := by rw [g.goes.2 y hy (by omega)]; exact hq
  have e3x : ix f3 x = (v : Int) := h3.here
  have hlen3 := h3.len
  have e4 : ent (tab bz k) (ix f3 y).toNat (ix f3 x).toNat = (v2 : Int) := by rw [e3, e3x]; exact ht.e4
  obtain ⟨l3, hl3⟩ := g.more
  refine ⟨g, e3, ⟨l ++ l3, by rw [hl3, hs]; simp⟩, h3.part, by omega, fun f4 s4 e' => h3.no hk hy hx (by omega) (by omega) ht.e3 e4 (hc _ _ _ _ _ _ _ (by omega) h3.part ht.l3 ht.l4 e'), fun f4 s4 e' => ?_⟩
  have g4 := hc _ _ _ _ _ _ _ (by omega) h3.part ht.l3 ht.l4 e'
  have h4 := h3.call hA hk hy hx (by omega) (by omega) ht.e3 e4 g4
  obtain ⟨l4, hl4⟩ := g4.more
  refine ⟨h4.mono fun k' a b hp => ?_, l ++ l3 ++ l4, by rw [hl4, hl3, hs]; simp⟩
  rcases hp with hp | ⟨hk', hp⟩
  · exact .inl (.inl (.inl hp))
  · by_cases e : k' < k
    · exact .inl (.inl (.inr ⟨e, hp⟩))
    · have : k' = k := by omega
      rcases hp with ⟨ha, hb⟩ | ⟨hb, ha⟩
      · exact .inl (.inr ⟨this, ha, hb⟩)
      · exact .inr ⟨this, ha, hb⟩
theorem tabs_ok {n d : Nat} {az bz : List (List (List Int))} {f s : List Int} {x v : Nat} {call : List Int → List Int → Nat → Nat → ARes} (hA : TabsOk n az) (hB : TabsOk n bz) (hab : az.length = bz.length) (hc : CallOk n az bz d call) (hd : n - s.length ≤ d + 1) (hx : x < n) (hv : v < n) {s1 : List Int} {i y : Nat} (hy : y < n) (hym : (y : Int) ∈ s1) :
    ∀ (m k : Nat) (f2 s2 l : List Int), m + k = az.length → Lp n az bz f s x v f2 s2 (PrI az x i s1 y k) → s2 = s1 ++ l → ∀ r f3 s3, tabsL call az bz x v y m k f2 s2 = (r, f3, s3) →
      (r = true → Lp n az bz f s x v f3 s3 (PrI az x i s1 y az.length) ∧ ∃ l, s3 = s1 ++ l) ∧ (r = false → AsgR n az bz f s x v false f3 s3)
  | 0, k, f2, s2, l, hk, h, hs, r, f3, s3, e => by
    rw [tabsL_zero] at e
    simp only [Prod.mk.injEq] at e
    obtain ⟨rfl, rfl, rfl⟩ := e
    obtain rfl : k = az.length := by omega
    exact ⟨fun _ => ⟨h, l, hs⟩, fun e => by cases e⟩
  | m + 1, k, f2, s2, l, hk, h, hs, r, f3, s3, e => by
    have hym2 : (y : Int) ∈ s2 := by rw [hs]; simp [hym]
    obtain ⟨q, hq⟩ : ∃ q : Nat, ix f2 y = (q : Int) := ⟨_, (Int.toNat_of_nonneg (h.mapped hy hym2).1).symm⟩
    have hqn : q < n := by have := (h.mapped hy hym2).2; omega
    obtain ⟨x1, v1, x2, v2, ht⟩ := two_of hA hB (k := k) (by omega) (by omega) hx hy hv hqn
    obtain ⟨b1, b2⟩ := h.both hA hc hd hx hy hym2 (by omega) hq ht hs
    have ev : ent (tab bz k) v (ix f2 y).toNat = (v1 : Int) := by rw [hq]; exact ht.e2
    rcases e1 : call f2 s2 x1 v1 with ⟨r1, f4, s4⟩
    cases r1 with
    | false =>
      rw [tabsL_one ht.e1 ev e1] at e
      simp only [Prod.mk.injEq] at e
      obtain ⟨rfl, rfl, rfl⟩ := e
      exact ⟨fun e => by (cases e), fun _ => b1 _ _ e1⟩
    | true =>
      obtain ⟨g, e3, -, -, -, c1, c2⟩ := b2 _ _ e1
      have ev2 : ent (tab bz k) (ix f4 y).toNat v = (v2 : Int) := by rw [e3]; exact ht.e4
      rcases e2 : call f4 s4 x2 v2 with ⟨r2, f5, s5⟩
      cases r2 with
      | false =>
        rw [tabsL_two ht.e1 ev e1 ht.e3 ev2 e2] at e
        simp only [Prod.mk.injEq] at e
        obtain ⟨rfl, rfl, rfl⟩ := e
        exact ⟨fun e => by (cases e), fun _ => c1 _ _ e2⟩
      | true =>
        rw [tabsL_go ht.e1 ev e1 ht.e3 ev2 e2] at e
        obtain ⟨h5, l5, hl5⟩ := c2 _ _ e2
        exact tabs_ok hA hB hab hc hd hx hv hy hym m (k + 1) f5 s5 l5 (by omega) h5 hl5 r f3 s3 e
theorem Lp.next {n : Nat} {az bz : List (List (List Int))} {f s : List Int} {x v : Nat} {f1 s1 : List Int} {i y : Nat} (h : Lp n az bz f s x v f1 s1 (PrO az x i s1)) : Lp n az bz f s x v f1 s1 (PrI az x i s1 y 0) := h.mono fun k a b hp => by
  rcases hp with hp | ⟨hk, _⟩
  · exact hp
  · omega
theorem Lp.over {n : Nat} {az bz : List (List (List Int))} {f s : List Int} {x v : Nat} {f2 s2 s1 l : List Int} {i y : Nat} (h : Lp n az bz f s x v f2 s2 (PrI az x i s1 y az.length)) (hi : i < s1.length) (hy : (ix s1 i).toNat = y) (hs : s2 = s1 ++ l) : Lp n az bz f s x v f2 s2 (PrO az x (i + 1) s2) := h.mono fun k a b hp => by
  rw [hs] at hp
  exact prO_succ hy (prO_app (by omega) hp)
theorem Lp.all {n : Nat} {az bz : List (List (List Int))} {f s : List Int} {x v : Nat} {f1 s1 : List Int} (h : Lp n az bz f s x v f1 s1 (PrO az x s1.length s1)) : AsgR n az bz f s x v true f1 s1 :=
  h.fin fun k hk j hj => ⟨⟨hk, j, hj, .inl ⟨rfl, rfl⟩⟩, ⟨hk, j, hj, .inr ⟨rfl, rfl⟩⟩⟩
theorem Lp.elem {n : Nat} {az bz : List (List (List Int))} {f s : List Int} {x v : Nat} {f1 s1 : List Int} {P : Nat → Nat → Nat → Prop} (h : Lp n az bz f s x v f1 s1 P) {i : Nat} (hi : i < s1.length) : ∃ y : Nat, ix s1 i = (y : Int) ∧ y < n ∧ (y : Int) ∈ s1 := by
  have := h.part.bd i hi
  refine ⟨(ix s1 i).toNat, (Int.toNat_of_nonneg this.1).symm, this.2, ?_⟩
  rw [Int.toNat_of_nonneg this.1]; exact ix_mem s1 i hi
theorem asgE_ok {n d : Nat} {az bz : List (List (List Int))} {f s : List Int} {x v : Nat} {call : List Int → List Int → Nat → Nat → ARes} (hA : TabsOk n az) (hB : TabsOk n bz) (hab : az.length = bz.length) (hc : CallOk n az bz d call) (hd : n - s.length ≤ d + 1) (hx : x < n) (hv : v < n) :
    ∀ (m i : Nat) (f1 s1 : List Int), n ≤ m + i → i ≤ s1.length → Lp n az bz f s x v f1 s1 (PrO az x i s1) → ∀ r f3 s3, asgE call az bz x v m i f1 s1 = (r, f3, s3) → AsgR n az bz f s x v r f3 s3
  | m, i, f1, s1, hm, hi, h, r, f3, s3, e => by
    by_cases hil : i < s1.length
    · have hle := h.part.le
      cases m with
      | zero => omega
      | succ m =>
        obtain ⟨y, hy, hyn, hym⟩ := h.elem hil
        have hyt : (ix s1 i).toNat = y := by omega
        rw [asgE_go hil, hyt] at e
        rcases e1 : tabsL call az bz x v y az.length 0 f1 s1 with ⟨r1, f4, s4⟩
        obtain ⟨g1, g2⟩ := tabs_ok hA hB hab hc hd hx hv hyn hym az.length 0 f1 s1 [] (by omega) h.next (by simp) _ _ _ e1
        rw [e1] at e
        cases r1 with
        | false =>
          rw [contL_no] at e
          simp only [Prod.mk.injEq] at e
          obtain ⟨rfl, rfl, rfl⟩ := e
          exact g2 rfl
        | true =>
          rw [contL_go] at e
          obtain ⟨h4, l4, hl4⟩ := g1 rfl
          exact asgE_ok hA hB hab hc hd hx hv m (i + 1) f4 s4 (by omega) (by rw [hl4]; simp; omega) (h4.over hil hyt hl4) r f3 s3 e
    · rw [asgE_end hil] at e
      simp only [Prod.mk.injEq] at e
      obtain ⟨rfl, rfl, rfl⟩ := e
      obtain rfl : i = s1.length := by omega
      exact h.all
theorem asgF_ok {n : Nat} {az bz : List (List (List Int))} (hA : TabsOk n az) (hB : TabsOk n bz) (hab : az.length = bz.length) : ∀ d, CallOk n az bz d (asgF n az bz d)
  | 0, f, s, x, v, r, f', s', hd, hp, hx, hv, e => by
    have h0 := hp.full (by omega) hx
    rw [asgF_old h0] at e
    simp only [Prod.mk.injEq] at e
    obtain ⟨rfl, rfl, rfl⟩ := e
    exact AsgR.old hp hx h0
  | d + 1, f, s, x, v, r, f', s', hd, hp, hx, hv, e => by
    by_cases h0 : 0 ≤ ix f x
    · rw [asgF_old h0] at e
      simp only [Prod.mk.injEq] at e
      obtain ⟨rfl, rfl, rfl⟩ := e
      exact AsgR.old hp hx h0
    · cases hu : hasB f v with
      | true =>
        rw [asgF_used (by omega) hu] at e
        simp only [Prod.mk.injEq] at e
        obtain ⟨rfl, rfl, rfl⟩ := e
        exact AsgR.used hp hx (by omega) hu
      | false =>
        rw [asgF_go (by omega) hu] at e
        exact asgE_ok hA hB hab (asgF_ok hA hB hab d) (by omega) hx hv n 0 _ _ (by omega) (by omega) ((Lp.start hp hx hv (by omega) hu).mono fun k a b hp => by
          obtain ⟨_, j, hj, _⟩ := hp
          omega) r f' s' e
attribute [irreducible] asgF tabsL asgE contL
end Go.Proofs.YthlafeefjonkdaaGreatDoor


namespace Go.Proofs.YthlafeefjonkdaaGreatDoor
set_option linter.unusedVariables false
set_option linter.unusedSimpArgs false

theorem AsgR.iff {n : Nat} {az bz : List (List (List Int))} {f s f' s' : List Int} {x v : Nat} (hf : PartOk n f s) (hx : x < n) (h : AsgR n az bz f s x v true f' s') (p : List Int) (hp : IsoOk n az bz p) : (ExtP f p ∧ ix p x = (v : Int)) ↔ ExtP f' p := by
  constructor
  · rintro ⟨h1, h2⟩; exact h.ext rfl p hp h1 h2
  · intro h1
    refine ⟨fun i hi h0 => ?_, ?_⟩
    · rw [hf.len] at hi
      have e := h.goes.2 i hi h0
      have := h1 i (by rw [h.part.len]; exact hi) (by omega)
      omega
    · have := h.here rfl
      rw [h1 x (by rw [h.part.len]; exact hx) (by omega), this]
theorem extL_yes {n : Nat} {az bz : List (List (List Int))} {f s f' s' : List Int} {x v : Nat} (hf : PartOk n f s) (hx : x < n) (h : AsgR n az bz f s x v true f' s') : ((extL n az bz f).filter fun p => decide (ix p x = (v : Int))) = extL n az bz f' := extL_at fun p hp => h.iff hf hx p hp
theorem extL_no {n : Nat} {az bz : List (List (List Int))} {f s f' s' : List Int} {x v : Nat} (h : AsgR n az bz f s x v false f' s') : ((extL n az bz f).filter fun p => decide (ix p x = (v : Int))) = [] := by
  rw [List.filter_eq_nil_iff]
  intro p hp
  obtain ⟨h1, h2⟩ := mem_extL.1 hp
  have := h.no rfl p h1 h2
  simpa using this
theorem extL_used {n : Nat} {az bz : List (List (List Int))} {f s : List Int} {x v : Nat} (hf : PartOk n f s) (hx : x < n) (h0 : ix f x < 0) (hu : hasB f v = true) : ((extL n az bz f).filter fun p => decide (ix p x = (v : Int))) = [] := extL_no (AsgR.used (az := az) (bz := bz) hf hx h0 hu)
theorem good_next {n : Nat} {az bz : List (List (List Int))} {f s f' s' : List Int} {x v : Nat} (hA : TabsOk n az) (hg : GoodAll az bz n f) (h : AsgR n az bz f s x v true f' s') : GoodAll az bz n f' := fun a ha b hb h1 h2 => by
  by_cases g1 : 0 ≤ ix f a
  · by_cases g2 : 0 ≤ ix f b
    · exact (hg a ha b hb g1 g2).goes hA h.goes ha hb g1 g2
    · exact fun k hk => (h.good rfl b hb a ha (by omega) h2 h1 k hk).2
  · exact fun k hk => (h.good rfl a ha b hb (by omega) h1 h2 k hk).1
theorem whole_one {n : Nat} {az bz : List (List (List Int))} {f s : List Int} (hf : PartOk n f s) (hg : GoodAll az bz n f) (h : indexOf f (-1) = -1) : IsoOk n az bz f ∧ extL n az bz f = [f] := by
  have hi : IsoOk n az bz f := iso_of_good hf (fun x hx => by
    rcases indexOf_spec f (-1) with ⟨_, hn⟩ | ⟨i, _, e, _⟩
    · have h1 := hn x (by rw [hf.len]; exact hx)
      have := (hf.rng x hx).1
      omega
    · omega) hg
  exact ⟨hi, extL_one hi⟩
theorem first_unset {n : Nat} {f s : List Int} (hf : PartOk n f s) (h : indexOf f (-1) ≠ -1) : ∃ x : Nat, x < n ∧ indexOf f (-1) = (x : Int) ∧ ix f x = -1 ∧ ∀ i, i < x → 0 ≤ ix f i := by
  rcases indexOf_spec f (-1) with ⟨e, _⟩ | ⟨x, hx, e, e2, hn⟩
  · exact absurd e h
  · rw [hf.len] at hx
    refine ⟨x, hx, e, e2, fun i hi => ?_⟩
    have h1 := hn i hi
    have := (hf.rng i (by omega)).1
    omega
theorem prefix_part {α : Type} {xs a b c L : List α} (h : xs ++ (a ++ b ++ c) <+: L) : (xs ++ a) ++ b <+: L := by
  obtain ⟨r, e⟩ := h
  exact ⟨c ++ r, by rw [← e]; simp⟩
theorem prefix_app {α : Type} {q b a c : List α} (h : q <+: b) : a ++ q <+: a ++ b ++ c := by
  obtain ⟨r, e⟩ := h
  exact ⟨r ++ c, by rw [← e]; simp⟩
end Go.Proofs.YthlafeefjonkdaaGreatDoor


namespace Go.Proofs.YthlafeefjonkdaaGreatDoor
set_option linter.unusedVariables false
set_option linter.unusedSimpArgs false

@[irreducible] noncomputable def bisoV (t u a d : List (List Int)) : List Int := if braceB t u = true ∧ braceB a d = true then isoF [t, u] [a, d] else []
@[irreducible] noncomputable def bisoC (t u a d : List (List Int)) : Int := if braceB t u = true ∧ braceB a d = true then (if isoF [t, u] [a, d] = [] then 4 else 0) else 1
theorem biso_1 {t u a d : List (List Int)} (h : ¬ (braceB t u = true ∧ braceB a d = true)) : bisoV t u a d = [] ∧ bisoC t u a d = 1 := by
  unfold bisoV bisoC; rw [if_neg h, if_neg h]; exact ⟨rfl, rfl⟩
theorem biso_2 {t u a d : List (List Int)} (h : braceB t u = true ∧ braceB a d = true) (h2 : isoF [t, u] [a, d] = []) : bisoV t u a d = [] ∧ bisoC t u a d = 4 := by
  unfold bisoV bisoC; rw [if_pos h, if_pos h, if_pos h2, h2]; exact ⟨rfl, rfl⟩
theorem biso_3 {t u a d : List (List Int)} (h : braceB t u = true ∧ braceB a d = true) (h2 : ¬ isoF [t, u] [a, d] = []) : bisoV t u a d = isoF [t, u] [a, d] ∧ bisoC t u a d = 0 := by
  unfold bisoV bisoC; rw [if_pos h, if_pos h, if_neg h2]; exact ⟨rfl, rfl⟩
theorem biso_cases {t u a d : List (List Int)} (h : GroupOk t) : ((if t.length = a.length then (isoL t.length [t, u] [a, d]).take 1 else []) = [] ∧ isoF [t, u] [a, d] = []) ∨
    ∃ p, (if t.length = a.length then (isoL t.length [t, u] [a, d]).take 1 else []) = [p] ∧ isoF [t, u] [a, d] = p ∧ 0 < p.length := by
  by_cases hl : t.length = a.length
  · rw [if_pos hl]
    cases hi : isoL t.length [t, u] [a, d] with
    | nil => exact .inl ⟨rfl, isoF_nil (n := t.length) (by rw [tab_two0]) hi⟩
    | cons p r => exact .inr ⟨p, rfl, isoF_cons (n := t.length) (by rw [tab_two0]) (by rw [tab_two0]; exact hl.symm) hi, (isoF_ne h.1.1 hi).2⟩
  · rw [if_neg hl]
    exact .inl ⟨rfl, isoF_len (by rw [tab_two0, tab_two0]; exact hl)⟩
end Go.Proofs.YthlafeefjonkdaaGreatDoor


namespace Go.Proofs.YthlafeefjonkdaaGreatDoor
set_option linter.unusedVariables false
set_option linter.unusedSimpArgs false
open Go.RowKit

theorem GrowI.cut {e base : Nat} {w : World} {a : Option Addr} {c : Nat} {l : List Int} (h : GrowI e base w (.slice a l.length c) l) {k : Nat} (hk : k ≤ l.length) : GrowI e base w (.slice a k c) (l.take k) := by
  refine ⟨by simp, ?_⟩
  have hl : (l.take k).length = k := by simp; omega
  rw [hl]
  rcases h.2 with ⟨hv, hn⟩ | ⟨g, cap, cur, hv, hb, hg, hnc, hm, hcs, htake⟩
  · simp only [Value.slice.injEq] at hv
    obtain ⟨rfl, -, rfl⟩ := hv
    exact .inl ⟨by rw [show k = 0 by omega], by omega⟩
  · simp only [Value.slice.injEq, true_and] at hv
    obtain ⟨rfl, rfl⟩ := hv
    refine .inr ⟨g, c, cur, rfl, hb, hg, by omega, hm, hcs, ?_⟩
    have := congrArg (List.take (k * 1)) htake
    rw [List.take_take, Nat.mul_one, Nat.mul_one, Nat.min_eq_left hk] at this
    rw [Nat.mul_one, this, List.map_take]
theorem GrowI.room {e base : Nat} {w : World} {a : Option Addr} {c : Nat} {l : List Int} (h : GrowI e base w (.slice a l.length c) l) : l.length ≤ c := by
  rcases h.2 with ⟨hv, hn⟩ | ⟨g, cap, cur, hv, hb, hg, hnc, hm, hcs, htake⟩
  · omega
  · simp only [Value.slice.injEq, true_and] at hv
    obtain ⟨-, rfl⟩ := hv
    exact hnc
end Go.Proofs.YthlafeefjonkdaaGreatDoor


namespace Go.Proofs.YthlafeefjonkdaaGreatDoor
set_option linter.unusedVariables false
set_option linter.unusedSimpArgs false
open Go.RowKit
open Go.Deep

structure MapSt (base : Nat) (w : World) (M I U : Nat) (v u : Value) (n : Nat) (f s : List Int) (sv : Value) : Prop where
  c0 : w.cell? ⟨M, 0, none⟩ = some v
  c1 : w.cell? ⟨M, 1, none⟩ = some u
  c2 : w.cell? ⟨M, 2, none⟩ = some (.slice (some ⟨I, 0, none⟩) n n)
  c3 : w.cell? ⟨M, 3, none⟩ = some (.slice (some ⟨U, 0, none⟩) n n)
  c4 : w.cell? ⟨M, 4, none⟩ = some sv
  fr : w.frozen? ⟨M, 4, none⟩ = false
  img : w.rowIs I 2 n (fun i => .int .i64 (ix f i))
  usd : w.rowIs U 4 n (fun i => .bool (hasB f i))
  set : GrowI 2 base w sv s
  apart : M ≠ I ∧ M ≠ U ∧ I ≠ U ∧ ∀ g, sv.ownBlock = some g → g ≠ M ∧ g ≠ I ∧ g ≠ U
  low : base ≤ M ∧ base ≤ I ∧ base ≤ U
theorem MapSt.ext {base : Nat} {w w' : World} {M I U : Nat} {v u : Value} {n : Nat} {f s : List Int} {sv : Value} (h : MapSt base w M I U v u n f s sv) (hM : M < w.heap.size) (hx : Ext w w') : MapSt base w' M I U v u n f s sv where
  c0 := hx.cell h.c0
  c1 := hx.cell h.c1
  c2 := hx.cell h.c2
  c3 := hx.cell h.c3
  c4 := hx.cell h.c4
  fr := hx.free h.fr hM
  img := h.img.of_block (Below.block hx I h.img.lt)
  usd := h.usd.of_block (Below.block hx U h.usd.lt)
  set := h.set.ext hx
  apart := h.apart
  low := h.low
theorem GrowI.setOff {e base : Nat} {w : World} {v : Value} {l : List Int} (h : GrowI e base w v l) {a : Addr} (ha : ∀ g, v.ownBlock = some g → g ≠ a.block) (u : Value) : GrowI e base (w.setCell a u) v l := by
  refine ⟨h.1, ?_⟩
  rcases h.2 with hn | ⟨g, cap, cur, rfl, hb, hg, rest⟩
  · exact .inl hn
  · exact .inr ⟨g, cap, cur, rfl, hb, (blk_setCell_other _ _ _ _ (ha g rfl)).trans hg, rest⟩
theorem MapSt.cut {base : Nat} {w : World} {M I U S : Nat} {v u : Value} {n c k : Nat} {f s : List Int} (h : MapSt base w M I U v u n f s (.slice (some ⟨S, 0, none⟩) s.length c)) (hk : k ≤ s.length) :
    MapSt base (w.setCell ⟨M, 4, none⟩ (.slice (some ⟨S, 0, none⟩) k c)) M I U v u n f (s.take k) (.slice (some ⟨S, 0, none⟩) k c) where
  c0 := kc_set2 (by simp) h.c0
  c1 := kc_set2 (by simp) h.c1
  c2 := kc_set2 (by simp) h.c2
  c3 := kc_set2 (by simp) h.c3
  c4 := kc_same h.c4
  fr := kf_set h.fr
  img := h.img.setOther (fun e => h.apart.1 e.symm) _
  usd := h.usd.setOther (fun e => h.apart.2.1 e.symm) _
  set := (h.set.cut hk).setOff (fun g hg => (h.apart.2.2.2 g hg).1) _
  apart := ⟨h.apart.1, h.apart.2.1, h.apart.2.2.1, fun g hg => h.apart.2.2.2 g hg⟩
  low := h.low
end Go.Proofs.YthlafeefjonkdaaGreatDoor


namespace Go.Proofs.YthlafeefjonkdaaGreatDoor
set_option linter.unusedVariables false
set_option linter.unusedSimpArgs false
open Go.RowKit
attribute [local go_sem ↓] Go.wp_at_zero Go.wp_at_succ

open Go.Deep
structure Only (p : Nat → Prop) (w w' : World) : Prop where
  os : w'.os = w.os
  tape : w'.tape = w.tape
  output : w'.output = w.output
  size : w.heap.size ≤ w'.heap.size
  keep : ∀ k, k < w.heap.size → ¬ p k → w'.heap[k]? = w.heap[k]?
theorem Only.refl (p : Nat → Prop) (w : World) : Only p w w := ⟨rfl, rfl, rfl, Nat.le_refl _, fun _ _ _ => rfl⟩
theorem only_set {p : Nat → Prop} {w : World} {a : Addr} (h : p a.block) (v : Value) : Only p w (w.setCell a v) :=
  have hb := Below.setCell (Below.refl 0 w) (p := a) (Nat.zero_le _) v
  ⟨hb.os, hb.tape, hb.output, hb.size, fun k _ hn => blk_setCell_other _ _ _ _ (fun e => hn (by rw [e]; exact h))⟩
theorem Only.trans {p : Nat → Prop} {a b c : World} (h : Only p a b) (k : Only p b c) : Only p a c := ⟨k.os.trans h.os, k.tape.trans h.tape, k.output.trans h.output, Nat.le_trans h.size k.size, fun i hi hn => (k.keep i (Nat.lt_of_lt_of_le hi h.size) hn).trans (h.keep i hi hn)⟩
theorem only_drew (p : Nat → Prop) (w : World) : Only p w w.drew := ⟨rfl, rfl, rfl, Nat.le_refl _, fun _ _ _ => rfl⟩
theorem MapSt.img_lt {base : Nat} {w : World} {M I U : Nat} {v u : Value} {n : Nat} {f s : List Int} {sv : Value} (h : MapSt base w M I U v u n f s sv) : M < w.heap.size := World.block_lt_of_cell? _ _ h.c0
theorem PartF.clearL {n : Nat} : ∀ (l f : List Int), PartF n f → (∀ z, z ∈ l → 0 ≤ z ∧ z.toNat < n) → PartF n (clearL f l)
  | [], f, h, _ => by rw [clearL_nil]; exact h
  | x :: l, f, h, hb => by
    rw [clearL_cons]
    exact PartF.clearL l _ (h.clear (hb x (by simp)).2) (fun z hz => hb z (by simp [hz]))
theorem MapSt.clear {base : Nat} {w : World} {M I U : Nat} {v u : Value} {n : Nat} {g s : List Int} {sv : Value} (h : MapSt base w M I U v u n g s sv) (hg : PartF n g) {x y : Nat} (hx : x < n) (hy : ix g x = (y : Int)) :
    MapSt base ((w.setCell ⟨U, y, none⟩ (.bool false)).setCell ⟨I, x, none⟩ (.int .i64 (-1))) M I U v u n (g.set x (-1)) s sv where
  c0 := kc_set (fun e => h.apart.1 e) (kc_set (fun e => h.apart.2.1 e) h.c0)
  c1 := kc_set (fun e => h.apart.1 e) (kc_set (fun e => h.apart.2.1 e) h.c1)
  c2 := kc_set (fun e => h.apart.1 e) (kc_set (fun e => h.apart.2.1 e) h.c2)
  c3 := kc_set (fun e => h.apart.1 e) (kc_set (fun e => h.apart.2.1 e) h.c3)
  c4 := kc_set (fun e => h.apart.1 e) (kc_set (fun e => h.apart.2.1 e) h.c4)
  fr := kf_set (kf_set h.fr)
  img := ((h.img.setOther (fun e => h.apart.2.2.1 e) _).set x _).congr fun i hi => by
    by_cases e : i = x
    · subst e; rw [if_pos rfl, ix_set_same _ _ _ (by rw [hg.1]; exact hx)]
    · rw [if_neg e, ix_set_other _ _ _ _ e]
  usd := ((h.usd.set y _).setOther (fun e => h.apart.2.2.1 e.symm) _).congr fun i hi => by
    have := hasB_clear hg hx (by omega) i
    rw [hy, Int.toNat_natCast] at this
    rw [this]
    by_cases e : i = y
    · rw [if_pos e, if_pos e]
    · rw [if_neg e, if_neg e]
  set := (h.set.setOff (fun g hg => (h.apart.2.2.2 g hg).2.2) _).setOff (fun g hg => (h.apart.2.2.2 g hg).2.1) _
  apart := h.apart
  low := h.low

set_option maxRecDepth 100000 in
set_option maxHeartbeats 2000000 in
theorem undo_any (base M I U : Nat) (v u : Value) (n : Nat) (f s : List Int) (S c k : Nat) (w : World) (h : MapSt base w M I U v u n f s (.slice (some ⟨S, 0, none⟩) s.length c)) (hF : PartOk n f s) (hk : k < s.length) (h12 : n ≤ 12) :
    Calls Tryz.prog 75 #[.pointer (some ⟨M, 0, none⟩), .int .i64 k] w fun e w' => (∃ r, e = .returned r) ∧ MapSt base w' M I U v u n (clearL f (s.drop k)) (s.take k) (.slice (some ⟨S, 0, none⟩) k c) ∧ Only (fun b => b = M ∨ b = I ∨ b = U) w w' := by
  have c2 := h.c2
  have c3 := h.c3
  have c4 := h.c4
  have hroom := h.set.room
  have hkc : k < c := by omega
  have hsn := hF.le
  go_enter Tryz.func75, Tryz.ntmps75
  go_wp2_with fail
  go_loopw [13] (fun x wr => ∃ j : Nat, j ≤ s.length - k ∧ x = .int .i64 j ∧ MapSt base wr M I U v u n (clearL f ((s.drop k).take j)) s (.slice (some ⟨S, 0, none⟩) s.length c) ∧ Only (fun b => b = M ∨ b = I ∨ b = U) w wr) (fun x _ => s.length - k - (intOf x).toNat)
  case atStart => exact ⟨0, by omega, rfl, by rw [List.take_zero, clearL_nil]; exact h, Only.refl _ _⟩
  case round =>
    obtain ⟨j, hj, rfl, hm, ho⟩ := hrel
    by_cases hjl : j < s.length - k
    · have hx0 := hF.bd (k + j) (by omega)
      obtain ⟨x, hx⟩ : ∃ x : Nat, ix s (k + j) = (x : Int) := ⟨_, (Int.toNat_of_nonneg hx0.1).symm⟩
      have hxn : x < n := by omega
      have q0 : wr.cell? ⟨S, k + j, none⟩ = some (.int .i64 x) := by
        have := World.ownsRow.cellAt hm.set (k + j) (by omega)
        rw [this, ← hx, ix_eq]
        simp [List.getD, show k + j < s.length by omega]
      have hjlt : k + j < s.length := by omega
      have hnot : (x : Int) ∉ (s.drop k).take j := fun hmem => by
        obtain ⟨i, hi, e⟩ := mem_ix hmem
        have hi2 : i < j := by simp at hi; omega
        have e2 : ix ((s.drop k).take j) i = ix s (k + i) := by
          rw [ix_eq, ix_eq]; simp [List.getD, List.getElem?_take, hi2]
        have hnd := distinct_of_nodup s hF.nodup (k + j) hjlt (k + i) (by omega)
        exact hnd (by rw [← e2, e, hx])
      have hnn : ∀ z, z ∈ (s.drop k).take j → 0 ≤ z := fun z hz => by
        obtain ⟨i, hi, e⟩ := mem_ix (List.mem_of_mem_drop (List.mem_of_mem_take hz))
        have := (hF.bd i hi).1
        omega
      have hbd : ∀ z, z ∈ (s.drop k).take j → 0 ≤ z ∧ z.toNat < n := fun z hz => by
        obtain ⟨i, hi, e⟩ := mem_ix (List.mem_of_mem_drop (List.mem_of_mem_take hz))
        have := hF.bd i hi
        omega
      have hfx : ix (clearL f ((s.drop k).take j)) x = ix f x := clearL_not _ _ _ hnn hnot
      have hmx : (x : Int) ∈ s := by rw [← hx]; exact ix_mem s _ hjlt
      have hf0 : 0 ≤ ix f x := (hF.mem x hxn).1 hmx
      have hfr := hF.rng x hxn
      obtain ⟨y, hy⟩ : ∃ y : Nat, ix f x = (y : Int) := ⟨_, (Int.toNat_of_nonneg hf0).symm⟩
      have hyn : y < n := by omega
      have q2 := hm.c2
      have q3 := hm.c3
      have q5 := hm.img.cell hxn
      rw [hfx, hy] at q5
      have f5 := hm.img.frozen x
      have q6 := hm.usd.cell hyn
      have f6 := hm.usd.frozen y
      have hnext : (s.drop k).take (j + 1) = (s.drop k).take j ++ [(x : Int)] := by
        rw [List.take_succ_eq_append_getElem (by simp; omega)]
        congr 2
        rw [ix_eq] at hx
        simp [List.getD, hjlt] at hx
        simpa using hx
      have HM := Lib.hid hm
      have HO := Lib.hid ho
      have HNX := Lib.hid hnext
      have HFX := Lib.hid (hfx.trans hy)
      have hMI : M ≠ I := hm.apart.1
      have hMU : M ≠ U := hm.apart.2.1
      have hIU : I ≠ U := hm.apart.2.2.1
      clear hm ho hnext hfx hnn hnot hmx hf0 hfr hx0
      have hpf := PartF.clearL ((s.drop k).take j) f hF.toF hbd
      have HPF := Lib.hid hpf
      clear hpf
      go_wp2_with fail
      go_still_tail 12, (by kernel_rfl)
      change wpList _ _ _ _ _ wr.drew
      have HMd := Lib.hid (HM.out.ext HM.out.img_lt (Ext.refl wr).drew)
      have HOd := Lib.hid (show Only (fun b => b = M ∨ b = I ∨ b = U) w wr.drew from HO.out.trans (only_drew _ _))
      have q2' := kc_drew q2
      have q5' := kc_drew q5
      have q6' := kc_drew q6
      have f5' : wr.drew.frozen? ⟨I, x, none⟩ = false := f5
      have f6' : wr.drew.frozen? ⟨U, y, none⟩ = false := f6
      clear HM HO q0 q2 q3 q5 q6 f5 f6
      generalize wr.drew = w6 at *
      go_wp2_with fail
      go_roundw
      case rel => exact ⟨j + 1, by omega, by go_num, by rw [HNX.out, clearL_snoc]; exact HMd.out.clear HPF.out hxn HFX.out, (HOd.out.trans (only_set (.inr (.inr rfl)) _)).trans (only_set (.inr (.inl rfl)) _)⟩
      case measure => simp [intOf]; omega
    · have hj2 : j = s.length - k := by omega
      subst hj2
      have q4 := hm.c4
      have f4 := hm.fr
      have HM := Lib.hid hm
      have HO := Lib.hid ho
      clear hm ho
      go_wp2
      go_end0
      have e1 : (s.drop k).take (s.length - k) = s.drop k := List.take_of_length_le (by simp)
      have hm := HM.out
      rw [e1] at hm
      exact ⟨⟨_, rfl⟩, hm.cut (by omega), HO.out.trans (only_set (.inl rfl) _)⟩

end Go.Proofs.YthlafeefjonkdaaGreatDoor


namespace Go.Proofs.YthlafeefjonkdaaGreatDoor
set_option linter.unusedVariables false
set_option linter.unusedSimpArgs false
open Go.RowKit
open Go.Deep

def TabsIn (base : Nat) (X : Nat → Prop)  (w : World) (b o n : Nat) (ts : List (List (List Int))) : Prop := b < base ∧ ¬ X b ∧ ∀ k, k < ts.length →
  ∃ b1 o1 c1, b1 < base ∧ ¬ X b1 ∧ w.cell? ⟨b, o + k, none⟩ = some (.slice (some ⟨b1, o1, none⟩) n c1) ∧ ∀ x, x < n →
    ∃ b2 o2 c2, b2 < base ∧ ¬ X b2 ∧ w.cell? ⟨b1, o1 + x, none⟩ = some (.slice (some ⟨b2, o2, none⟩) n c2) ∧ ∀ y, y < n → w.cell? ⟨b2, o2 + y, none⟩ = some (.int .i64 (ent (tab ts k) x y))
def KeepB (base : Nat) (X : Nat → Prop)  (w w' : World) : Prop := ∀ k, k < base → ¬ X k → w'.heap[k]? = w.heap[k]?
theorem KeepB.trans {base : Nat} {X : Nat → Prop}  {a b c : World} (h : KeepB base X a b) (k : KeepB base X b c) : KeepB base X a c := fun i h1 h2 => (k i h1 h2).trans (h i h1 h2)
theorem KeepB.cell {base : Nat} {X : Nat → Prop}  {w w' : World} (h : KeepB base X w w') {b o : Nat} {v : Value} (h1 : b < base) (h2 : ¬ X b) (hc : w.cell? ⟨b, o, none⟩ = some v) : w'.cell? ⟨b, o, none⟩ = some v := by
  rw [World.cell?_of_block (w := w) (a := ⟨b, o, none⟩) (h b h1 h2)]; exact hc
theorem TabsIn.keep {base : Nat} {X : Nat → Prop}  {w w' : World} {b o n : Nat} {ts : List (List (List Int))} (h : TabsIn base X w b o n ts) (hk : KeepB base X w w') : TabsIn base X w' b o n ts := by
  obtain ⟨h1, h2, h3⟩ := h
  refine ⟨h1, h2, fun k hkl => ?_⟩
  obtain ⟨b1, o1, c1, g1, g2, g3, g4⟩ := h3 k hkl
  refine ⟨b1, o1, c1, g1, g2, hk.cell h1 h2 g3, fun x hx => ?_⟩
  obtain ⟨b2, o2, c2, k1, k2, k3, k4⟩ := g4 x hx
  exact ⟨b2, o2, c2, k1, k2, hk.cell g1 g2 k3, fun y hy => hk.cell k1 k2 (k4 y hy)⟩

def OwnP (M I U : Nat) (sv : Value) (b : Nat) : Prop := b = M ∨ b = I ∨ b = U ∨ sv.ownBlock = some b
def OwnsAt (vo vo' : Value) (w : World) : Prop := vo'.ownBlock = vo.ownBlock ∨ ∃ g, vo'.ownBlock = some g ∧ w.heap.size ≤ g
theorem OwnsAt.refl (v : Value) (w : World) : OwnsAt v v w := .inl rfl
theorem Only.mono {p q : Nat → Prop} {w w' : World} (h : Only p w w') (hpq : ∀ k, k < w.heap.size → p k → q k) : Only q w w' := ⟨h.os, h.tape, h.output, h.size, fun k hk hn => h.keep k hk (fun e => hn (hpq k hk e))⟩
theorem OwnsAt.trans {a b c : Value} {w w' : World} (h : OwnsAt a b w) (k : OwnsAt b c w') (hs : w.heap.size ≤ w'.heap.size) : OwnsAt a c w := by
  rcases k with e | ⟨g, e, hg⟩
  · rcases h with e2 | ⟨g, e2, hg⟩
    · exact .inl (e.trans e2)
    · exact .inr ⟨g, e.trans e2, hg⟩
  · exact .inr ⟨g, e, by omega⟩
theorem Only.next {M I U : Nat} {sv sv1 : Value} {w w1 w2 : World} (h : Only (OwnP M I U sv) w w1) (ha : OwnsAt sv sv1 w) (k : Only (OwnP M I U sv1) w1 w2) : Only (OwnP M I U sv) w w2 :=
  ⟨k.os.trans h.os, k.tape.trans h.tape, k.output.trans h.output, Nat.le_trans h.size k.size, fun i hi hn => (k.keep i (Nat.lt_of_lt_of_le hi h.size) (fun e => by
    rcases e with e | e | e | e
    · exact hn (.inl e)
    · exact hn (.inr (.inl e))
    · exact hn (.inr (.inr (.inl e)))
    · rcases ha with e2 | ⟨g, e2, hg⟩
      · exact hn (.inr (.inr (.inr (e2 ▸ e))))
      · rw [e2] at e
        injection e with e
        omega)).trans (h.keep i hi hn)⟩
theorem Only.ext {p : Nat → Prop} {w w' : World} (h : Ext w w') : Only p w w' := ⟨h.os, h.tape, h.output, h.size, fun k hk _ => h.block k hk⟩
theorem Only.keepB {p : Nat → Prop} {base : Nat} {X : Nat → Prop}  {w w' : World} (h : Only p w w') (hp : ∀ k, p k → base ≤ k) (hb : base ≤ w.heap.size) : KeepB base X w w' := fun k h1 _ => h.keep k (by omega) (fun e => by have := hp k e; omega)
theorem MapSt.ownLow {base : Nat} {w : World} {M I U : Nat} {v u : Value} {n : Nat} {f s : List Int} {sv : Value} (h : MapSt base w M I U v u n f s sv) : ∀ k, OwnP M I U sv k → base ≤ k := fun k e => by
  obtain ⟨l1, l2, l3⟩ := h.low
  rcases e with rfl | rfl | rfl | e
  · exact l1
  · exact l2
  · exact l3
  · exact (h.set.lt e).1
theorem MapSt.size {base : Nat} {w : World} {M I U : Nat} {v u : Value} {n : Nat} {f s : List Int} {sv : Value} (h : MapSt base w M I U v u n f s sv) : base ≤ w.heap.size := by
  have := h.img_lt
  have := h.low.1
  omega
theorem MapSt.drew {base : Nat} {w : World} {M I U : Nat} {v u : Value} {n : Nat} {f s : List Int} {sv : Value} (h : MapSt base w M I U v u n f s sv) : MapSt base w.drew M I U v u n f s sv := h.ext h.img_lt (Ext.refl w).drew
theorem MapSt.put {base : Nat} {w : World} {M I U : Nat} {v u : Value} {n : Nat} {g s : List Int} {sv : Value} (h : MapSt base w M I U v u n g s sv) (hl : g.length = n) {x q : Nat} (hx : x < n) (hf : ix g x < 0) :
    MapSt base ((w.setCell ⟨I, x, none⟩ (.int .i64 (q : Int))).setCell ⟨U, q, none⟩ (.bool true)) M I U v u n (g.set x (q : Int)) s sv where
  c0 := kc_set (fun e => h.apart.2.1 e) (kc_set (fun e => h.apart.1 e) h.c0)
  c1 := kc_set (fun e => h.apart.2.1 e) (kc_set (fun e => h.apart.1 e) h.c1)
  c2 := kc_set (fun e => h.apart.2.1 e) (kc_set (fun e => h.apart.1 e) h.c2)
  c3 := kc_set (fun e => h.apart.2.1 e) (kc_set (fun e => h.apart.1 e) h.c3)
  c4 := kc_set (fun e => h.apart.2.1 e) (kc_set (fun e => h.apart.1 e) h.c4)
  fr := kf_set (kf_set h.fr)
  img := ((h.img.set x _).setOther (fun e => h.apart.2.2.1 e) _).congr fun i hi => by
    by_cases e : i = x
    · subst e; rw [if_pos rfl, ix_set_same _ _ _ (by rw [hl]; exact hx)]
    · rw [if_neg e, ix_set_other _ _ _ _ e]
  usd := ((h.usd.setOther (fun e => h.apart.2.2.1 e.symm) _).set q _).congr fun i hi => by
    rw [hasB_set hl hx hf]
    by_cases e : i = q
    · rw [if_pos e, if_pos e]
    · rw [if_neg e, if_neg e]
  set := (h.set.setOff (fun g hg => (h.apart.2.2.2 g hg).2.1) _).setOff (fun g hg => (h.apart.2.2.2 g hg).2.2) _
  apart := h.apart
  low := h.low
theorem only_put {M I U : Nat} {sv : Value} {w : World} (x q : Nat) (a b : Value) : Only (OwnP M I U sv) w ((w.setCell ⟨I, x, none⟩ a).setCell ⟨U, q, none⟩ b) := (only_set (.inr (.inl rfl)) _).trans (only_set (.inr (.inr (.inl rfl))) _)
theorem only_put2 {M I U : Nat} {sv : Value} {w : World} (x q : Nat) (a b : Value) : Only (OwnP M I U sv) w ((w.setCell ⟨U, q, none⟩ b).setCell ⟨I, x, none⟩ a) := (only_set (.inr (.inr (.inl rfl))) _).trans (only_set (.inr (.inl rfl)) _)
theorem MapSt.app {base : Nat} {w w' : World} {M I U : Nat} {v u : Value} {n : Nat} {f s s' : List Int} {sv sv' : Value} {o : Obj} (h : MapSt base w M I U v u n f s sv) (hg : (w.alloc o).grownBy w' sv.ownBlock) (hs : GrowI 2 base w' sv' s') (hat : sv'.ownBlock = sv.ownBlock ∨ sv'.ownBlock = some (w.heap.size + 1)) :
    MapSt base (w'.setCell ⟨M, 4, none⟩ sv') M I U v u n f s' sv' := by
  have hx := h.ext h.img_lt ((Ext.refl w).alloc o)
  have hz : (w.alloc o).heap.size = w.heap.size + 1 := by simp
  have nM : M ≠ w.heap.size + 1 := by have := hx.img_lt; omega
  have nI : I ≠ w.heap.size + 1 := by have := hx.img.lt; omega
  have nU : U ≠ w.heap.size + 1 := by have := hx.usd.lt; omega
  have kM : some M ≠ sv.ownBlock := fun e => (h.apart.2.2.2 M e.symm).1 rfl
  have kI : some I ≠ sv.ownBlock := fun e => (h.apart.2.2.2 I e.symm).2.1 rfl
  have kU : some U ≠ sv.ownBlock := fun e => (h.apart.2.2.2 U e.symm).2.2 rfl
  have ap : ∀ g, sv'.ownBlock = some g → g ≠ M ∧ g ≠ I ∧ g ≠ U := fun g e => by
    rcases hat with e2 | e2
    · rw [e2] at e; exact h.apart.2.2.2 g e
    · rw [e2] at e; injection e with e
      subst e
      exact ⟨nM.symm, nI.symm, nU.symm⟩
  exact {
    c0 := kc_set2 (by simp) (hg.cell hx.c0 kM)
    c1 := kc_set2 (by simp) (hg.cell hx.c1 kM)
    c2 := kc_set2 (by simp) (hg.cell hx.c2 kM)
    c3 := kc_set2 (by simp) (hg.cell hx.c3 kM)
    c4 := kc_same (hg.cell hx.c4 kM)
    fr := kf_set (by
      have e := hg.block M hx.img_lt kM
      rw [World.frozen?_of_block (w := w.alloc o) (a := ⟨M, 4, none⟩) e]; exact hx.fr)
    img := (hx.img.of_block (hg.block I hx.img.lt kI)).setOther (fun e => h.apart.1 e.symm) _
    usd := (hx.usd.of_block (hg.block U hx.usd.lt kU)).setOther (fun e => h.apart.2.1 e.symm) _
    set := hs.setOff (fun g hg => (ap g hg).1) _
    apart := ⟨h.apart.1, h.apart.2.1, h.apart.2.2.1, ap⟩
    low := h.low }
theorem only_app {w w' : World} {M I U : Nat} {sv : Value} {o : Obj} (hg : (w.alloc o).grownBy w' sv.ownBlock) (x : Value) : Only (OwnP M I U sv) w (w'.setCell ⟨M, 4, none⟩ x) :=
  (Only.trans ⟨hg.os.trans rfl, hg.tape.trans rfl, hg.output.trans rfl, by have := hg.size; simp at this; omega, fun k hk hn => (hg.block k (by simp; omega) (fun e => hn (.inr (.inr (.inr e.symm))))).trans (Below.heap_alloc w o k hk)⟩ (only_set (.inl rfl) _))
theorem MapSt.row {base : Nat} {w : World} {M I U : Nat} {v u : Value} {n : Nat} {f s : List Int} {sv : Value} (h : MapSt base w M I U v u n f s sv) (hs : 0 < s.length) : ∃ S c, sv = .slice (some ⟨S, 0, none⟩) s.length c ∧ IntsAt w S 0 s := by
  obtain ⟨b, c, rfl, ho⟩ := h.set.own (fun e => by
    rcases h.set.2 with ⟨-, hn⟩ | ⟨g, cap, cur, rfl, _⟩
    · omega
    · simp at e)
  exact ⟨b, c, rfl, ho.2.2.1⟩
end Go.Proofs.YthlafeefjonkdaaGreatDoor
