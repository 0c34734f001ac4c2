/-
  From the reading of an argument of bytes to what the walks are told of it.
-/
import Derived.ProofKit
import Derived.OpenShut
import Derived.ChangeSlices
import Derived.Deep.Matrix
import Derived.Lib.SmallJoins
import Derived.Test.YthlafeefjonkdaaGreatDoorJx25
namespace Go.Proofs.YthlafeefjonkdaaGreatDoor
set_option linter.unusedVariables false
set_option linter.unusedSimpArgs false
open Go.RowKit Go.ChangeShapes Go.WideShapes Go.ChangeAt Go.Joins

theorem bytesR_of_trod {H : Type} {enc : TypeId × Value → H} {P : Program} {w : World} {base : Nat} {held : Bool} {t e : TypeId} {fuel : Nat} {c : Value} {x : DataW H × List MemPlace} (ht : P.underlying t = some (.slice e)) (he : P.underlying e = some (.int .u8)) (ce : P.cellsOf e = 1)
    (h : DataW.trod enc P w base (fun _ => true) held fuel t [c] = some x) : ∃ bs : List Int, BytesR w c bs := by
  rcases open_ints ht he ce h with ⟨hcs, _⟩ | ⟨a, len, cap, zs, hcs, _, hl, hm, hz, _, hcell, hwf⟩
  · simp at hcs
    subst hcs
    exact ⟨[], none, 0, rfl, fun i hi => by simp at hi, fun h => absurd rfl h⟩
  · simp at hcs
    subst hcs
    rw [if_pos rfl] at hz
    have hlen : (zs.take len).length = len := by rw [List.length_take]; omega
    have hix : ∀ i, i < len → ix (zs.take len) i = zs.getD i 0 := fun i hi => by rw [ix_eq]; simp [List.getD, List.getElem?_take, hi]
    refine ⟨zs.take len, some a, cap, by rw [hlen], fun i hi => ?_, fun hne => ?_⟩
    · rw [hlen] at hi
      rw [hix i hi]
      have hm : zs.getD i 0 ∈ zs := by
        rw [List.getD_eq_getElem?_getD, List.getElem?_eq_getElem (by omega)]
        exact List.getElem_mem _
      exact bounds_u8 (hwf _ hm)
    · have hpos : 0 < len := by
        rcases Nat.eq_zero_or_pos len with h0 | h0
        · subst h0; exact absurd (by simp) hne
        · exact h0
      obtain ⟨b, o, rfl, hc⟩ := ints_at hcell (by omega)
      refine ⟨b, o, rfl, fun i hi => ?_⟩
      rw [hlen] at hi
      rw [hix i hi]
      exact hc i (by omega)
end Go.Proofs.YthlafeefjonkdaaGreatDoor


namespace Go.Proofs.YthlafeefjonkdaaGreatDoor
set_option linter.unusedVariables false
set_option linter.unusedSimpArgs false

@[irreducible] noncomputable def lbA (t u : List (List Int)) : List (List Int) := if braceB t u = true ∧ t.length ≤ 7 then (leastP t u).1 else []
@[irreducible] noncomputable def lbB (t u : List (List Int)) : List (List Int) := if braceB t u = true ∧ t.length ≤ 7 then (leastP t u).2 else []
@[irreducible] noncomputable def lbC (t u : List (List Int)) : Int := if braceB t u = true then (if t.length ≤ 7 then 0 else 3) else 1
theorem lb_no {t u : List (List Int)} (h : braceB t u = false) : lbA t u = [] ∧ lbB t u = [] ∧ lbC t u = 1 := by unfold lbA lbB lbC; simp [h]
theorem lb_big {t u : List (List Int)} (h : braceB t u = true) (h7 : ¬ t.length ≤ 7) : lbA t u = [] ∧ lbB t u = [] ∧ lbC t u = 3 := by unfold lbA lbB lbC; simp [h, h7]
theorem lb_yes {t u : List (List Int)} (h : braceB t u = true) (h7 : t.length ≤ 7) : lbA t u = (leastP t u).1 ∧ lbB t u = (leastP t u).2 ∧ lbC t u = 0 := by unfold lbA lbB lbC; simp [h, h7]
end Go.Proofs.YthlafeefjonkdaaGreatDoor


namespace Go.Proofs.YthlafeefjonkdaaGreatDoor
set_option linter.unusedVariables false
set_option linter.unusedSimpArgs false

structure CmpOk {α : Type} (c : α → α → Int) : Prop where
  zero : ∀ x y, c x y = 0 ↔ x = y
  anti : ∀ x y, c x y < 0 → 0 < c y x
  flip : ∀ x y, 0 < c x y → c y x < 0
  trans : ∀ x y z, c x y < 0 → c y z < 0 → c x z < 0
theorem cmpI_ok : CmpOk cmpI where
  zero := fun _ _ => cmpI_zero
  anti := fun x y h => by unfold cmpI at h ⊢; split at h <;> (try split at h) <;> (try split) <;> (try split) <;> omega
  flip := fun x y h => by unfold cmpI at h ⊢; split at h <;> (try split at h) <;> (try split) <;> (try split) <;> omega
  trans := fun x y z h k => by
    have h1 : x < y := by unfold cmpI at h; split at h <;> (try split at h) <;> omega
    have h2 : y < z := by unfold cmpI at k; split at k <;> (try split at k) <;> omega
    unfold cmpI
    rw [if_pos (by omega)]
    omega
theorem cmpBy_cons {α : Type} (c : α → α → Int) (x y : α) (r s : List α) : cmpBy c (x :: r) (y :: s) = if c x y = 0 then cmpBy c r s else c x y := rfl
theorem CmpOk.sym0 {α : Type} {c : α → α → Int} (h : CmpOk c) (x y : α) : c x y = 0 ↔ c y x = 0 := by
  rw [h.zero, h.zero]; exact eq_comm
theorem cmpBy_ok {α : Type} {c : α → α → Int} (h : CmpOk c) : CmpOk (cmpBy c) where
  zero := cmpBy_zero h.zero
  anti := by
    intro x
    induction x with
    | nil => intro y k; cases y with
      | nil => exact absurd k (by simp [cmpBy])
      | cons _ _ => simp [cmpBy]
    | cons a r ih => intro y k; cases y with
      | nil => exact absurd k (by simp [cmpBy])
      | cons b s =>
        rw [cmpBy_cons] at k ⊢
        by_cases e : c a b = 0
        · rw [if_pos e] at k; rw [if_pos ((h.sym0 a b).1 e)]; exact ih s k
        · rw [if_neg e] at k; rw [if_neg (fun q => e ((h.sym0 a b).2 q))]; exact h.anti _ _ k
  flip := by
    intro x
    induction x with
    | nil => intro y k; cases y with
      | nil => exact absurd k (by simp [cmpBy])
      | cons _ _ => exact absurd k (by simp [cmpBy])
    | cons a r ih => intro y k; cases y with
      | nil => simp [cmpBy]
      | cons b s =>
        rw [cmpBy_cons] at k ⊢
        by_cases e : c a b = 0
        · rw [if_pos e] at k; rw [if_pos ((h.sym0 a b).1 e)]; exact ih s k
        · rw [if_neg e] at k; rw [if_neg (fun q => e ((h.sym0 a b).2 q))]; exact h.flip _ _ k
  trans := by
    intro x
    induction x with
    | nil => intro y z k1 k2; cases z with
      | nil => cases y with
        | nil => exact k1
        | cons _ _ => exact absurd k2 (by simp [cmpBy])
      | cons _ _ => simp [cmpBy]
    | cons a r ih => intro y z k1 k2; cases y with
      | nil => exact absurd k1 (by simp [cmpBy])
      | cons b s => cases z with
        | nil => exact absurd k2 (by simp [cmpBy])
        | cons d q =>
          rw [cmpBy_cons] at k1 k2 ⊢
          by_cases e : c a b = 0
          · rw [if_pos e] at k1
            have := (h.zero a b).1 e
            subst this
            by_cases e2 : c a d = 0
            · rw [if_pos e2] at k2 ⊢; exact ih s q k1 k2
            · rw [if_neg e2] at k2 ⊢; exact k2
          · rw [if_neg e] at k1
            by_cases e2 : c b d = 0
            · have := (h.zero b d).1 e2
              subst this
              rw [if_neg e]; exact k1
            · rw [if_neg e2] at k2
              have := h.trans _ _ _ k1 k2
              rw [if_neg (by omega)]; exact this
theorem cmpL_ok : CmpOk cmpL := by
  have e : cmpL = cmpBy cmpI := by funext l m; unfold cmpL; rfl
  rw [e]; exact cmpBy_ok cmpI_ok
theorem cmpT_ok : CmpOk cmpT := by
  have e : cmpT = cmpBy cmpL := by funext l m; unfold cmpT; rfl
  rw [e]; exact cmpBy_ok cmpL_ok
theorem lessP_iff {a b : List (List Int) × List (List Int)} : lessP a b = true ↔ cmpT a.1 b.1 < 0 ∨ (a.1 = b.1 ∧ cmpT a.2 b.2 < 0) := by
  unfold lessP
  by_cases e : cmpT a.1 b.1 = 0
  · rw [if_pos e]
    have h1 := cmpT_zero.1 e
    rw [decide_eq_true_iff]
    constructor
    · intro h; exact .inr ⟨h1, h⟩
    · rintro (h | ⟨_, h⟩)
      · omega
      · exact h
  · rw [if_neg e]
    have h1 : ¬ a.1 = b.1 := fun q => e (cmpT_zero.2 q)
    rw [decide_eq_true_iff]
    constructor
    · intro h; exact .inl h
    · rintro (h | ⟨h, _⟩)
      · exact h
      · exact absurd h h1
theorem lessP_irrefl (a : List (List Int) × List (List Int)) : lessP a a = false := by
  rw [← Bool.not_eq_true, lessP_iff]
  have h1 : cmpT a.1 a.1 = 0 := cmpT_zero.2 rfl
  have h2 : cmpT a.2 a.2 = 0 := cmpT_zero.2 rfl
  omega
theorem lessP_trans {a b d : List (List Int) × List (List Int)} (h : lessP a b = true) (k : lessP b d = true) : lessP a d = true := by
  rw [lessP_iff] at h k ⊢
  rcases h with h | ⟨h, h2⟩ <;> rcases k with k | ⟨k, k2⟩
  · exact .inl (cmpT_ok.trans _ _ _ h k)
  · exact .inl (by rw [← k]; exact h)
  · exact .inl (by rw [h]; exact k)
  · exact .inr ⟨h.trans k, cmpT_ok.trans _ _ _ h2 k2⟩
theorem lessP_total {a b : List (List Int) × List (List Int)} (h : lessP a b = false) (k : lessP b a = false) : a = b := by
  rw [← Bool.not_eq_true, lessP_iff] at h k
  have flipT : ∀ s t : List (List Int), ¬ cmpT s t < 0 → ¬ cmpT t s < 0 → s = t := fun s t h1 h2 => by
    apply cmpT_zero.1
    have := cmpT_ok.flip s t
    omega
  have e1 : a.1 = b.1 := flipT _ _ (fun e => h (.inl e)) (fun e => k (.inl e))
  have e2 : a.2 = b.2 := flipT _ _ (fun e => h (.inr ⟨e1, e⟩)) (fun e => k (.inr ⟨e1.symm, e⟩))
  exact Prod.ext e1 e2
theorem fold_least (t u : List (List Int)) : ∀ (L : List (List Int)) (best : List (List Int) × List (List Int)), (L.foldl (stepP t u) best = best ∨ ∃ p, p ∈ L ∧ L.foldl (stepP t u) best = (imgT t p, imgT u p)) ∧ lessP best (L.foldl (stepP t u) best) = false ∧ ∀ p, p ∈ L → lessP (imgT t p, imgT u p) (L.foldl (stepP t u) best) = false := by
  intro L
  induction L with
  | nil => intro best; exact ⟨.inl rfl, lessP_irrefl _, fun p hp => by cases hp⟩
  | cons p r ih =>
    intro best
    rw [List.foldl_cons]
    obtain ⟨h1, h2, h3⟩ := ih (stepP t u best p)
    generalize r.foldl (stepP t u) (stepP t u best p) = X at h1 h2 h3
    have hstep : (stepP t u best p = (imgT t p, imgT u p) ∧ lessP (imgT t p, imgT u p) best = true) ∨ (stepP t u best p = best ∧ lessP (imgT t p, imgT u p) best = false) := by
      unfold stepP
      cases e : lessP (imgT t p, imgT u p) best with
      | true => exact .inl ⟨rfl, rfl⟩
      | false => exact .inr ⟨rfl, rfl⟩
    rcases hstep with ⟨e, hl⟩ | ⟨e, hl⟩
    · rw [e] at h1 h2
      refine ⟨.inr ?_, ?_, ?_⟩
      · rcases h1 with h1 | ⟨q, hq, h1⟩
        · exact ⟨p, List.mem_cons_self, h1⟩
        · exact ⟨q, List.mem_cons_of_mem _ hq, h1⟩
      · rw [← Bool.not_eq_true]
        intro hb
        rw [lessP_trans hl hb] at h2
        exact Bool.noConfusion h2
      · intro q hq
        rcases List.mem_cons.1 hq with rfl | hq
        · exact h2
        · exact h3 q hq
    · rw [e] at h1 h2
      refine ⟨?_, h2, ?_⟩
      · rcases h1 with h1 | ⟨q, hq, h1⟩
        · exact .inl h1
        · exact .inr ⟨q, List.mem_cons_of_mem _ hq, h1⟩
      · intro q hq
        rcases List.mem_cons.1 hq with rfl | hq
        · rcases h1 with h1 | ⟨q2, hq2, h1⟩
          · rw [h1]; exact hl
          · rw [← Bool.not_eq_true]
            intro hb
            by_cases e2 : X = best
            · rw [e2] at hb
              rw [hb] at hl
              exact Bool.noConfusion hl
            · have h4 : lessP X best = true := by
                cases e3 : lessP X best with
                | true => rfl
                | false => exact absurd (lessP_total e3 h2) e2
              rw [lessP_trans hb h4] at hl
              exact Bool.noConfusion hl
        · exact h3 q hq

/-! ### isomorphisms one behind the other, and back -/
theorem iso_then {n : Nat} {az bz cz : List (List (List Int))} {p q : List Int} (hA : TabsOk n az) (hl : az.length = bz.length) (hp : IsoOk n az bz p) (hq : IsoOk n bz cz q) : IsoOk n az cz (thenL p q) := by
  have h := thenL_perm (isoOk_plain.2 ⟨hp.1, hp.2.1⟩) (isoOk_plain.2 ⟨hq.1, hq.2.1⟩)
  refine ⟨h.1, h.2.1, fun k hk x hx y hy => ?_⟩
  have hb := hA.bd hk hx hy
  have bx := hp.bd hx
  have bY := hp.bd hy
  rw [ix_thenL _ _ (by rw [hp.1]; exact hb.2), hp.2.2 k hk x hx y hy, hq.2.2 k (by omega) _ bx.2 _ bY.2, ix_thenL _ _ (by rw [hp.1]; exact hx), ix_thenL _ _ (by rw [hp.1]; exact hy)]
@[irreducible] def backL (p : List Int) : List Int := mkL p.length (fun i => indexOf p i)
theorem length_backL (p : List Int) : (backL p).length = p.length := by unfold backL; exact length_mkL _ _
theorem back_at {n : Nat} {az bz : List (List (List Int))} {p : List Int} (hp : IsoOk n az bz p) {x : Nat} (hx : x < n) : ix (backL p) (ix p x).toNat = (x : Int) := by
  have h0 := isoOk_plain.2 ⟨hp.1, hp.2.1⟩
  have hb := hp.bd hx
  unfold backL
  rw [ix_mkL _ _ _ (by rw [hp.1]; exact hb.2), Int.toNat_of_nonneg hb.1]
  exact indexOf_at h0 hx
theorem iso_back {n : Nat} {az bz : List (List (List Int))} {p : List Int} (hA : TabsOk n az) (hl : az.length = bz.length) (hp : IsoOk n az bz p) : IsoOk n bz az (backL p) := by
  have key : ∀ y, y < n → ∃ x, x < n ∧ ix p x = (y : Int) ∧ ix (backL p) y = (x : Int) := fun y hy => by
    obtain ⟨x, hx, e⟩ := hp.surj hy
    have := back_at hp hx
    rw [e, Int.toNat_natCast] at this
    exact ⟨x, hx, e, this⟩
  refine ⟨by rw [length_backL, hp.1], ⟨fun i hi => ?_, fun i hi j hj e => ?_⟩, fun k hk x hx y hy => ?_⟩
  · rw [length_backL, hp.1] at hi ⊢
    obtain ⟨x, hx, _, e⟩ := key i hi
    rw [e]; omega
  · rw [length_backL, hp.1] at hi
    obtain ⟨x, hx, e1, e2⟩ := key i hi
    obtain ⟨x', hx', e3, e4⟩ := key j (by omega)
    rw [e2, e4] at e
    have : x = x' := by omega
    subst this
    omega
  · obtain ⟨a, ha, e1, e2⟩ := key x hx
    obtain ⟨b, hb, e3, e4⟩ := key y hy
    have hk' : k < az.length := by omega
    have := hp.2.2 k hk' a ha b hb
    rw [e1, e3, Int.toNat_natCast, Int.toNat_natCast] at this
    have hbd := hA.bd hk' ha hb
    rw [← this, back_at hp hbd.2, e2, e4, Int.toNat_natCast, Int.toNat_natCast, Int.toNat_of_nonneg hbd.1]
theorem iso_img {n : Nat} {az bz : List (List (List Int))} {p : List Int} (hp : IsoOk n az bz p) {k : Nat} (hk : k < az.length) (la : (tab az k).length = n) (hU : TableOk (tab bz k)) (lb : (tab bz k).length = n) : imgT (tab az k) p = tab bz k := by
  refine (ImgTo.done (T := tab bz k) ⟨by rw [la, lb], fun i hi => by rw [hU.len (by omega), la, lb], fun a b ha hb _ => ?_⟩ (isoOk_plain.2 ⟨by rw [la]; exact hp.1, hp.2.1⟩)).symm
  exact (hp.2.2 k hk a (by omega) b (by omega)).symm
theorem img_iso {n : Nat} {t u : List (List Int)} {p : List Int} (lt : t.length = n) (lu : u.length = n) (hp : IsoOk n [] [] p) : IsoOk n [t, u] [imgT t p, imgT u p] p := by
  refine ⟨hp.1, hp.2.1, fun k hk x hx y hy => ?_⟩
  have bx := hp.bd hx
  have bY := hp.bd hy
  have hk2 : k = 0 ∨ k = 1 := by simp at hk; omega
  rcases hk2 with rfl | rfl
  · rw [tab_two0, tab_two0, ent_imgT _ _ (by rw [lt]; exact bx.2) (by rw [lt]; exact bY.2)]
    subst lt
    exact (imgE_at hp hx hy).symm
  · rw [tab_two1, tab_two1, ent_imgT _ _ (by rw [lu]; exact bx.2) (by rw [lu]; exact bY.2)]
    subst lu
    exact (imgE_at hp hx hy).symm
theorem two_img {n : Nat} {t u a d : List (List Int)} {p : List Int} (hp : IsoOk n [t, u] [a, d] p) (lt : t.length = n) (lu : u.length = n) (hA : TableOk a) (hD : TableOk d) (la : a.length = n) (ld : d.length = n) : imgT t p = a ∧ imgT u p = d := by
  have h0 := iso_img hp (k := 0) (by simp) (by rw [tab_two0]; exact lt) (by rw [tab_two0]; exact hA) (by rw [tab_two0]; exact la)
  have h1 := iso_img hp (k := 1) (by simp) (by rw [tab_two1]; exact lu) (by rw [tab_two1]; exact hD) (by rw [tab_two1]; exact ld)
  rw [tab_two0, tab_two0] at h0
  rw [tab_two1, tab_two1] at h1
  exact ⟨h0, h1⟩

/-! ### least forms -/
section
variable {t u a d : List (List Int)}
theorem least_spec (hT : TableOk t) (hU : TableOk u) (hl : u.length = t.length) : (∃ q, IsoOk t.length [] [] q ∧ ix q 0 = 0 ∧ leastP t u = (imgT t q, imgT u q)) ∧ ∀ q, IsoOk t.length [] [] q → ix q 0 = 0 → lessP (imgT t q, imgT u q) (leastP t u) = false := by
  have hid := idL_auto (TabsOk.two hT hU hl)
  have hn : 0 < t.length := hT.1
  have h0 : ix (idL t.length) 0 = 0 := by rw [ix_idL _ _ hn]; rfl
  have hI := two_img hid rfl hl hT hU rfl hl
  have hs := fold_least t u ((isoL t.length [] []).filter fun p => decide (ix p 0 = 0)) (t, u)
  have e : leastP t u = ((isoL t.length [] []).filter fun p => decide (ix p 0 = 0)).foldl (stepP t u) (t, u) := by unfold leastP; rfl
  rw [← e] at hs
  obtain ⟨h1, h2, h3⟩ := hs
  refine ⟨?_, fun q hq hq0 => h3 q (List.mem_filter.2 ⟨mem_isoL.2 hq, by simpa using hq0⟩)⟩
  rcases h1 with h1 | ⟨p, hp, h1⟩
  · exact ⟨idL t.length, idL_perm _, h0, by rw [h1, hI.1, hI.2]⟩
  · obtain ⟨k1, k2⟩ := List.mem_filter.1 hp
    exact ⟨p, mem_isoL.1 k1, by simpa using k2, h1⟩
theorem least_half (hB : braceB t u = true) (hE : braceB a d = true) (hl : a.length = t.length) {p : List Int} (hp : IsoOk t.length [t, u] [a, d] p) : lessP (leastP a d) (leastP t u) = false := by
  obtain ⟨gt, gu, l1⟩ := braceB_ok hB
  obtain ⟨ga, gd, l2⟩ := braceB_ok hE
  have s1 := least_spec gt.1 gu.1 l1.symm
  obtain ⟨⟨q, hq, q0, e⟩, -⟩ := least_spec ga.1 gd.1 l2.symm
  rw [hl] at hq
  have hA := TabsOk.two gt.1 gu.1 l1.symm
  have hq2 := img_iso (t := a) (u := d) hl (by omega) hq
  have hc := iso_then hA (bz := [a, d]) rfl hp hq2
  have p0 := hp.zero (by simp) (by rw [tab_two0]; exact gt) (by rw [tab_two0]; exact ga) (by rw [tab_two0]) (by rw [tab_two0]; exact hl)
  have hn : 0 < t.length := gt.1.1
  have c0 : ix (thenL p q) 0 = 0 := by rw [ix_thenL _ _ (by rw [hp.1]; exact hn), p0]; exact q0
  have hX : TableOk (imgT a q) := imgT_ok ga.1 (by rw [hl]; exact hq)
  have hY : TableOk (imgT d q) := imgT_ok gd.1 (by rw [show d.length = t.length by omega]; exact hq)
  have := two_img hc rfl l1.symm hX hY (by rw [length_imgT]; exact hl) (by rw [length_imgT]; omega)
  have h := s1.2 (thenL p q) (isoOk_plain.2 ⟨hc.1, hc.2.1⟩) c0
  rw [this.1, this.2, ← e] at h
  exact h
theorem least_iff (hB : braceB t u = true) (hE : braceB a d = true) : leastP t u = leastP a d ↔ isoF [t, u] [a, d] ≠ [] := by
  obtain ⟨gt, gu, l1⟩ := braceB_ok hB
  obtain ⟨ga, gd, l2⟩ := braceB_ok hE
  have hA := TabsOk.two gt.1 gu.1 l1.symm
  have hD := TabsOk.two ga.1 gd.1 l2.symm
  constructor
  · intro e
    obtain ⟨⟨q, hq, -, e1⟩, -⟩ := least_spec gt.1 gu.1 l1.symm
    obtain ⟨⟨r, hr, -, e2⟩, -⟩ := least_spec ga.1 gd.1 l2.symm
    rw [e1, e2] at e
    have f1 : imgT t q = imgT a r := congrArg Prod.fst e
    have f2 : imgT u q = imgT d r := congrArg Prod.snd e
    have hl : t.length = a.length := by
      have := congrArg List.length f1
      rwa [length_imgT, length_imgT] at this
    have i1 := img_iso (t := t) (u := u) rfl l1.symm hq
    have i2 := img_iso (t := a) (u := d) rfl l2.symm hr
    rw [← f1, ← f2] at i2
    have i3 := iso_back hD (az := [a, d]) (bz := [imgT t q, imgT u q]) rfl i2
    rw [← hl] at i3
    have i4 := iso_then hA (bz := [imgT t q, imgT u q]) rfl i1 i3
    have hm := mem_isoL.2 i4
    cases hL : isoL t.length [t, u] [a, d] with
    | nil => rw [hL] at hm; cases hm
    | cons p r' =>
      rw [isoF_cons (n := t.length) (by rw [tab_two0]) (by rw [tab_two0]; exact hl.symm) hL]
      have := (isoF_ne gt.1.1 hL).2
      intro e3
      rw [e3] at this
      simp at this
  · intro hne
    by_cases hl : t.length = a.length
    · cases hL : isoL t.length [t, u] [a, d] with
      | nil => exact absurd (isoF_nil (n := t.length) (by rw [tab_two0]) hL) hne
      | cons p r =>
        have hp : IsoOk t.length [t, u] [a, d] p := mem_isoL.1 (by rw [hL]; exact List.mem_cons_self)
        have h1 := least_half hB hE hl.symm hp
        have hb := iso_back hA (bz := [a, d]) rfl hp
        rw [hl] at hb
        have h2 := least_half hE hB hl hb
        exact lessP_total h2 h1
    · exact absurd (isoF_len (by rw [tab_two0, tab_two0]; exact hl)) hne
end

/-! ### Lagrange for automorphisms -/
theorem lag_lists {α : Type} [DecidableEq α] {A S : List α} {m : α → α → α} (hSn : S.Nodup) (hinj : ∀ x, x ∈ A → ∀ s, s ∈ S → ∀ r, r ∈ S → m x s = m x r → s = r)
    (hback : ∀ x, x ∈ A → ∀ y, y ∈ A → ∀ r, r ∈ S → ∀ s, s ∈ S → m x r = m y s → ∃ q, q ∈ S ∧ m x q = y) (hne : S ≠ []) :
    ∀ (k : Nat) (L : List α), L.length ≤ k → L.Nodup → (∀ x, x ∈ L → x ∈ A) → (∀ x, x ∈ L → ∀ s, s ∈ S → m x s ∈ L) → S.length ∣ L.length
  | 0, L, hk, _, _, _ => by
    have : L.length = 0 := by omega
    rw [this]; exact Nat.dvd_zero _
  | k + 1, L, hk, hn, hb, hc => by
    cases L with
    | nil => exact Nat.dvd_zero _
    | cons x L' =>
      have hx : x ∈ A := hb x (by simp)
      have hCn : (S.map (m x)).Nodup := nodup_map_on hSn fun a ha b hb' e => hinj x hx a ha b hb' e
      have hsub : ∀ y, y ∈ S.map (m x) → y ∈ x :: L' := fun y hy => by
        obtain ⟨s, hs, rfl⟩ := List.mem_map.1 hy
        exact hc x (by simp) s hs
      have hlen := len_without (S.map (m x)) (x :: L') hCn hn hsub
      rw [List.length_map] at hlen
      have hpos : 0 < S.length := List.length_pos_iff.2 hne
      have ih := lag_lists hSn hinj hback hne k ((x :: L').filter fun y => decide (y ∉ S.map (m x))) (by omega) (hn.filter _) (fun y hy => hb y (List.mem_filter.1 hy).1) (fun y hy s hs => by
        obtain ⟨h1, h2⟩ := List.mem_filter.1 hy
        rw [List.mem_filter]
        refine ⟨hc y h1 s hs, ?_⟩
        have h2 : y ∉ S.map (m x) := by simpa using h2
        have : m y s ∉ S.map (m x) := fun hm => by
          obtain ⟨r, hr, e⟩ := List.mem_map.1 hm
          obtain ⟨q, hq, e2⟩ := hback x hx y (hb y h1) r hr s hs e
          exact h2 (List.mem_map.2 ⟨q, hq, e2⟩)
        simpa using this)
      have e : (x :: L').length = ((x :: L').filter fun y => decide (y ∉ S.map (m x))).length + S.length := by omega
      rw [e]
      exact (Nat.dvd_add_right ih).2 (Nat.dvd_refl _)

theorem then_back {n : Nat} {az : List (List (List Int))} {p : List Int} (hp : IsoOk n az az p) : thenL p (backL p) = idL n := by
  refine ix_ext (by rw [length_thenL, length_idL, hp.1]) fun i hi => ?_
  rw [length_thenL, hp.1] at hi
  rw [ix_thenL _ _ (by rw [hp.1]; exact hi), back_at hp hi, ix_idL _ _ hi]

theorem auto_divides {t u : List (List Int)} (hB : braceB t u = true) : 0 < (isoL t.length [t, u] [t, u]).length ∧ (isoL t.length [t, u] [t, u]).length ∣ (isoL t.length [t] [t]).length := by
  obtain ⟨gt, gu, l1⟩ := braceB_ok hB
  have hA := TabsOk.two gt.1 gu.1 l1.symm
  have h1 := TabsOk.one gt.1
  have hpos := (auto_zero hA).1
  have sub : ∀ p, IsoOk t.length [t, u] [t, u] p → IsoOk t.length [t] [t] p := fun p hp => ⟨hp.1, hp.2.1, fun k hk x hx y hy => by
    have hk0 : k = 0 := by simpa using hk
    subst hk0
    have := hp.2.2 0 (by simp) x hx y hy
    rw [tab_two0] at this
    rw [tab_one]; exact this⟩
  have pl : ∀ {az : List (List (List Int))} {p : List Int}, IsoOk t.length az az p → IsoOk t.length [] [] p := fun hp => isoOk_plain.2 ⟨hp.1, hp.2.1⟩
  refine ⟨hpos, ?_⟩
  refine lag_lists (A := isoL t.length [t] [t]) (m := thenL) ?_ ?_ ?_ (List.length_pos_iff.1 hpos) (isoL t.length [t] [t]).length _ (Nat.le_refl _) ?_ (fun x hx => hx) ?_
  · exact (sorted_isoL _ _ _).imp fun {a b} h e => by subst e; exact LexLt.irrefl a h
  · intro x hx s hs r hr e
    exact thenL_inj (pl (mem_isoL.1 hx)) (pl (mem_isoL.1 hs)) (pl (mem_isoL.1 hr)) e
  · intro x hx y hy r hr s hs e
    have hs' := mem_isoL.1 hs
    have hr' := mem_isoL.1 hr
    refine ⟨thenL r (backL s), mem_isoL.2 (isoOk_then hA hr' (iso_back hA rfl hs')), ?_⟩
    rw [← thenL_assoc (pl (mem_isoL.1 hx)) (pl hr'), e, thenL_assoc (pl (mem_isoL.1 hy)) (pl hs'), then_back hs', thenL_id (pl (mem_isoL.1 hy))]
  · exact (sorted_isoL _ _ _).imp fun {a b} h e => by subst e; exact LexLt.irrefl a h
  · intro x hx s hs
    exact mem_isoL.2 (isoOk_then h1 (mem_isoL.1 hx) (sub s (mem_isoL.1 hs)))
end Go.Proofs.YthlafeefjonkdaaGreatDoor


namespace Go.Proofs.YthlafeefjonkdaaGreatDoor
set_option linter.unusedVariables false
set_option linter.unusedSimpArgs false

@[irreducible] def turnTo (c : Nat → Int) (i n r x : Nat) : Int := if x ≤ i ∨ n ≤ x then c x else if x < i + 1 + r ∨ n ≤ x + r then c (n + i - x) else c x
theorem turnTo_zero (c : Nat → Int) (i n x : Nat) : turnTo c i n 0 x = c x := by
  unfold turnTo
  by_cases h : x ≤ i ∨ n ≤ x
  · rw [if_pos h]
  · rw [if_neg h, if_neg (by omega)]
theorem turnTo_left (c : Nat → Int) (i n r : Nat) (h : i + 1 + r < n - 1 - r) : turnTo c i n r (i + 1 + r) = c (i + 1 + r) := by
  unfold turnTo; rw [if_neg (by omega), if_neg (by omega)]
theorem turnTo_right (c : Nat → Int) (i n r : Nat) (h : i + 1 + r < n - 1 - r) : turnTo c i n r (n - 1 - r) = c (n - 1 - r) := by
  unfold turnTo; rw [if_neg (by omega), if_neg (by omega)]
theorem turnTo_succ (c : Nat → Int) (i n r x : Nat) (h : i + 1 + r < n - 1 - r) : turnTo c i n (r + 1) x = if x = n - 1 - r then c (i + 1 + r) else if x = i + 1 + r then c (n - 1 - r) else turnTo c i n r x := by
  unfold turnTo
  by_cases h0 : x ≤ i ∨ n ≤ x
  · rw [if_pos h0, if_pos h0, if_neg (by omega), if_neg (by omega)]
  · rw [if_neg h0, if_neg h0]
    by_cases h1 : x = n - 1 - r
    · rw [if_pos h1, if_pos (by omega)]; congr 1; omega
    · rw [if_neg h1]
      by_cases h2 : x = i + 1 + r
      · rw [if_pos h2, if_pos (by omega)]; congr 1; omega
      · rw [if_neg h2]
        by_cases h3 : x < i + 1 + r ∨ n ≤ x + r
        · rw [if_pos h3, if_pos (by omega)]
        · rw [if_neg h3, if_neg (by omega)]
theorem turnTo_done (c : Nat → Int) (i n r x : Nat) (h : ¬ i + 1 + r < n - 1 - r) (hr : i + 1 + r ≤ n) (hx : x < n) : turnTo c i n r x = turnC c i n x := by
  unfold turnTo turnC
  by_cases h0 : x ≤ i
  · rw [if_pos (.inl h0), if_pos h0]
  · rw [if_neg (by omega), if_neg h0]
    by_cases h3 : x < i + 1 + r ∨ n ≤ x + r
    · rw [if_pos h3]
    · rw [if_neg h3]; congr 1; omega
end Go.Proofs.YthlafeefjonkdaaGreatDoor
