/-
  A row of truth values beside a list of words that grows; words filled from behind. No program in sight.
-/
import Derived.Test.YtjfjpngajboidaaGreatKx27
namespace Go.Proofs.YtjfjpngajboidaaGreat
set_option linter.unusedVariables false
set_option linter.unusedSimpArgs false
open Go.RowKit

def restF (c k : Nat) (f : Nat → Int) : List Int := (List.range' c (k - c)).map f
theorem restF_all (k : Nat) (f : Nat → Int) : restF k k f = [] := by unfold restF; simp
theorem restF_zero (k : Nat) (f : Nat → Int) : restF 0 k f = mkL k f := by
  apply List.ext_getElem?
  intro i
  unfold restF
  by_cases hi : i < k
  · have h1 : ix (mkL k f) i = f i := ix_mkL _ _ _ hi
    rw [ix_eq, List.getD_eq_getElem?_getD, List.getElem?_eq_getElem (by rw [length_mkL]; exact hi)] at h1
    rw [List.getElem?_eq_getElem (l := mkL k f) (by rw [length_mkL]; exact hi)]
    simp [hi]
    exact h1.symm
  · rw [List.getElem?_eq_none (by simp; omega), List.getElem?_eq_none (by rw [length_mkL]; omega)]
theorem restF_step {c k : Nat} {f : Nat → Int} {x : Int} (hc : c < k) : restF c k (fun i => if i = c then x else f i) = x :: restF (c + 1) k f := by
  unfold restF
  obtain ⟨m, hm⟩ : ∃ m, k - c = m + 1 := ⟨k - c - 1, by omega⟩
  rw [hm, show k - (c + 1) = m by omega, List.range'_succ, List.map_cons]
  simp only [if_pos rfl]
  congr 1
  refine List.map_congr_left fun i hi => ?_
  have := (List.mem_range'_1.1 hi).1
  rw [if_neg (by omega)]
theorem tup_step {n c k q : Nat} {f : Nat → Int} (hc : c < k) : tupL n c (q / n) ++ restF c k (fun i => if i = c then ((q % n : Nat) : Int) else f i) = tupL n (c + 1) q ++ restF (c + 1) k f := by
  rw [restF_step hc]
  simp [tupL]
theorem rk_of_row {w : World} {b T k lo : Nat} {f : Nat → Int} {l : List Int} (h : w.rowIs b T k (fun i => .int .i64 (f i))) (hl : mkL k f = l) (hk : k ≤ 1048576) (hb : lo ≤ b) : RK lo (fun _ => False) w (.slice (some ⟨b, 0, none⟩) k k) l := by
  subst hl
  refine ⟨by rw [length_mkL]; exact hk, b, k, by rw [length_mkL], by rw [length_mkL]; exact Nat.le_refl _, hb, h.lt, fun q => q, fun i hi => ?_⟩
  rw [length_mkL] at hi
  rw [Nat.zero_add, ix_mkL _ _ _ hi]
  exact h.cell hi
structure NrmD (e lo g0 T N : Nat) (w0 w : World) (v : Value) (xs : List Value) (sB : Nat → Bool) (t : List (List Int)) : Prop where
  seen : w.rowIs g0 T N (fun i => .bool (sB i))
  li : ListK e lo (fun b => b = g0) w v xs t
  ne : v.ownBlock ≠ some g0
  x : Ext w0 w
  g1 : w0.heap.size ≤ g0
  l1 : w0.heap.size ≤ lo
  l2 : lo ≤ w.heap.size
section
variable {e lo g0 T N : Nat} {w0 w w' : World} {v : Value} {xs : List Value} {sB : Nat → Bool} {t : List (List Int)}
theorem NrmD.ext (h : NrmD e lo g0 T N w0 w v xs sB t) (hx : Ext w w') : NrmD e lo g0 T N w0 w' v xs sB t :=
  ⟨h.seen.of_block (hx.block _ h.seen.lt), h.li.ext hx, h.ne, h.x.trans hx, h.g1, h.l1, Nat.le_trans h.l2 hx.size⟩
theorem NrmD.mark (h : NrmD e lo g0 T N w0 w v xs sB t) (i : Nat) : NrmD e lo g0 T N w0 (w.setCell ⟨g0, i, none⟩ (.bool true)) v xs (fun j => if j = i then true else sB j) t :=
  ⟨(h.seen.set i _).congr (fun j hj => by split <;> rfl), h.li.other ⟨rfl, rfl, rfl, by simp, fun k hk hne => Below.heap_setCell _ _ _ _ (fun e => hne (by rw [e]))⟩ rfl h.ne, h.ne, h.x.setNew (p := ⟨g0, i, none⟩) h.g1 _, h.g1, h.l1, by have := h.l2; simpa using this⟩
theorem NrmD.congr {sB' : Nat → Bool} (h : NrmD e lo g0 T N w0 w v xs sB t) (hs : ∀ i, i < N → sB i = sB' i) : NrmD e lo g0 T N w0 w v xs sB' t :=
  ⟨h.seen.congr (fun i hi => by rw [hs i hi]), h.li, h.ne, h.x, h.g1, h.l1, h.l2⟩
theorem NrmD.app {x : Value} {l : List Int} (h : NrmD e lo g0 T N w0 w v xs sB t) (hx : RK lo (fun b => v.ownBlock = some b ∨ b = g0) w x l) {v' : Value} (ho : w'.ownsRow lo e 1 v' (t.length + 1) (xs ++ [x])) (hg : w.grownBy w' v.ownBlock) (hb : v'.ownBlock = v.ownBlock ∨ v'.ownBlock = some w.heap.size) :
    NrmD e lo g0 T N w0 w' v' (xs ++ [x]) sB (t ++ [l]) := by
  have hgl := h.seen.lt
  refine ⟨h.seen.of_block (hg.block g0 hgl (fun e => h.ne e.symm)), h.li.app hx ho hg hb, fun e => ?_, Ext.grown h.x hg h.li.own h.l1, h.g1, h.l1, Nat.le_trans h.l2 hg.size⟩
  rcases hb with q | q
  · exact h.ne (by rw [← q]; exact e)
  · rw [q] at e
    have := Option.some.inj e
    omega
theorem NrmD.rows (h : NrmD e lo g0 T N w0 w v xs sB t) (hp : 0 < t.length) (hl : t.length ≤ 1048576) : RowsK lo w v t := by
  obtain ⟨g, c, rfl, hm⟩ := h.li.mine hp
  exact hm.toRows hl
theorem NrmD.shape (h : NrmD e lo g0 T N w0 w v xs sB t) : ∃ a c, v = .slice a t.length c := h.li.shape
end
end Go.Proofs.YtjfjpngajboidaaGreat
