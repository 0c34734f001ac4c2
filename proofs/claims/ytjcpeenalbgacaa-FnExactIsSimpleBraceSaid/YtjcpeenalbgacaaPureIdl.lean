/-
  Subbraces, left ideals, ideals: plain.
-/
import Derived.Test.YtjcpeenalbgacaaBase
import Derived.Test.YtjcpeenalbgacaaBase2
import Derived.Test.YtjcpeenalbgacaaPure1
import Derived.Test.YtjcpeenalbgacaaPureOrd
import Derived.Test.YtjcpeenalbgacaaPureInv
import Derived.Test.YtjcpeenalbgacaaPureTurn
import Derived.Test.YtjcpeenalbgacaaPureConj
import Derived.Test.YtjcpeenalbgacaaPureSet
import Derived.Test.YtjcpeenalbgacaaPureNorm
import Derived.Test.YtjcpeenalbgacaaPureBr
import Derived.Test.YtjcpeenalbgacaaW37
namespace Go.Proofs.Ytjcpeenalbgacaa
set_option linter.unusedVariables false
set_option linter.unusedSimpArgs false
open Go.RowKit

/-- those of the first i numbers of L with q -/
@[irreducible] def takeF (L : List Int) (q : Nat → Bool) (i : Nat) : List Int := (L.take i).filter (fun z => q z.toNat)
theorem takeF_zero (L q) : takeF L q 0 = [] := by unfold takeF; simp
theorem takeF_take (L : List Int) (k : Nat) (h : k < L.length) : L.take (k + 1) = L.take k ++ [ix L k] := by
  rw [List.take_succ_eq_append_getElem h, ix_eq]; simp [List.getD, h]
theorem takeF_yes {L : List Int} {q : Nat → Bool} {i m : Nat} (h : i < L.length) (e : ix L i = (m : Int)) (hq : q m = true) : takeF L q (i + 1) = takeF L q i ++ [(m : Int)] := by
  unfold takeF; rw [takeF_take _ _ h, List.filter_append, e]; simp [hq]
theorem takeF_no {L : List Int} {q : Nat → Bool} {i m : Nat} (h : i < L.length) (e : ix L i = (m : Int)) (hq : q m = false) : takeF L q (i + 1) = takeF L q i := by
  unfold takeF; rw [takeF_take _ _ h, List.filter_append, e]; simp [hq]
theorem takeF_len (L q i) : (takeF L q i).length ≤ L.length := by
  unfold takeF
  exact Nat.le_trans (List.length_filter_le _ _) (by rw [List.length_take]; omega)
theorem takeF_subs (p q : Nat → Bool) (k : Nat) : takeF (subsTo p k) q (subsTo p k).length = subsTo (fun m => p m && q m) k := by
  unfold takeF
  rw [List.take_length]
  unfold subsTo
  rw [List.filter_map, List.filter_filter]
  congr 1
  apply List.filter_congr
  intro x _
  simp [Bool.and_comm]
theorem subsTo_ext {p q : Nat → Bool} {k : Nat} (h : ∀ m, m < k → p m = q m) : subsTo p k = subsTo q k := by
  unfold subsTo
  congr 1
  apply List.filter_congr
  intro x hx
  exact h x (List.mem_range.1 hx)

/-- all lambdas keep m -/
def LeftRow (t u : List (List Int)) (m y k : Nat) : Prop := ∀ x, x < k → bitB m x = true → bitB m (lamF t u y x).toNat = true
def LeftTo (t u : List (List Int)) (m n k : Nat) : Prop := ∀ y, y < k → LeftRow t u m y n
instance (t u m y k) : Decidable (LeftRow t u m y k) := by unfold LeftRow; infer_instance
instance (t u m n k) : Decidable (LeftTo t u m n k) := by unfold LeftTo; infer_instance
@[irreducible] def leftB (t u : List (List Int)) (m : Nat) : Bool := decide (LeftTo t u m t.length t.length)
theorem leftB_iff {t u m} : leftB t u m = true ↔ LeftTo t u m t.length t.length := by unfold leftB; simp
theorem leftB_yes {t u m} (h : LeftTo t u m t.length t.length) : leftB t u m = true := leftB_iff.2 h
theorem leftB_no {t u m} {y x : Nat} (hy : y < t.length) (hx : x < t.length) (hb : bitB m x = true) (hc : bitB m (lamF t u y x).toNat = false) : leftB t u m = false := by
  rw [← Bool.not_eq_true, leftB_iff]
  intro h; rw [h y hy x hx hb] at hc; cases hc
theorem LeftRow.zero (t u m y) : LeftRow t u m y 0 := all_zero
theorem LeftRow.succ {t u m y k} (h : LeftRow t u m y k) (hk : bitB m k = true → bitB m (lamF t u y k).toNat = true) : LeftRow t u m y (k + 1) := all_succ h hk
theorem LeftRow.mono {t u m y k k'} (h : LeftRow t u m y k) (hk : k' ≤ k) : LeftRow t u m y k' := all_mono h hk
theorem LeftTo.zero (t u m n) : LeftTo t u m n 0 := all_zero
theorem LeftTo.succ {t u m n k} (h : LeftTo t u m n k) (hk : LeftRow t u m k n) : LeftTo t u m n (k + 1) := all_succ h hk
/-- over the list of the elements: the first i of them are kept by all lambdas; of the next one by the first k -/
def LeftCol (t u : List (List Int)) (m x k : Nat) : Prop := ∀ y, y < k → bitB m (lamF t u y x).toNat = true
def LeftL (t u : List (List Int)) (m i : Nat) : Prop := ∀ a, a < i → LeftCol t u m (ix (elemsL m) a).toNat t.length
theorem LeftCol.zero (t u m x) : LeftCol t u m x 0 := all_zero
theorem LeftCol.succ {t u m x k} (h : LeftCol t u m x k) (hk : bitB m (lamF t u k x).toNat = true) : LeftCol t u m x (k + 1) := all_succ h hk
theorem LeftL.zero (t u m) : LeftL t u m 0 := all_zero
theorem LeftL.succ {t u m i} (h : LeftL t u m i) (hk : LeftCol t u m (ix (elemsL m) i).toNat t.length) : LeftL t u m (i + 1) := all_succ h hk
theorem LeftL.all {t u : List (List Int)} {m : Nat} (hm : m < 2 ^ t.length) (hn : t.length ≤ 12) (h : LeftL t u m (elemsL m).length) : leftB t u m = true := leftB_yes fun y hy x _ hb => by
  obtain ⟨i, hi, e⟩ := elemsL_has hm (by omega) hb
  have := h i hi y hy
  rw [e] at this
  simpa using this
/-- subbraces, left ideals, ideals -/
@[irreducible] def sbB (t u : List (List Int)) (m : Nat) : Bool := subB t m && subB u m
theorem sbB_def (t u m) : sbB t u m = (subB t m && subB u m) := by unfold sbB; rfl
@[irreducible] def liB (t u : List (List Int)) (m : Nat) : Bool := subB t m && leftB t u m
theorem liB_def (t u m) : liB t u m = (subB t m && leftB t u m) := by unfold liB; rfl
@[irreducible] def idB (t u : List (List Int)) (m : Nat) : Bool := (liB t u m && normB t m) && normB u m
theorem idB_def (t u m) : idB t u m = ((liB t u m && normB t m) && normB u m) := by unfold idB; rfl
@[irreducible] def sbL (t u : List (List Int)) : List Int := subsTo (sbB t u) (2 ^ t.length)
theorem sbL_def (t u) : sbL t u = subsTo (sbB t u) (2 ^ t.length) := by unfold sbL; rfl
@[irreducible] def liL (t u : List (List Int)) : List Int := subsTo (liB t u) (2 ^ t.length)
theorem liL_def (t u) : liL t u = subsTo (liB t u) (2 ^ t.length) := by unfold liL; rfl
@[irreducible] def idl (t u : List (List Int)) : List Int := subsTo (idB t u) (2 ^ t.length)
theorem idl_def (t u) : idl t u = subsTo (idB t u) (2 ^ t.length) := by unfold idl; rfl
theorem subB_bit {t : List (List Int)} {m : Nat} (h : subB t m = true) : bitB m 0 = true := by
  rw [subB_def, Bool.and_eq_true] at h; exact h.1
/-- what the reference filters out of the subgroups -/
theorem filt_sb (t u : List (List Int)) : takeF (subsL t) (closedB u) (subsL t).length = sbL t u := by
  rw [subsL_def, takeF_subs, sbL_def]
  refine subsTo_ext fun m _ => ?_
  rw [sbB_def]
  cases h : subB t m with
  | false => rfl
  | true => rw [subB_1 (t := u) (subB_bit h)]
theorem filt_li (t u : List (List Int)) : takeF (subsL t) (leftB t u) (subsL t).length = liL t u := by
  rw [subsL_def, takeF_subs, liL_def]
  refine subsTo_ext fun m _ => ?_
  rw [liB_def]
theorem filt_id (t u : List (List Int)) : takeF (subsL t) (idB t u) (subsL t).length = idl t u := by
  rw [subsL_def, takeF_subs, idl_def]
  refine subsTo_ext fun m _ => ?_
  rw [idB_def, liB_def]
  cases h : subB t m with
  | false => rfl
  | true => rfl
/-- what the program's loop over the odd numbers finds -/
theorem odd_of {p : Nat → Bool} (hp : ∀ m, p m = true → bitB m 0 = true) (k : Nat) : subsTo (fun m => bitB m 0 && p m) k = subsTo p k :=
  subsTo_ext fun m _ => by
    cases h : p m with
    | false => simp
    | true => simp [hp m h]
theorem sb_bit (t u) (m : Nat) (h : sbB t u m = true) : bitB m 0 = true := by
  rw [sbB_def, Bool.and_eq_true] at h; exact subB_bit h.1
theorem li_bit (t u) (m : Nat) (h : liB t u m = true) : bitB m 0 = true := by
  rw [liB_def, Bool.and_eq_true] at h; exact subB_bit h.1
theorem id_bit (t u) (m : Nat) (h : idB t u m = true) : bitB m 0 = true := by
  rw [idB_def, Bool.and_eq_true, Bool.and_eq_true] at h; exact li_bit t u m h.1.1
theorem idl_len {t u : List (List Int)} (h : t.length ≤ 12) : (idl t u).length ≤ 4096 := by rw [idl_def]; exact subsTo_len12 _ h (Nat.le_refl _)
theorem idl_one {t u : List (List Int)} (h : t.length = 1) : (idl t u).length ≤ 1 := by
  rw [idl_def, h]
  show (subsTo (idB t u) (0 + 1 + 1)).length ≤ 1
  have h0 : idB t u 0 = false := by
    cases h : idB t u 0 with
    | false => rfl
    | true =>
      have := id_bit t u 0 h
      rw [bitB_zero_odd (by decide)] at this
      cases this
  cases h1 : idB t u (0 + 1) with
  | false => rw [subsTo_no h1, subsTo_no h0, subsTo_zero]; simp
  | true => rw [subsTo_yes h1, subsTo_no h0, subsTo_zero]; simp
end Go.Proofs.Ytjcpeenalbgacaa
