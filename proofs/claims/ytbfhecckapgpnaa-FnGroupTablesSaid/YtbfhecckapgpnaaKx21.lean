/-
  Contract of undo.
-/
import Derived.Test.YtbfhecckapgpnaaProg
import Derived.Deep.DeepCutAuto
import Derived.Deep.RegionWith
import Derived.Deep.RegionHeld3
import Derived.Deep.DrawnRows
import Derived.StillTailTactics
import Derived.Test.YtbfhecckapgpnaaKx0
import Derived.Test.YtbfhecckapgpnaaKx1
import Derived.Test.YtbfhecckapgpnaaKx2
import Derived.Test.YtbfhecckapgpnaaKx8
import Derived.Test.YtbfhecckapgpnaaKx9
import Derived.Test.YtbfhecckapgpnaaKx7
import Derived.Test.YtbfhecckapgpnaaKx20
import Derived.Test.YtbfhecckapgpnaaKx5
import Derived.Test.YtbfhecckapgpnaaKx10
import Derived.Test.YtbfhecckapgpnaaKx6
import Derived.Test.YtbfhecckapgpnaaKx14
namespace Go.Proofs.Ytbfhecckapgpnaa
set_option linter.unusedVariables false
set_option linter.unusedSimpArgs false
open Go.RowKit
attribute [local go_sem ↓] Go.wp_at_zero Go.wp_at_succ

open Go.Deep
/-- only blocks of p (and new ones) may differ -/
structure Only (p : Nat → Prop) (w w' : World) : Prop where
  os : w'.os = w.os
  tape : w'.tape = w.tape
  output : w'.output = w.output
  size : w.heap.size ≤ w'.heap.size
  keep : ∀ k, k < w.heap.size → ¬ p k → w'.heap[k]? = w.heap[k]?
theorem Only.refl (p : Nat → Prop) (w : World) : Only p w w := ⟨rfl, rfl, rfl, Nat.le_refl _, fun _ _ _ => rfl⟩
theorem only_set {p : Nat → Prop} {w : World} {a : Addr} (h : p a.block) (v : Value) : Only p w (w.setCell a v) :=
  have hb := Below.setCell (Below.refl 0 w) (p := a) (Nat.zero_le _) v
  ⟨hb.os, hb.tape, hb.output, hb.size, fun k _ hn => blk_setCell_other _ _ _ _ (fun e => hn (by rw [e]; exact h))⟩
theorem Only.trans {p : Nat → Prop} {a b c : World} (h : Only p a b) (k : Only p b c) : Only p a c := ⟨k.os.trans h.os, k.tape.trans h.tape, k.output.trans h.output, Nat.le_trans h.size k.size, fun i hi hn => (k.keep i (Nat.lt_of_lt_of_le hi h.size) hn).trans (h.keep i hi hn)⟩
theorem only_drew (p : Nat → Prop) (w : World) : Only p w w.drew := ⟨rfl, rfl, rfl, Nat.le_refl _, fun _ _ _ => rfl⟩
theorem MapSt.img_lt {base : Nat} {w : World} {M I U : Nat} {v u : Value} {n : Nat} {f s : List Int} {sv : Value} (h : MapSt base w M I U v u n f s sv) : M < w.heap.size := World.block_lt_of_cell? _ _ h.c0
theorem PartF.clearL {n : Nat} : ∀ (l f : List Int), PartF n f → (∀ z, z ∈ l → 0 ≤ z ∧ z.toNat < n) → PartF n (clearL f l)
  | [], f, h, _ => by rw [clearL_nil]; exact h
  | x :: l, f, h, hb => by
    rw [clearL_cons]
    exact PartF.clearL l _ (h.clear (hb x (by simp)).2) (fun z hz => hb z (by simp [hz]))
theorem MapSt.clear {base : Nat} {w : World} {M I U : Nat} {v u : Value} {n : Nat} {g s : List Int} {sv : Value} (h : MapSt base w M I U v u n g s sv) (hg : PartF n g) {x y : Nat} (hx : x < n) (hy : ix g x = (y : Int)) :
    MapSt base ((w.setCell ⟨U, y, none⟩ (.bool false)).setCell ⟨I, x, none⟩ (.int .i64 (-1))) M I U v u n (g.set x (-1)) s sv where
  c0 := kc_set (fun e => h.apart.1 e) (kc_set (fun e => h.apart.2.1 e) h.c0)
  c1 := kc_set (fun e => h.apart.1 e) (kc_set (fun e => h.apart.2.1 e) h.c1)
  c2 := kc_set (fun e => h.apart.1 e) (kc_set (fun e => h.apart.2.1 e) h.c2)
  c3 := kc_set (fun e => h.apart.1 e) (kc_set (fun e => h.apart.2.1 e) h.c3)
  c4 := kc_set (fun e => h.apart.1 e) (kc_set (fun e => h.apart.2.1 e) h.c4)
  fr := kf_set (kf_set h.fr)
  img := ((h.img.setOther (fun e => h.apart.2.2.1 e) _).set x _).congr fun i hi => by
    by_cases e : i = x
    · subst e; rw [if_pos rfl, ix_set_same _ _ _ (by rw [hg.1]; exact hx)]
    · rw [if_neg e, ix_set_other _ _ _ _ e]
  usd := ((h.usd.set y _).setOther (fun e => h.apart.2.2.1 e.symm) _).congr fun i hi => by
    have := hasB_clear hg hx (by omega) i
    rw [hy, Int.toNat_natCast] at this
    rw [this]
    by_cases e : i = y
    · rw [if_pos e, if_pos e]
    · rw [if_neg e, if_neg e]
  set := (h.set.setOff (fun g hg => (h.apart.2.2.2 g hg).2.2) _).setOff (fun g hg => (h.apart.2.2.2 g hg).2.1) _
  apart := h.apart
  low := h.low

set_option maxRecDepth 100000 in
set_option maxHeartbeats 2000000 in
theorem undo_any (base M I U : Nat) (v u : Value) (n : Nat) (f s : List Int) (S c k : Nat) (w : World) (h : MapSt base w M I U v u n f s (.slice (some ⟨S, 0, none⟩) s.length c)) (hF : PartOk n f s) (hk : k < s.length) (h12 : n ≤ 12) :
    Calls Try.prog 112 #[.pointer (some ⟨M, 0, none⟩), .int .i64 k] w fun e w' => (∃ r, e = .returned r) ∧ MapSt base w' M I U v u n (clearL f (s.drop k)) (s.take k) (.slice (some ⟨S, 0, none⟩) k c) ∧ Only (fun b => b = M ∨ b = I ∨ b = U) w w' := by
  have c2 := h.c2
  have c3 := h.c3
  have c4 := h.c4
  have hroom := h.set.room
  have hkc : k < c := by omega
  have hsn := hF.le
  go_enter Try.func112, Try.ntmps112
  go_wp2_with fail
  go_loopw [13] (fun x wr => ∃ j : Nat, j ≤ s.length - k ∧ x = .int .i64 j ∧ MapSt base wr M I U v u n (clearL f ((s.drop k).take j)) s (.slice (some ⟨S, 0, none⟩) s.length c) ∧ Only (fun b => b = M ∨ b = I ∨ b = U) w wr) (fun x _ => s.length - k - (intOf x).toNat)
  case atStart => exact ⟨0, by omega, rfl, by rw [List.take_zero, clearL_nil]; exact h, Only.refl _ _⟩
  case round =>
    obtain ⟨j, hj, rfl, hm, ho⟩ := hrel
    by_cases hjl : j < s.length - k
    · have hx0 := hF.bd (k + j) (by omega)
      obtain ⟨x, hx⟩ : ∃ x : Nat, ix s (k + j) = (x : Int) := ⟨_, (Int.toNat_of_nonneg hx0.1).symm⟩
      have hxn : x < n := by omega
      have q0 : wr.cell? ⟨S, k + j, none⟩ = some (.int .i64 x) := by
        have := World.ownsRow.cellAt hm.set (k + j) (by omega)
        rw [this, ← hx, ix_eq]
        simp [List.getD, show k + j < s.length by omega]
      have hjlt : k + j < s.length := by omega
      have hnot : (x : Int) ∉ (s.drop k).take j := fun hmem => by
        obtain ⟨i, hi, e⟩ := mem_ix hmem
        have hi2 : i < j := by simp at hi; omega
        have e2 : ix ((s.drop k).take j) i = ix s (k + i) := by
          rw [ix_eq, ix_eq]; simp [List.getD, List.getElem?_take, hi2]
        have hnd := distinct_of_nodup s hF.nodup (k + j) hjlt (k + i) (by omega)
        exact hnd (by rw [← e2, e, hx])
      have hnn : ∀ z, z ∈ (s.drop k).take j → 0 ≤ z := fun z hz => by
        obtain ⟨i, hi, e⟩ := mem_ix (List.mem_of_mem_drop (List.mem_of_mem_take hz))
        have := (hF.bd i hi).1
        omega
      have hbd : ∀ z, z ∈ (s.drop k).take j → 0 ≤ z ∧ z.toNat < n := fun z hz => by
        obtain ⟨i, hi, e⟩ := mem_ix (List.mem_of_mem_drop (List.mem_of_mem_take hz))
        have := hF.bd i hi
        omega
      have hfx : ix (clearL f ((s.drop k).take j)) x = ix f x := clearL_not _ _ _ hnn hnot
      have hmx : (x : Int) ∈ s := by rw [← hx]; exact ix_mem s _ hjlt
      have hf0 : 0 ≤ ix f x := (hF.mem x hxn).1 hmx
      have hfr := hF.rng x hxn
      obtain ⟨y, hy⟩ : ∃ y : Nat, ix f x = (y : Int) := ⟨_, (Int.toNat_of_nonneg hf0).symm⟩
      have hyn : y < n := by omega
      have q2 := hm.c2
      have q3 := hm.c3
      have q5 := hm.img.cell hxn
      rw [hfx, hy] at q5
      have f5 := hm.img.frozen x
      have q6 := hm.usd.cell hyn
      have f6 := hm.usd.frozen y
      have hnext : (s.drop k).take (j + 1) = (s.drop k).take j ++ [(x : Int)] := by
        rw [List.take_succ_eq_append_getElem (by simp; omega)]
        congr 2
        rw [ix_eq] at hx
        simp [List.getD, hjlt] at hx
        simpa using hx
      have HM := Lib.hid hm
      have HO := Lib.hid ho
      have HNX := Lib.hid hnext
      have HFX := Lib.hid (hfx.trans hy)
      have hMI : M ≠ I := hm.apart.1
      have hMU : M ≠ U := hm.apart.2.1
      have hIU : I ≠ U := hm.apart.2.2.1
      clear hm ho hnext hfx hnn hnot hmx hf0 hfr hx0
      have hpf := PartF.clearL ((s.drop k).take j) f hF.toF hbd
      have HPF := Lib.hid hpf
      clear hpf
      go_wp2_with fail
      go_still_tail 12, (by kernel_rfl)
      change wpList _ _ _ _ _ wr.drew
      have HMd := Lib.hid (HM.out.ext HM.out.img_lt (Ext.refl wr).drew)
      have HOd := Lib.hid (show Only (fun b => b = M ∨ b = I ∨ b = U) w wr.drew from HO.out.trans (only_drew _ _))
      have q2' := kc_drew q2
      have q5' := kc_drew q5
      have q6' := kc_drew q6
      have f5' : wr.drew.frozen? ⟨I, x, none⟩ = false := f5
      have f6' : wr.drew.frozen? ⟨U, y, none⟩ = false := f6
      clear HM HO q0 q2 q3 q5 q6 f5 f6
      generalize wr.drew = w6 at *
      go_wp2_with fail
      go_roundw
      case rel => exact ⟨j + 1, by omega, by go_num, by rw [HNX.out, clearL_snoc]; exact HMd.out.clear HPF.out hxn HFX.out, (HOd.out.trans (only_set (.inr (.inr rfl)) _)).trans (only_set (.inr (.inl rfl)) _)⟩
      case measure => simp [intOf]; omega
    · have hj2 : j = s.length - k := by omega
      subst hj2
      have q4 := hm.c4
      have f4 := hm.fr
      have HM := Lib.hid hm
      have HO := Lib.hid ho
      clear hm ho
      go_wp2
      go_end0
      have e1 : (s.drop k).take (s.length - k) = s.drop k := List.take_of_length_le (by simp)
      have hm := HM.out
      rw [e1] at hm
      exact ⟨⟨_, rfl⟩, hm.cut (by omega), HO.out.trans (only_set (.inl rfl) _)⟩

end Go.Proofs.Ytbfhecckapgpnaa
