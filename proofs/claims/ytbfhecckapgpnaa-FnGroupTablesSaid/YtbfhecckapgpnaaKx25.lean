/-
  Contract of the iterator over isomorphisms.
-/
import Derived.Test.YtbfhecckapgpnaaProg
import Derived.Deep.DeepCutAuto
import Derived.Deep.RegionWith
import Derived.Deep.RegionHeld3
import Derived.Deep.DrawnRows
import Derived.RangeFuncNested
import Derived.Test.YtbfhecckapgpnaaKx0
import Derived.Test.YtbfhecckapgpnaaKx1
import Derived.Test.YtbfhecckapgpnaaKx2
import Derived.Test.YtbfhecckapgpnaaKx8
import Derived.Test.YtbfhecckapgpnaaKx9
import Derived.Test.YtbfhecckapgpnaaKx7
import Derived.Test.YtbfhecckapgpnaaKx20
import Derived.Test.YtbfhecckapgpnaaKx22
import Derived.Test.YtbfhecckapgpnaaKx5
import Derived.Test.YtbfhecckapgpnaaKx10
import Derived.Test.YtbfhecckapgpnaaKx6
import Derived.Test.YtbfhecckapgpnaaKx12
import Derived.Test.YtbfhecckapgpnaaKx14
import Derived.Test.YtbfhecckapgpnaaKx21
import Derived.Test.YtbfhecckapgpnaaKx23
import Derived.Test.YtbfhecckapgpnaaKx24
namespace Go.Proofs.Ytbfhecckapgpnaa
set_option linter.unusedVariables false
set_option linter.unusedSimpArgs false
open Go.RowKit
open Go.Deep
attribute [local go_sem ↓] Go.wp_at_zero Go.wp_at_succ

theorem infoBoolT : (Try.prog.info? 4).map (fun i => (i.zero, i.size, i.bytes)) = some (some (.bool false), 1, 1) := by kernel_rfl
/-- the mapping, its image set to -1 as far as k -/
structure MapPre (base : Nat) (w : World) (M I U : Nat) (v u : Value) (n k : Nat) : Prop where
  c0 : w.cell? ⟨M, 0, none⟩ = some v
  c1 : w.cell? ⟨M, 1, none⟩ = some u
  c2 : w.cell? ⟨M, 2, none⟩ = some (.slice (some ⟨I, 0, none⟩) n n)
  c3 : w.cell? ⟨M, 3, none⟩ = some (.slice (some ⟨U, 0, none⟩) n n)
  c4 : w.cell? ⟨M, 4, none⟩ = some (.slice none 0 0)
  fr : w.frozen? ⟨M, 4, none⟩ = false
  img : w.rowIs I 2 n (fun i => .int .i64 (if i < k then -1 else 0))
  usd : w.rowIs U 4 n (fun _ => .bool false)
  apart : M ≠ I ∧ M ≠ U ∧ I ≠ U
  low : base ≤ M ∧ base ≤ I ∧ base ≤ U
theorem MapPre.of_heap {base : Nat} {w : World} {M I U : Nat} {v u : Value} {n : Nat} (hM : w.heap[M]? = some (.cells #[v, u, .slice (some ⟨I, 0, none⟩) n n, .slice (some ⟨U, 0, none⟩) n n, .slice none 0 0] 100 (0, 0)))
    (hI : w.heap[I]? = some (.cells (madeCells #[.int .i64 0] n) 2 (0, 0))) (hU : w.heap[U]? = some (.cells (madeCells #[.bool false] n) 4 (0, 0))) (ha : M ≠ I ∧ M ≠ U ∧ I ≠ U) (hl : base ≤ M ∧ base ≤ I ∧ base ≤ U) : MapPre base w M I U v u n 0 where
  c0 := by simp [World.cell?, hM]
  c1 := by simp [World.cell?, hM]
  c2 := by simp [World.cell?, hM]
  c3 := by simp [World.cell?, hM]
  c4 := by simp [World.cell?, hM]
  fr := by simp [World.frozen?, hM]
  img := ⟨_, hI, size_madeCells _ _, fun i hi => by simp [madeCells, hi, Nat.mod_one]⟩
  usd := ⟨_, hU, size_madeCells _ _, fun i hi => by simp [madeCells, hi, Nat.mod_one]⟩
  apart := ha
  low := hl
theorem h3at0 (w : World) (A B C : Obj) : (((w.alloc A).alloc B).alloc C).drew.heap[w.heap.size]? = some A := by
  show (((w.alloc A).alloc B).alloc C).heap[w.heap.size]? = some A
  rw [blk_alloc_lt _ _ _ (by simp; omega), blk_alloc_lt _ _ _ (by simp), blk_alloc_new]
theorem h3at1 (w : World) (A B C : Obj) : (((w.alloc A).alloc B).alloc C).drew.heap[w.heap.size + 1]? = some B := by
  show (((w.alloc A).alloc B).alloc C).heap[w.heap.size + 1]? = some B
  rw [blk_alloc_lt _ _ _ (by simp)]
  have := blk_alloc_new (w.alloc A) B
  rwa [World.size_alloc] at this
theorem h3at2 (w : World) (A B C : Obj) : (((w.alloc A).alloc B).alloc C).drew.heap[w.heap.size + 1 + 1]? = some C := by
  show (((w.alloc A).alloc B).alloc C).heap[w.heap.size + 1 + 1]? = some C
  have := blk_alloc_new ((w.alloc A).alloc B) C
  rwa [World.size_alloc, World.size_alloc] at this
theorem MapPre.next {base : Nat} {w : World} {M I U : Nat} {v u : Value} {n k : Nat} (h : MapPre base w M I U v u n k) : MapPre base (w.setCell ⟨I, k, none⟩ (.int .i64 (-1))) M I U v u n (k + 1) where
  c0 := kc_set h.apart.1 h.c0
  c1 := kc_set h.apart.1 h.c1
  c2 := kc_set h.apart.1 h.c2
  c3 := kc_set h.apart.1 h.c3
  c4 := kc_set h.apart.1 h.c4
  fr := kf_set h.fr
  img := (h.img.set k _).congr fun i hi => by
    by_cases e : i = k
    · rw [if_pos e, if_pos (by omega)]
    · by_cases e2 : i < k
      · rw [if_neg e, if_pos e2, if_pos (by omega)]
      · rw [if_neg e, if_neg e2, if_neg (by omega)]
  usd := h.usd.setOther (fun e => h.apart.2.2 e.symm) _
  apart := h.apart
  low := h.low
theorem ix_repl (n i : Nat) (hi : i < n) : ix (List.replicate n (-1)) i = -1 := by rw [ix_eq]; simp [List.getD, hi]
theorem MapPre.fin {base b0 : Nat} {w : World} {M I U : Nat} {v u : Value} {n : Nat} (h : MapPre base w M I U v u n n) (hb : b0 ≤ base) : MapSt b0 w M I U v u n (List.replicate n (-1)) [] (.slice none 0 0) where
  c0 := h.c0
  c1 := h.c1
  c2 := h.c2
  c3 := h.c3
  c4 := h.c4
  fr := h.fr
  img := h.img.congr fun i hi => by rw [if_pos hi, ix_repl n i hi]
  usd := h.usd.congr fun i hi => by
    cases hh : hasB (List.replicate n (-1)) i with
    | false => rfl
    | true =>
      obtain ⟨j, hj, e⟩ := hasB_has.1 hh
      rw [ix_repl n j (by simpa using hj)] at e
      omega
  set := GrowI.nil _ _ _
  apart := ⟨h.apart.1, h.apart.2.1, h.apart.2.2, fun g e => by simp [Value.ownBlock] at e⟩
  low := ⟨by have := h.low.1; omega, by have := h.low.2.1; omega, by have := h.low.2.2; omega⟩
theorem partOk_none (n : Nat) : PartOk n (List.replicate n (-1)) [] where
  len := by simp
  rng x hx := by rw [ix_repl n x hx]; omega
  inj x hx y _ h := by rw [ix_repl n x hx] at h; omega
  mem x hx := by rw [ix_repl n x hx]; simp
  bd i hi := by simp at hi
  nodup := List.nodup_nil
theorem goodAll_none (n : Nat) (az bz : List (List (List Int))) : GoodAll az bz n (List.replicate n (-1)) := fun x hx y _ h => by rw [ix_repl n x hx] at h; omega
theorem extL_none (n : Nat) (az bz : List (List (List Int))) : extL n az bz (List.replicate n (-1)) = isoL n az bz := extL_all fun p _ i hi h => by rw [ix_repl n i (by simpa using hi)] at h; omega

set_option maxRecDepth 1000000 in
set_option maxHeartbeats 4000000 in
theorem iso1_any (base : Nat) (X : Nat → Prop) (tb tq cz ub uo cu n l b1 b2 : Nat) (az bz : List (List (List Int))) (J Jx : List (List Int) → (Nat → Prop) → World → Prop) (hJ : Stab J) (hJx : Stab Jx) (hY : Rounds base X n l az bz (isoL n az bz) J Jx) (hA : TabsOk n az) (hB : TabsOk n bz) (hab : az.length = bz.length) (h0 : 0 < az.length) (hts : az.length ≤ 2) (h12 : n ≤ 12)
    (w : World) (hb : base ≤ w.heap.size) (k1 : w.cell? ⟨b1, 0, none⟩ = some (.slice (some ⟨tb, tq, none⟩) az.length cz)) (k2 : w.cell? ⟨b2, 0, none⟩ = some (.slice (some ⟨ub, uo, none⟩) bz.length cu)) (hta : TabsIn base X w tb tq n az) (htu : TabsIn base X w ub uo n bz) (hj : J [] (fun _ => False) w) :
    Calls Try.prog 99 #[.func (.yield l) #[] #[], .pointer (some ⟨b1, 0, none⟩), .pointer (some ⟨b2, 0, none⟩)] w fun e w' => (∃ v, e = .returned v) ∧ ∃ O, (J (isoL n az bz) O w' ∨ ∃ q, q ≠ [] ∧ q <+: isoL n az bz ∧ Jx q O w') := by
  have HJ := Lib.hid hJ
  have HJX := Lib.hid hJx
  have HY := Lib.hid hY
  have HA := Lib.hid hA
  have HB := Lib.hid hB
  have HAB := Lib.hid hab
  have hbz : 0 < bz.length := by omega
  have hbz2 : bz.length ≤ 2 := by omega
  obtain ⟨t1, t2, t3⟩ := id hta
  obtain ⟨u1, u2, u3⟩ := id htu
  obtain ⟨q1, q2, q3, -, -, q4, -⟩ := t3 0 h0
  obtain ⟨r1, r2, r3, -, -, r4, -⟩ := u3 0 hbz
  rw [Nat.add_zero] at q4 r4
  have HTA := Lib.hid hta
  have HTU := Lib.hid htu
  have HJ0 := Lib.hid hj
  have hB1 := World.block_lt_of_cell? _ _ k1
  have hB2 := World.block_lt_of_cell? _ _ k2
  clear hJ hJx hY hA hB hab hta htu hj t3 u3
  have hmk := run_make_row' (P := Try.prog) 45 2 (.int .i64 0) 8 Try.underlying45 infoInt rfl .i64 .i64 n (by omega) (by omega)
  have hmk2 := run_make_row' (P := Try.prog) 98 4 (.bool false) 1 Try.underlying98 infoBoolT rfl .i64 .i64 n (by omega) (by omega)
  go_enter Try.func99, Try.ntmps99
  go_upto_region 2 with (fail)
  go_cut [5] (fun v wr => ∃ M I U, v = .pointer (some ⟨M, 0, none⟩) ∧ MapPre w.heap.size wr M I U (.slice (some ⟨tb, tq, none⟩) az.length cz) (.slice (some ⟨ub, uo, none⟩) bz.length cu) n 0 ∧ Ext w wr)
  case first =>
    go_region_held3 (fun w' => w'.cell? ⟨b1, 0, none⟩ = some (.slice (some ⟨tb, tq, none⟩) az.length cz) ∧ w'.cell? ⟨b2, 0, none⟩ = some (.slice (some ⟨ub, uo, none⟩) bz.length cu))
      ((refine ⟨?_, ?_⟩ <;> (repeat first | (with_reducible assumption) |  (with_reducible exact kc_new) | ((with_reducible refine kc_newE ?_); (simp; done)) | ((with_reducible refine kc_newEa ?_); (simp; done)) | ((with_reducible refine kc_newEb ?_); (simp; done)) | (with_reducible apply kc_alloc) | (with_reducible apply kc_drewN) | (with_reducible apply kc_drew) | ((with_reducible refine kc_set ?_ ?_); (first | (simp only []; omega) | (simp; omega) | (focus (simp; done)))) | ((with_reducible refine kc_set2 ?_ ?_); (focus (simp; done))) | (with_reducible refine kc_same (v := .slice none 0 0) ?_))))
      (fail)
    all_goals
      go_wp2_with fail
      go_meet
      refine ⟨_, ?_, ?_, rfl, MapPre.of_heap ?_ ?_ ?_ ?_ ?_, ?_⟩
      rotate_left 2
      · first | exact h3at0 _ _ _ _ | exact h3at1 _ _ _ _ | exact h3at2 _ _ _ _
      · first | exact h3at0 _ _ _ _ | exact h3at1 _ _ _ _ | exact h3at2 _ _ _ _
      · first | exact h3at0 _ _ _ _ | exact h3at1 _ _ _ _ | exact h3at2 _ _ _ _
      · refine ⟨?_, ?_, ?_⟩ <;> omega
      · refine ⟨?_, ?_, ?_⟩ <;> omega
      · exact ((((Ext.refl w).alloc _).alloc _).alloc _).drew
  case rest =>
    obtain ⟨M, I, U, rfl, hp, hx⟩ := hcut
    have c2 := hp.c2
    have HP := Lib.hid hp
    have HX := Lib.hid hx
    clear hp hx k1 k2 q4 r4 hmk hmk2
    go_wp2_with fail
    go_loopw [27] (fun i wr => ∃ k, k ≤ n ∧ i = .int .i64 (k : Nat) ∧ MapPre w.heap.size wr M I U (.slice (some ⟨tb, tq, none⟩) az.length cz) (.slice (some ⟨ub, uo, none⟩) bz.length cu) n k ∧ Ext w wr) (fun i _ => n - (intOf i).toNat)
    case atStart => exact ⟨0, Nat.zero_le _, rfl, HP.out, HX.out⟩
    case round =>
      clear c2 HP HX
      obtain ⟨k, hk, rfl, hp, hx⟩ := hrel
      have c2 := hp.c2
      by_cases hkn : k < n
      · have i0 := hp.img.cell hkn
        have i1 := hp.img.frozen k
        rw [if_neg (Nat.lt_irrefl k)] at i0
        have HP := Lib.hid hp
        have HX := Lib.hid hx
        clear hp hx
        go_wp2_with fail
        go_roundw
        case rel => exact ⟨k + 1, by omega, by go_num, HP.out.next, HX.out.setNew HP.out.low.2.1 _⟩
        case measure => simp [intOf]; omega
      · have hkk : n = k := by omega
        subst hkk
        have hm := hp.fin hb
        have hst : AsgSt base X M I U tb tq cz ub uo cu n az bz (List.replicate n (-1)) [] (.slice none 0 0) wr :=
          ⟨hm, HTA.out.keep ((Only.ext (p := fun _ => False) hx).keepB (fun _ h => h.elim) hb), HTU.out.keep ((Only.ext (p := fun _ => False) hx).keepB (fun _ h => h.elim) hb), partOk_none n⟩
        have hj2 := HJ.out _ _ (OwnP M I U (.slice none 0 0)) _ _ HJ0.out (Only.ext hx) (fun k hk => by
          rcases hk with e | e | e | e
          · subst e; exact .inr hp.low.1
          · subst e; exact .inr hp.low.2.1
          · subst e; exact .inr hp.low.2.2
          · simp [Value.ownBlock] at e)
        have HC := Lib.hid (callsIn_wide.1 (extend_any base X M I U tb tq cz ub uo cu n l az bz (isoL n az bz) J Jx HJ.out HJX.out HY.out HA.out HB.out HAB.out hts h12 n 0 _ _ [] _ wr (by simp) hst (goodAll_none n az bz) (by rw [extL_none, List.nil_append]; exact List.prefix_refl _) hj2))
        clear hst hj2 hm hp hx
        go_wp2_with fail
        refine HC.out.mono ?_
        rintro e w1 ⟨sv', -, (⟨rfl, hj3⟩ | ⟨rfl, q, hq0, hqp, hj3⟩)⟩
        · have HJ3 := Lib.hid hj3
          clear hj3
          go_wp2_with fail
          go_end0
          exact ⟨⟨_, rfl⟩, _, .inl (by have := HJ3.out; rw [extL_none, List.nil_append] at this; exact this)⟩
        · have HJ3 := Lib.hid hj3
          have HQ := Lib.hid (And.intro hq0 hqp)
          clear hj3 hq0 hqp
          go_wp2_with fail
          go_end0
          exact ⟨⟨_, rfl⟩, _, .inr ⟨q, HQ.out.1, by have := HQ.out.2; rw [extL_none] at this; exact this, HJ3.out⟩⟩
end Go.Proofs.Ytbfhecckapgpnaa
