/-
  Contract of the program's iterator over permutations.
-/
import Derived.Test.YthlafeefjonkdaaGreatDoorJx38
namespace Go.Proofs.YthlafeefjonkdaaGreatDoor
set_option linter.unusedVariables false
set_option linter.unusedSimpArgs false
open Go.RowKit Go.Shelf
open Go.Deep
attribute [local go_sem] Oper.semAt_some

theorem identity_n (n : Nat) (w : World) (hn : n ≤ 1048576) :
    Calls Tryz.prog 82 #[.int .i64 n] w fun e w' => e = .returned (.slice (some ⟨w.heap.size, 0, none⟩) n n) ∧ w'.rowIs w.heap.size 2 n (fun i => .int .i64 (ix (idL n) i)) ∧ Ext w w' := by
  have hmk := run_make_row' (P := Tryz.prog) 29 2 (.int .i64 0) 8 Tryz.underlying29 infoInt rfl .i64 .i64 n (by omega) (by omega)
  go_enter Tryz.func82, Tryz.ntmps82
  go_wp2_with fail
  clear hmk
  have hx0 : Ext w (w.alloc (.cells (madeCells #[Value.int .i64 0] n) 2)) := (Ext.refl _).alloc _
  have hr0 := World.rowIs_made w (.int .i64 0) n 2
  go_loopw [9] (fun i wr => ∃ k : Nat, k ≤ n ∧ i = .int .i64 k ∧ wr.rowIs w.heap.size 2 n (fun i => .int .i64 (copyTo (idL n) k i)) ∧ Ext w wr) (fun i _ => n - (intOf i).toNat)
  case atStart => exact ⟨0, Nat.zero_le _, rfl, hr0.congr (fun i hi => by rw [copyTo_zero]), hx0⟩
  case round =>
    clear hx0 hr0
    obtain ⟨k, hk, rfl, hrow, hx⟩ := hrel
    by_cases hlt : k < n
    · have e2 := hrow.cell hlt
      have e3 := hrow.frozen k
      go_wp2
      go_roundw
      case rel => exact ⟨k + 1, by omega, by go_num, (hrow.set k (.int .i64 k)).congr (fun i hi => by rw [copyTo_succ, ix_idL _ _ hlt]; split <;> rfl), hx.setNew (Nat.le_refl _) _⟩
      case measure => simp [intOf]; omega
    · go_wp2
      go_ret
      have hkk : k = n := by omega
      subst hkk
      exact ⟨rfl, hrow.congr (fun i hi => by rw [copyTo_all _ _ _ hi]), hx⟩
theorem idL_iso (n : Nat) : IsoOk n [] [] (idL n) := by
  refine isoOk_plain.2 ⟨length_idL n, ⟨fun i hi => ?_, fun i hi j hj e => ?_⟩⟩
  · rw [length_idL] at hi ⊢
    rw [ix_idL _ _ hi]; omega
  · rw [length_idL] at hi
    rw [ix_idL _ _ hi, ix_idL _ _ (by omega)] at e
    omega
theorem first_at (n : Nat) : ∃ rest, isoL n [] [] = idL n :: rest :=
  sorted_first (sorted_isoL n [] []) (mem_isoL.2 (idL_iso n)) (first_perm (idL_iso n) (fun x hx => ix_idL n x hx))
def permAt (W : World) (P n : Nat) : List Int := listC (fun i => intOf ((W.cell? ⟨P, i, none⟩).getD (.int .i64 0))) n
theorem permAt_row {W : World} {P T n : Nat} {q : List Int} (h : W.rowIs P T n (fun i => .int .i64 (ix q i))) (hq : q.length = n) : permAt W P n = q := by
  unfold permAt
  refine ix_ext (by rw [length_listC, hq]) fun i hi => ?_
  rw [length_listC] at hi
  rw [ix_listC _ _ _ hi, h.cell hi]; rfl
theorem idx_at {L pre rest : List (List Int)} {q : List Int} (hs : L.Pairwise LexLt) (hL : L = pre ++ q :: rest) : L.idxOf q = pre.length := by
  subst hL
  have hn : q ∉ pre := fun hm => LexLt.irrefl q ((List.pairwise_append.1 hs).2.2 q hm q (by simp))
  rw [List.idxOf_append, if_neg hn]
  simp

set_option maxRecDepth 1000000 in
set_option maxHeartbeats 4000000 in
theorem perm1_in (base : Nat) (X : Nat → Prop) (n l b1 : Nat) (J Jx : List (List Int) → (Nat → Prop) → World → Prop) (hJ : Stab J) (hJx : Stab Jx) (hY : Rounds base X n l [] [] (isoL n [] []) J Jx) (h1 : 1 ≤ n) (h12 : n ≤ 12)
    (w : World) (hb : base ≤ w.heap.size) (k1 : w.cell? ⟨b1, 0, none⟩ = some (.int .i64 n)) (hj : J [] (fun _ => False) w) (m : Nat) :
    CallsIn Fence.wide m Tryz.prog 81 #[.func (.yield l) #[] #[], .pointer (some ⟨b1, 0, none⟩)] w fun e w' => (∃ v, e = .returned v) ∧ ∃ O, (J (isoL n [] []) O w' ∨ ∃ q, q ≠ [] ∧ q <+: isoL n [] [] ∧ Jx q O w') := by
  have HJ := Lib.hid hJ
  have HJX := Lib.hid hJx
  have HY := Lib.hid hY
  have HJ0 := Lib.hid hj
  have HI := Lib.hid (identity_n n w (by omega))
  clear hJ hJx hY hj
  (refine callsIn_of_wp Tryz.func81 rfl trivial ?_ rfl; simp only [Tryz.ntmps81, List.size_toArray, List.length_cons, List.length_nil, Nat.reduceAdd, Nat.reduceSub, Array.replicate_succ, Array.replicate_zero, List.push_toArray, List.append_toArray, List.nil_append, List.cons_append])
  gi_wp2_with fail
  refine ⟨trivial, fun h => absurd h (by decide), (callsIn_wide.2 HI.out).mono ?_⟩
  rintro e w1 ⟨rfl, hr1, hx1⟩
  have hj1 := HJ.out _ _ (fun k => k = w.heap.size) _ _ HJ0.out (Only.ext hx1) (fun k e => .inr (by omega))
  have HJ1 := Lib.hid hj1
  have HR1 := Lib.hid hr1
  clear hj1 hr1 hx1 k1
  gi_wp2_with fail
  gi_loopw [7] (fun v wr => ∃ pre q rest, isoL n [] [] = pre ++ q :: rest ∧ IsoOk n [] [] q ∧ wr.rowIs w.heap.size 2 n (fun i => .int .i64 (ix q i)) ∧ J pre (fun k => k = w.heap.size) wr) (fun _ wr => (isoL n [] []).length - (isoL n [] []).idxOf (permAt wr w.heap.size n))
  case atStart =>
    obtain ⟨rest, hr⟩ := first_at n
    exact ⟨[], idL n, rest, hr, idL_iso n, HR1.out, HJ1.out⟩
  case round =>
    clear HR1 HJ1 HJ0
    obtain ⟨pre, q, rest, hL, hq, hrow, hj⟩ := hrel
    have HL := Lib.hid hL
    have HQ := Lib.hid hq
    have HRW := Lib.hid hrow
    have hlt := hrow.lt
    obtain ⟨fn, tmps, assign, body, hy, hR⟩ := HY.out (m - 1) pre q (fun k => k = w.heap.size) wr w.heap.size hj hq (by rw [hL]; exact ⟨rest, by simp⟩) rfl (fun k e => by omega) hb (fun i hi => by rw [hq.1] at hi; rw [Nat.zero_add]; exact hrow.cell hi)
    clear hL hq hrow hj
    gi_wp2_with fail
    refine ⟨fun h => absurd h (by decide), hR.mono ?_⟩
    clear hR hy
    rintro e W' ⟨hr, (⟨rfl, hj'⟩ | ⟨rfl, hj'⟩)⟩
    · have hrw2 := HRW.out.of_block (hr.own _ hlt rfl)
      have HJ2 := Lib.hid hj'
      have HN := Lib.hid (nextPermutation_any n w.heap.size 2 q W' hrw2 HQ.out h1 h12)
      clear hr hj'
      gi_wp2_with fail
      refine ⟨trivial, fun h => absurd h (by decide), (callsIn_wide.2 HN.out).mono ?_⟩
      rintro e W2 ⟨ho, (⟨rfl, hF⟩ | ⟨q2, i, rfl, hq2, hN2, hr2⟩)⟩
      · have HJ3 := Lib.hid (HJ.out _ _ _ _ _ HJ2.out ho (fun k e => .inl e))
        have hrest := perms_last HQ.out hF HL.out
        have hall : isoL n [] [] = pre ++ [q] := by rw [HL.out, hrest]
        have HALL := Lib.hid hall
        clear ho hF hrest hall
        gi_wp2_with fail
        refine bodyPost_ret (results_none rfl _ _ _) rfl ?_
        exact ⟨⟨_, rfl⟩, _, .inl (by rw [HALL.out]; exact HJ3.out)⟩
      · have HJ3 := Lib.hid (HJ.out _ _ _ _ _ HJ2.out ho (fun k e => .inl e))
        obtain ⟨rest', hrest⟩ := perms_next HQ.out hq2 hN2 HL.out
        have HL2 := Lib.hid (show isoL n [] [] = (pre ++ [q]) ++ q2 :: rest' by rw [HL.out, hrest]; simp)
        have HQ2 := Lib.hid hq2
        have HR2 := Lib.hid hr2
        clear ho hN2 hrest hq2 hr2
        gi_wp2_with fail
        go_roundw
        case rel => exact ⟨_, q2, rest', HL2.out, HQ2.out, HR2.out, HJ3.out⟩
        case measure =>
          rw [permAt_row HR2.out HQ2.out.1, permAt_row HRW.out HQ.out.1, idx_at (sorted_isoL n [] []) HL2.out, idx_at (sorted_isoL n [] []) HL.out]
          have := congrArg List.length HL2.out
          simp at this ⊢
          omega
    · have HJ2 := Lib.hid hj'
      clear hr hj'
      gi_wp2_with fail
      go_end0
      exact ⟨⟨_, rfl⟩, _, .inr ⟨pre ++ [q], by simp, by rw [HL.out]; exact ⟨rest, by simp⟩, HJ2.out⟩⟩
end Go.Proofs.YthlafeefjonkdaaGreatDoor
