/-
  A table of the call's own that grows row by row: append in a walk; the reference's copy of a table is its own.
-/
import Derived.Test.YthlafeefjonkdaaGreatDoorJx15
import Derived.Test.YthlafeefjonkdaaGreatDoorJx20
namespace Go.Proofs.YthlafeefjonkdaaGreatDoor
set_option linter.unusedVariables false
set_option linter.unusedSimpArgs false
open Go.RowKit
open Go.Deep
attribute [local go_sem ↓] Go.wp_at_zero Go.wp_at_succ

abbrev NoO : Nat → Prop := fun _ => False
theorem wpList_append_row_mine {P : Program} {w1 w : World} {ops : Array Oper} {rest : List Oper} {o : Oper} {a : Act} {Q : Exit → Act → World → Prop} (hgd : o.guard = none) (s x : Operand) (t : TypeId)
    (ho : o.op = .call { callee := .builtin .append, args := #[s, x], argTypes := #[t, t] }) (ht : P.underlying t = some (.slice 29)) (hinfo : (P.info? 29).map (fun i => (i.zero, i.size, i.bytes)) = some (some (.slice none 0 0), 1, 24))
    (base : Nat) (v : Value) (tb : List (List Int)) (hs : a.eval s = v) (hown : MineT base NoO w1 v tb) (hx1 : Ext w1 w) (g : Nat) (br cr : Nat) (l : List Int) (hx : a.eval x = .slice (some ⟨g, 0, none⟩) 1 1) (hc : w.cell? ⟨g, 0, none⟩ = some (.slice (some ⟨br, 0, none⟩) l.length cr)) (hr : OwnI w1.heap.size w.heap.size w br 0 l)
    (hl : tb.length ≤ 1048576) (hbase : base ≤ w1.heap.size)
    (h : ∀ v' w', MineT base NoO w' v' (tb ++ [l]) → w.grownBy w' v.ownBlock → v' ≠ .slice none 0 0 → (v'.ownBlock = v.ownBlock ∨ v'.ownBlock = some w.heap.size) → wpList P ops Q rest (a.put o.dst v') w') : wpList P ops Q (o :: rest) a w := by
  obtain ⟨i0, hi, hz0, hz1, hz2⟩ := info_parts hinfo
  obtain ⟨xs, h1, h2⟩ := id hown
  have hz := hx1.size
  refine wpList_append_own_at w hgd s x t ho base _ i0 (.slice none 0 0) 1 24 ht hi hz0 hz1 hz2 rfl (by decide) v tb.length xs hs (ownsRow_ext h1 hx1) ⟨g, 0, none⟩ 1 1 [.slice (some ⟨br, 0, none⟩) l.length cr] hx rfl ?_ ?_ (by unfold maxLen; omega) (by omega) (by omega) ?_
  · intro j u hj
    match j, hj with
    | 0, hj => simp at hj; subst hj; simpa [Addr.add] using hc
  · intro u hu; simp at hu; subst hu; rfl
  · intro v' w' k1 k2 k3 k4
    refine h v' w' (MineT.app (c := cr) hown hx1 hr hbase (fun k e => e.elim) k2 k4 (fun vs hvs => ?_)) k2 (fun e => by have := k3.1 e; simp at this) k4
    have : vs = xs := (ownsRow_same hvs (ownsRow_ext h1 hx1))
    subst this
    simpa using k1

theorem OwnI.alloc1 {lo : Nat} {w : World} {b o : Nat} {l : List Int} {x : Obj} (h : OwnI lo w.heap.size w b o l) : OwnI lo (w.alloc x).heap.size (w.alloc x) b o l :=
  ⟨h.1, by have := h.2.1; simp; omega, ki_alloc h.2.2.1, fun i hi => kf_alloc h.2.1 (h.2.2.2 i hi)⟩
theorem MineT.lit {lo : Nat} {w : World} (hb : lo ≤ w.heap.size) : MineT lo NoO (w.alloc (.cells #[] 29)) (.slice (some ⟨w.heap.size, 0, none⟩) 0 0) [] :=
  ⟨[], World.ownsRow_made w #[] 0 hb (Nat.zero_le _) rfl, fun _ _ e => e.elim, fun _ => 0, fun _ => 0, fun i hi => by simp at hi, fun i j hi => by simp at hi⟩
theorem MineT.lt {lo : Nat} {W : World} {v : Value} {xs : List (List Int)} (h : MineT lo NoO W v xs) (k : Nat) (e : v.ownBlock = some k) : lo ≤ k ∧ k < W.heap.size := by
  obtain ⟨vs, h1, -⟩ := h
  exact h1.lt k e
theorem MineT.newT {lo : Nat} {w : World} {v : Value} {t : List (List Int)} (h : MineT lo NoO w v t) (hv : v ≠ .slice none 0 0) : ∃ b c, v = .slice (some ⟨b, 0, none⟩) t.length c ∧ OwnT lo w.heap.size w b 0 t := by
  obtain ⟨vs, h1, h2, B, C, h3, h4⟩ := h
  rcases id h1.2 with ⟨rfl, hn⟩ | ⟨g, cap, cur, rfl, hb, hg, rest⟩
  · exact absurd (by rfl) hv
  · refine ⟨g, cap, rfl, hb, (h1.lt g rfl).2, B, fun _ => 0, C, fun i hi => ?_, h4, fun i hi => by simp [World.frozen?, hg]⟩
    obtain ⟨g1, g2, g3, g4⟩ := h3 i hi
    have hc := World.ownsRow.cells h1 (g := g) rfl i _ g1
    rw [Addr.add_lit] at hc
    exact ⟨hc, g2, fun e => g4 (by rw [e]; rfl)⟩

set_option maxRecDepth 100000 in
theorem l01Own2_own (t : List (List Int)) (v : Value) (w : World) (hv : Rows w v t) :
    Calls Tryz.prog 44 #[v] w (NewT t w) := by
  obtain ⟨hlen, b, o, c, rfl, hc⟩ := id hv
  go_enter Tryz.func44, Tryz.ntmps44
  go_wp2
  have hx0 : Ext w (w.alloc (.cells #[] 29)) := (Ext.refl _).alloc _
  have hg0 := MineT.lit (lo := w.heap.size) (w := w) (Nat.le_refl _)
  go_loopw [3, 4] (fun v x wr => ∃ k : Nat, k ≤ t.length ∧ x = .int .i64 k ∧ MineT w.heap.size NoO wr v (t.take k) ∧ v ≠ .slice none 0 0 ∧ Ext w wr) (fun _ x _ => t.length - (intOf x).toNat)
  case atStart => exact ⟨0, Nat.zero_le _, rfl, hg0, by simp, hx0⟩
  case round =>
    clear hx0 hg0
    obtain ⟨k, hk, rfl, hg, hv', hx⟩ := hrel
    have HV := Lib.hid hv'
    clear hv'
    by_cases hkl : k < t.length
    case neg =>
      have : t.take k = t := List.take_of_length_le (by omega)
      rw [this] at hg
      obtain ⟨br, cr, rfl, ho⟩ := hg.newT HV.out
      go_wp2
      go_ret
      exact ⟨br, cr, rfl, ho, hx⟩
    case pos =>
      have HO := Lib.hid hg.lt
      obtain ⟨w2, rfl⟩ : ∃ w2 : World, w2 = wr := ⟨_, rfl⟩
      obtain ⟨b4, o4, c4, r4, i4, m4⟩ := (hc.ext hx).get hkl
      have e4 := i4.ints m4 c4
      clear i4
      have HTK := Lib.hid (show (t.take k).length ≤ 1048576 by rw [List.length_take]; omega)
      have HT1 := Lib.hid (show t.take (k + 1) = t.take k ++ [row t k] from take_row t k hkl)
      have HG := Lib.hid hg
      have zx := hx.size
      clear hg
      go_wp2_with fail
      refine (l01Own_any (row t k) _ _ e4).mono ?_
      rintro e w3 ⟨br, cr, rfl, ho, hx2⟩
      have HOI := Lib.hid ho
      have HX2 := Lib.hid hx2
      have z3 := hx2.size
      clear ho hx2
      go_wp2_with (at_builtin; refine wpList_append_row_mine rfl _ _ 24 rfl Tryz.underlying24 infoSl w.heap.size _ _ rfl HG.out (HX2.out.trans (ext_box _ _ _)) _ br cr (row t k) rfl (cell_new _ _ _) (OwnI.alloc1 HOI.out) HTK.out (by omega) ?_)
      intro v' w4 hg4 hgr4 hv4 hat4
      have hx4 : Ext w w4 := (hx.trans (HX2.out.trans (ext_box _ _ _))).grownOwn hgr4 (fun g e => (HO.out g e).1)
      clear hgr4 hat4
      go_wp2
      go_roundw
      case rel => exact ⟨k + 1, by omega, by go_num, by rw [HT1.out]; exact hg4, hv4, hx4⟩
      case measure => simp [intOf]; omega
end Go.Proofs.YthlafeefjonkdaaGreatDoor


namespace Go.Proofs.YthlafeefjonkdaaGreatDoor
set_option linter.unusedVariables false
set_option linter.unusedSimpArgs false
open Go.RowKit
open Go.Deep
attribute [local go_sem ↓] Go.wp_at_zero Go.wp_at_succ

theorem infoSl2 : (Tryz.prog.info? 24).map (fun i => (i.zero, i.size, i.bytes)) = some (some (.slice none 0 0), 1, 24) := by kernel_rfl
end Go.Proofs.YthlafeefjonkdaaGreatDoor


namespace Go.Proofs.YthlafeefjonkdaaGreatDoor
set_option linter.unusedVariables false
set_option linter.unusedSimpArgs false
open Go.RowKit
open Go.Deep

def CircAt (base n : Nat) (w : World) (r : Value) : Prop := ∃ T, RowsP (fun k => base ≤ k) w r T ∧ TableOk T ∧ T.length = n

theorem CircAt.ext {base n : Nat} {w w' : World} {r : Value} (h : CircAt base n w r) (hx : Ext w w') : CircAt base n w' r := by
  obtain ⟨T, h1, h2⟩ := h
  exact ⟨T, h1.ext hx, h2⟩

theorem CircAt.one {base n : Nat} {w : World} {r : Value} (h : CircAt base n w r) : r.oneCell' = true := by
  obtain ⟨T, h1, h2⟩ := h
  obtain ⟨b, o, c, rfl⟩ := h1.shape
  rfl

theorem CircAt.shape {base n : Nat} {w : World} {r : Value} (h : CircAt base n w r) : ∃ b o c, r = .slice (some ⟨b, o, none⟩) n c := by
  obtain ⟨T, h1, -, rfl⟩ := h
  exact h1.shape

def CircL (base n : Nat) (w : World) (v : Value) (xs : List Value) : Prop := w.ownsRow base 24 1 v xs.length xs ∧ (∀ r, r ∈ xs → CircAt base n w r) ∧ (xs = [] → v = .slice none 0 0)

theorem CircL.ext {base n : Nat} {w w' : World} {v : Value} {xs : List Value} (h : CircL base n w v xs) (hx : Ext w w') : CircL base n w' v xs :=
  ⟨ownsRow_ext h.1 hx, fun r hr => (h.2.1 r hr).ext hx, h.2.2⟩

theorem CircL.nil (base n : Nat) (w : World) : CircL base n w (.slice none 0 0) [] := ⟨World.ownsRow_nil w base _ 1, fun r hr => (List.not_mem_nil hr).elim, fun _ => rfl⟩

theorem CircL.slice {base n : Nat} {w : World} {v : Value} {xs : List Value} (h : CircL base n w v xs) : ∃ a c, v = .slice a xs.length c := by
  rcases h.1.2 with ⟨rfl, hn⟩ | ⟨g, cap, cur, rfl, _⟩
  · exact ⟨none, 0, by rw [hn]⟩
  · exact ⟨_, cap, rfl⟩

theorem CircL.cases {base n : Nat} {w : World} {v : Value} {xs : List Value} (h : CircL base n w v xs) : (v = .slice none 0 0 ∧ xs = []) ∨ v ≠ .slice none 0 0 := by
  rcases h.1.2 with ⟨rfl, hn⟩ | ⟨g, cap, cur, rfl, _⟩
  · exact .inl ⟨rfl, List.length_eq_zero_iff.1 hn⟩
  · exact .inr (by simp)

theorem wpList_append_big {P : Program} {w : World} {ops : Array Oper} {rest : List Oper} {o : Oper} {a : Act} {Q : Exit → Act → World → Prop} (hgd : o.guard = none) (s x : Operand) (t e : TypeId)
    (ho : o.op = .call { callee := .builtin .append, args := #[s, x], argTypes := #[t, t] }) (ht : P.underlying t = some (.slice e)) (hinfo : (P.info? e).map (fun i => (i.zero, i.size, i.bytes)) = some (some (.slice none 0 0), 1, 24))
    (base : Nat) (v : Value) (n : Nat) (xs : List Value) (hs : a.eval s = v) (hown : w.ownsRow base e 1 v n xs) (hv : v ≠ .slice none 0 0) (g q c m : Nat) (ys : List Value) (hm : ys.length = m) (hx : a.eval x = .slice (some ⟨g, q, none⟩) m c)
    (hc : ∀ i x, ys[i]? = some x → w.cell? ⟨g, q + i, none⟩ = some x) (h1 : ∀ u ∈ ys, u.oneCell' = true) (hl : n + m ≤ 4398046511104) (hbase : base ≤ w.heap.size)
    (h : ∀ v' w', w'.ownsRow base e 1 v' (n + m) (xs ++ ys) → w.grownBy w' v.ownBlock → v' ≠ .slice none 0 0 → wpList P ops Q rest (a.put o.dst v') w') : wpList P ops Q (o :: rest) a w := by
  obtain ⟨i0, hi, hz0, hz1, hz2⟩ := info_parts hinfo
  refine wpList_append_own w hgd s x t ho base e i0 (.slice none 0 0) 1 24 ht hi hz0 hz1 hz2 rfl (by decide) v n xs hs hown ⟨g, q, none⟩ m c ys hx (by rw [hm]; simp) ?_ h1 (by unfold maxLen; omega) (by omega) hbase fun v' w' h1 h2 h3 => h v' w' h1 h2 (fun e => hv (h3.1 e).1)
  intro j u hj
  rw [Addr.add_lit]
  exact hc j u hj
end Go.Proofs.YthlafeefjonkdaaGreatDoor


namespace Go.Proofs.YthlafeefjonkdaaGreatDoor
set_option linter.unusedVariables false
set_option linter.unusedSimpArgs false
open Go.RowKit
attribute [local go_sem ↓] Go.wp_at_zero Go.wp_at_succ
open Go.Deep

set_option maxRecDepth 100000 in
set_option maxHeartbeats 2000000 in
theorem l03Before_any (az bz : List (List (List Int))) (v u : Value) (n : Nat) (w : World) (hv : Tabs w v az) (hu : Tabs w u bz) (hA : TabsOk n az) (hB : TabsOk n bz) (hab : az.length = bz.length) (h12 : n ≤ 12) (hts : az.length ≤ 2) :
    Calls Tryz.prog 124 #[v, u] w fun e w' => e = .returned (.bool (befG az bz az.length 0)) ∧ Drawn w w' := by
  obtain ⟨hla, b, o, c, rfl, hc⟩ := id hv
  obtain ⟨hlb, b2, o2, c2, rfl, hc2⟩ := id hu
  have HA := Lib.hid hA
  have HB := Lib.hid hB
  have HAB := Lib.hid hab
  rw [← hab]
  clear hA hB hab hv hu hlb
  go_enter Tryz.func124, Tryz.ntmps124
  go_wp2_with fail
  go_loopw [5] (fun x wr => ∃ k : Nat, k ≤ az.length ∧ x = .int .i64 k ∧ befG az bz az.length 0 = befG az bz (az.length - k) k ∧ Drawn w wr) (fun x _ => az.length - (intOf x).toNat)
  case atStart => exact ⟨0, Nat.zero_le _, rfl, rfl, Drawn.refl _⟩
  case round =>
    obtain ⟨k, hk, rfl, he, hd⟩ := hrel
    have HE := Lib.hid he
    have HD := Lib.hid hd
    clear he hd
    by_cases hkl : k < az.length
    case neg =>
      have hkk : k = az.length := by omega
      subst hkk
      go_wp2
      go_ret
      exact ⟨by rw [HE.out, Nat.sub_self, befG_zero]; rfl, HD.out⟩
    case pos =>
      obtain ⟨t1, t2, t3, q1, r1⟩ := (hc.ext HD.out.ext).get hkl
      obtain ⟨u1, u2, u3, q2, r2⟩ := (hc2.ext HD.out.ext).get (k := k) (by have := HAB.out; omega)
      have hla1 := (HA.out k hkl).2
      have hlb1 := (HB.out k (by have := HAB.out; omega)).2
      have hta := (HA.out k hkl).1
      have htb := (HB.out k (by have := HAB.out; omega)).1
      rw [hla1] at q1
      rw [hlb1] at q2
      have HE2 := Lib.hid (show befG az bz az.length 0 = befR az bz (az.length - (k + 1)) k 0 by rw [HE.out, show az.length - k = (az.length - (k + 1)) + 1 by omega, befG_row])
      have HTA := Lib.hid hta
      have HTB := Lib.hid htb
      have HLA := Lib.hid hla1
      have HLB := Lib.hid hlb1
      clear hta htb hla1 hlb1
      go_wp2_with fail
      go_loopw [6] (fun x wr2 => ∃ j : Nat, j ≤ n ∧ x = .int .i64 j ∧ befG az bz az.length 0 = befR az bz (az.length - (k + 1)) k j ∧ Drawn wr wr2) (fun x _ => n - (intOf x).toNat)
      case atStart => exact ⟨0, Nat.zero_le _, rfl, HE2.out, Drawn.refl _⟩
      case round =>
        obtain ⟨j, hj, rfl, he, hd⟩ := hrel
        have HE3 := Lib.hid he
        have HD2 := Lib.hid hd
        clear he hd
        have q1' := HD2.out.ext.cell q1
        have q2' := HD2.out.ext.cell q2
        by_cases hjn : j < n
        case neg =>
          have hjj : j = n := by omega
          subst hjj
          have HEE := Lib.hid (befR_end (az := az) (bz := bz) (d := az.length - (k + 1)) (k := k) (x := j) (by rw [HLA.out]; exact Nat.le_refl _) (by rw [HLB.out]; exact Nat.le_refl _))
          go_wp2_with fail
          go_roundw
          case rel => exact ⟨k + 1, by omega, by go_num, by rw [HE3.out, HEE.out], HD.out.trans HD2.out⟩
          case measure => simp [intOf]; omega
        case pos =>
          obtain ⟨d1, s1, m1, p1, i1, l1⟩ := (r1.ext HD2.out.ext).get (i := j) (by rw [HLA.out]; exact hjn)
          obtain ⟨d2, s2, m2, p2, i2, l2⟩ := (r2.ext HD2.out.ext).get (i := j) (by rw [HLB.out]; exact hjn)
          have I1 := Lib.hid (i1.ints l1 m1)
          have I2 := Lib.hid (i2.ints l2 m2)
          clear i1 i2
          cases hs : eqIB (row (tab az k) j) (row (tab bz k) j) with
          | true =>
            have HN := Lib.hid (befR_same (az := az) (bz := bz) (d := az.length - (k + 1)) (k := k) (x := j) (by rw [HLA.out]; exact hjn) (by rw [HLB.out]; exact hjn) hs)
            go_wp2_with fail
            go_quiet ((go_at_call 111; exact Calls.quiet_of ((l01Same_any (row (tab az k) j) (row (tab bz k) j) _ _ _ (I1.out.ext ((Ext.refl _).drewN _)).toR (I2.out.ext ((Ext.refl _).drewN _)).toR l1).mono fun _ _ ⟨h1, h2⟩ => ⟨by rw [hs] at h1; exact h1, h2⟩)))
            go_wp2_with fail
            go_roundw
            case rel => exact ⟨j + 1, by omega, by go_num, by rw [HE3.out, HN.out], HD2.out.trans ((Drawn.refl _).drewN _)⟩
            case measure => simp [intOf]; omega
          | false =>
            have HN := Lib.hid (befR_diff (az := az) (bz := bz) (d := az.length - (k + 1)) (k := k) (x := j) (by rw [HLA.out]; exact hjn) (by rw [HLB.out]; exact hjn) hs)
            go_wp2_with fail
            go_quiet ((go_at_call 111; exact Calls.quiet_of ((l01Same_any (row (tab az k) j) (row (tab bz k) j) _ _ _ (I1.out.ext ((Ext.refl _).drewN _)).toR (I2.out.ext ((Ext.refl _).drewN _)).toR l1).mono fun _ _ ⟨h1, h2⟩ => ⟨by rw [hs] at h1; exact h1, h2⟩)))
            go_wp2_with fail
            generalize hw7 : World.drewN _ _ = w7
            have hd7 : Drawn wr w7 := ⟨_, hw7.symm⟩
            have HD7 := Lib.hid hd7
            replace q1' := hd7.ext.cell q1'
            replace q2' := hd7.ext.cell q2'
            replace p1 := hd7.ext.cell p1
            replace p2 := hd7.ext.cell p2
            clear hw7 hd7 q1 q2
            go_quiet ((go_at_call 110; exact Calls.quiet_of ((l01Less_any (row (tab az k) j) (row (tab bz k) j) _ _ _ (I1.out.ext (HD7.out.ext.trans ((Ext.refl _).drewN _))) (I2.out.ext (HD7.out.ext.trans ((Ext.refl _).drewN _)))).mono fun _ _ ⟨h1, h2⟩ => ⟨h1, h2⟩)))
            go_wp2_with fail
            go_ret
            exact ⟨by rw [HE3.out, HN.out]; rfl, ((HD.out.trans HD2.out).trans HD7.out).trans ((Drawn.refl _).drewN _)⟩
end Go.Proofs.YthlafeefjonkdaaGreatDoor
