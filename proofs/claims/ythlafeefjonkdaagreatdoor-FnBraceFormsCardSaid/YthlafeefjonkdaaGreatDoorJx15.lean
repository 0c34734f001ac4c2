/-
  Contract of l03Seek: the maps that go on with a beginning.
-/
import Derived.Test.YthlafeefjonkdaaGreatDoorJx13
import Derived.Test.YthlafeefjonkdaaGreatDoorJx14
namespace Go.Proofs.YthlafeefjonkdaaGreatDoor
set_option linter.unusedVariables false
set_option linter.unusedSimpArgs false
open Go.RowKit
attribute [local go_sem ↓] Go.wp_at_zero Go.wp_at_succ

theorem own_grow (l : List Int) (v : Value) (w : World) (hv : Ints w v l) :
    Calls Tryz.prog 71 #[v] w fun e w' => ∃ b c, e = .returned (.slice (some ⟨b, 0, none⟩) l.length c) ∧ GrowI 2 w.heap.size w' (.slice (some ⟨b, 0, none⟩) l.length c) l ∧ OwnI w.heap.size w'.heap.size w' b 0 l ∧ Ext w w' := by
  obtain ⟨hlen, b, o, c, rfl, hc⟩ := hv
  have hx0 : Ext w (w.alloc (.cells #[] 2)) := (Ext.refl _).alloc _
  have hi0 := GrowI.lit (e := 2) (base := w.heap.size) (w := w) (Nat.le_refl _)
  go_enter Tryz.func71, Tryz.ntmps71
  go_wp2_with (at_builtin; refine wpList_append_ints rfl _ _ 29 2 rfl Tryz.underlying29 infoInt w.heap.size _ _ rfl hi0 b o c l rfl (hc.ext hx0) (by simp) hlen (by simp) ?_)
  intro v' w3 hi3 hgr hv3
  have hx3 : Ext w w3 := hx0.grown hgr hi0 (Nat.le_refl _)
  obtain ⟨b3, c3, rfl, ho⟩ := hi3.own (fun h => by first | exact hv3 h | simpa using (hv3.1 h).1)
  go_wp2
  go_ret
  exact ⟨b3, c3, rfl, hi3, ho, hx3⟩

theorem wpList_append_row_at {P : Program} {w : World} {ops : Array Oper} {rest : List Oper} {o : Oper} {a : Act} {Q : Exit → Act → World → Prop} (hgd : o.guard = none) (s x : Operand) (t e : TypeId)
    (ho : o.op = .call { callee := .builtin .append, args := #[s, x], argTypes := #[t, t] }) (ht : P.underlying t = some (.slice e)) (hinfo : (P.info? e).map (fun i => (i.zero, i.size, i.bytes)) = some (some (.slice none 0 0), 1, 24))
    (base : Nat) (v : Value) (tb : List (List Int)) (hs : a.eval s = v) (hown : GrowT e base w v tb) (g : Nat) (br cr : Nat) (l : List Int) (hx : a.eval x = .slice (some ⟨g, 0, none⟩) 1 1) (hc : w.cell? ⟨g, 0, none⟩ = some (.slice (some ⟨br, 0, none⟩) l.length cr)) (hr : IntsAt w br 0 l)
    (hrl : l.length ≤ 1048576) (hne : some br ≠ v.ownBlock)
    (hl : tb.length ≤ 1048576) (hbase : base ≤ w.heap.size)
    (h : ∀ v' w', GrowT e base w' v' (tb ++ [l]) → w.grownBy w' v.ownBlock → v' ≠ .slice none 0 0 → (v'.ownBlock = v.ownBlock ∨ v'.ownBlock = some w.heap.size) → wpList P ops Q rest (a.put o.dst v') w') : wpList P ops Q (o :: rest) a w := by
  obtain ⟨i0, hi, hz0, hz1, hz2⟩ := info_parts hinfo
  obtain ⟨xs, h1, h2⟩ := hown
  refine wpList_append_own_at w hgd s x t ho base e i0 (.slice none 0 0) 1 24 ht hi hz0 hz1 hz2 rfl (by decide) v tb.length xs hs h1 ⟨g, 0, none⟩ 1 1 [.slice (some ⟨br, 0, none⟩) l.length cr] hx rfl ?_ ?_ (by unfold maxLen; omega) (by omega) hbase ?_
  · intro j u hj
    match j, hj with
    | 0, hj => simp at hj; subst hj; simpa [Addr.add] using hc
  · intro u hu; simp at hu; subst hu; rfl
  · intro v' w' k1 k2 k3 k4
    refine h v' w' ⟨xs ++ [.slice (some ⟨br, 0, none⟩) l.length cr], by simpa using k1, fun i hi => ?_⟩ k2 (fun e => by have := k3.1 e; simp at this) k4
    have hxl : xs.length = tb.length := by simpa using h1.1
    by_cases hi' : i < tb.length
    · obtain ⟨q0, b, c, q1, q2⟩ := h2 i hi'
      have hrow : row (tb ++ [l]) i = row tb i := by rw [row_eq, row_eq]; simp [List.getD, List.getElem?_append_left hi']
      rw [hrow]
      refine ⟨q0, b, c, by rw [List.getElem?_append_left (by omega)]; exact q1, intsAt_grown q2 k2 (fun hne' hb => ?_)⟩
      have hpos : 0 < (row tb i).length := List.length_pos_iff.2 hne'
      have hcc := q2 0 hpos
      obtain ⟨_, b0, c0, z1, _⟩ := h2 0 (by omega)
      have := World.ownsRow.cells h1 (g := b) hb.symm 0 _ z1
      rw [Addr.add_lit] at this
      rw [this] at hcc
      simp at hcc
    · have hie : i = tb.length := by simp at hi; omega
      subst hie
      have hrow : row (tb ++ [l]) tb.length = l := by rw [row_eq]; simp [List.getD]
      rw [hrow]
      exact ⟨hrl, br, cr, by rw [List.getElem?_append_right (by omega), hxl]; simp, intsAt_grown hr k2 (fun _ => hne)⟩

theorem Ext.grownBy {w w' : World} (h : Ext w w') (row : Option Nat) : w.grownBy w' row := ⟨h.os, h.tape, h.output, h.size, fun k hk _ => h.block k hk⟩
theorem grownBy_ext {w w1 w' : World} {row : Option Nat} (h : w.grownBy w1 row) (hx : Ext w1 w') : w.grownBy w' row :=
  ⟨hx.os.trans h.os, hx.tape.trans h.tape, hx.output.trans h.output, Nat.le_trans h.size hx.size, fun k hk hr => (hx.block k (Nat.lt_of_lt_of_le hk h.size)).trans (h.block k hk hr)⟩
theorem grownBy_trans {w w1 w' : World} {row row' : Option Nat} (h : w.grownBy w1 row) (k : w1.grownBy w' row') (hr : row' = row ∨ ∃ g, row' = some g ∧ w.heap.size ≤ g) : w.grownBy w' row :=
  ⟨k.os.trans h.os, k.tape.trans h.tape, k.output.trans h.output, Nat.le_trans h.size k.size, fun q hq hn => by
    refine (k.block q (Nat.lt_of_lt_of_le hq h.size) ?_).trans (h.block q hq hn)
    rcases hr with e | ⟨g, e, hg⟩
    · rw [e]; exact hn
    · rw [e]; intro h; injection h with h; omega⟩
theorem IntsAt.grown {w w' : World} {b o : Nat} {l : List Int} {row : Option Nat} (h : IntsAt w b o l) (hg : w.grownBy w' row) (hne : row ≠ some b) : IntsAt w' b o l := fun i hi =>
  hg.cell (h i hi) (fun e => hne e.symm)
theorem ext_grownBy {a w w' : World} {row : Option Nat} (h : Ext a w) (hg : w.grownBy w' row) (hr : ∀ k, row = some k → a.heap.size ≤ k) : Ext a w' := Below.grown h hg h.size hr


def OwnAt (vo vo' : Value) (w : World) : Prop := vo'.ownBlock = vo.ownBlock ∨ ∃ g, vo'.ownBlock = some g ∧ w.heap.size ≤ g
theorem intsAt_lt {w : World} {b o : Nat} {l : List Int} (h : IntsAt w b o l) (hl : 0 < l.length) : b < w.heap.size := World.block_lt_of_cell? _ _ (h 0 hl)
theorem ix_set' (l : List Int) (i j : Nat) (v : Int) (hj : j < l.length) : ix (l.set i v) j = if i = j then v else ix l j := by
  rw [ix_eq, ix_eq]
  by_cases h : i = j
  · subst h; simp [List.getD, hj]
  · simp [List.getD, h, List.getElem?_set_ne]
theorem intsAt_set {w : World} {b i : Nat} {l : List Int} {y : Int} (h : IntsAt w b 0 l) (hi : i < l.length) : IntsAt (w.setCell ⟨b, i, none⟩ (.int .i64 y)) b 0 (l.set i y) :=
  h.set0 i y hi (by simp) (fun j hj hl => by rw [ix_set' _ _ _ _ hl, if_neg (fun e => hj e.symm)]) (by rw [ix_set' _ _ _ _ hi, if_pos rfl])
theorem fits_no {n m : Nat} {az bz : List (List (List Int))} {f : List Int} (hA : TabsOk n az) (hf : ∀ i, i < f.length → 0 ≤ ix f i) (hl : f.length = m + 1) (hm : m < n) (h : fitsB az bz f m = false) : extL n az bz f = [] := by
  apply Classical.byContradiction
  intro hne
  have : fitsB az bz f m = true := fitsB_iff.2 fun k hk x hx y hy => by
    by_cases h1 : (m : Int) < ent (tab az k) x y
    · exact .inl h1
    · refine .inr (.inr ?_)
      apply Classical.byContradiction
      intro hno
      exact hne (ext_no_fit hA hf (by omega) hk (by omega) (by omega) (by omega) hno)
  rw [this] at h
  cases h
theorem fits_yes {n m : Nat} {az bz : List (List (List Int))} {f : List Int} {y : Nat} (hA : TabsOk n az) (hb : Begun n az bz f) (hl : f.length = m) (hm : m < n) (hy : y < n) (hh : hasB f y = false) (h : fitsB az bz (f ++ [(y : Int)]) m = true) : Begun n az bz (f ++ [(y : Int)]) := by
  subst hl
  exact begun_snoc (l := 0) hb hy hh (fun k hk x hx q hq => fitsB_iff.1 h k hk x hx q hq) (fun k hk x hx q hq => (hA.bd hk (by omega) (by omega)).1)
def SeekPost (n most : Nat) (az bz : List (List (List Int))) (f : List Int) (s : List (List Int)) (vo : Value) (base : Nat) (w : World) (e : Ending) (w' : World) : Prop :=
  ∃ v', e = .returned v' ∧ GrowT 29 base w' v' (s ++ (extL n az bz f).take (most - s.length)) ∧ w.grownBy w' vo.ownBlock ∧ OwnAt vo v' w

set_option maxRecDepth 1000000 in
set_option maxHeartbeats 8000000 in
theorem l03Seek_any (az bz : List (List (List Int))) (v u : Value) (n most : Nat) (wB : World) (hv : Tabs wB v az) (hu : Tabs wB u bz) (hA : TabsOk n az) (hB : TabsOk n bz) (hab : az.length = bz.length) (h1 : 1 ≤ n) (h12 : n ≤ 12) (hts : az.length ≤ 2) (hmost : most ≤ 1000000) :
    ∀ (d m : Nat) (f l r : List Int) (bf qf cf b1 o1 c1 b2 o2 c2 : Nat) (s : List (List Int)) (vo : Value) (w : World), f.length = m → 1 ≤ m → m + d = n → Ext wB w → IntsAt w bf qf f → IntsAt w b1 o1 l → IntsAt w b2 o2 r → ColOk n l → ColOk n r → Begun n az bz f →
      (∀ p, IsoOk n az bz p → ExtP f p → Resp n l r p) → GrowT 29 wB.heap.size w vo s → vo.ownBlock ≠ some bf → vo.ownBlock ≠ some b1 → vo.ownBlock ≠ some b2 → s.length < most →
      Calls Tryz.prog 78 #[v, u, .slice (some ⟨bf, qf, none⟩) m cf, .slice (some ⟨b1, o1, none⟩) n c1, .slice (some ⟨b2, o2, none⟩) n c2, .int .i64 most, vo] w (SeekPost n most az bz f s vo wB.heap.size w) := by
  have HA := Lib.hid hA
  have HB := Lib.hid hB
  have HAB := Lib.hid hab
  have hlb : bz.length ≤ 2 := by omega
  clear hA hB hab
  intro d
  induction d with
  | zero =>
    intro m f l r bf qf cf b1 o1 c1 b2 o2 c2 s vo w hfl hm hmd hX hf hl hr hcl hcr hbeg hresp hg hn1 hn2 hn3 hsl
    have hmn : n = m := by omega
    subst hmn
    have hiso := begun_iso HA.out hbeg hfl
    have HE := Lib.hid (show s ++ [f] = s ++ (extL n az bz f).take (most - s.length) by
      rw [extL_one hiso, List.take_of_length_le (by simp; omega)])
    have HFL := Lib.hid hfl
    have HLT := Lib.hid hg.lt
    obtain ⟨va, vc, rfl⟩ := hg.slice
    have hif : Ints w (.slice (some ⟨bf, qf, none⟩) n cf) f := ⟨by omega, bf, qf, cf, by rw [hfl], hf⟩
    have hXs := hX.size
    clear hfl hiso hcl hcr hbeg hresp hf hl hr
    go_enter Tryz.func78, Tryz.ntmps78
    go_wp2_with fail
    refine (own_grow f _ _ hif).mono ?_
    rintro e w1 ⟨b3, c3, rfl, hi3, ho3, hx1⟩
    have hne : some b3 ≠ (Value.slice va s.length vc).ownBlock := fun e => by have := HLT.out b3 e.symm; have := ho3.1; omega
    have z1 := hx1.size
    go_wp2_with (at_builtin; refine wpList_append_row_at rfl _ _ 24 29 rfl Tryz.underlying24 infoSl wB.heap.size _ _ rfl (hg.ext (hx1.trans (ext_box _ _ _))) _ b3 c3 f rfl (cell_new _ _ _) (ho3.2.2.1.ext (ext_box _ _ _)) (by rw [HFL.out]; omega) hne (by omega) (by simp; omega) ?_)
    intro v' w3 hg3 hgr hv3 hat
    have HG3 := Lib.hid hg3
    have HGR := Lib.hid (grownBy_trans ((hx1.trans (ext_box _ _ _)).grownBy _) hgr (.inl rfl))
    have HAT := Lib.hid hat
    clear hgr hat hv3 hg3
    go_wp2
    go_ret
    refine ⟨_, rfl, by rw [← HE.out]; exact HG3.out, HGR.out, ?_⟩
    rcases HAT.out with e | e
    · exact .inl e
    · exact .inr ⟨_, e, by first | omega | (simp; omega)⟩
  | succ d ih =>
    have IH := Lib.hid ih
    clear ih
    intro m f l r bf qf cf b1 o1 c1 b2 o2 c2 s vo w hfl hm hmd hX hf hl hr hcl hcr hbeg hresp hg hn1 hn2 hn3 hsl
    have hmn : m < n := by omega
    have hmb : ((m : Int) == (n : Int)) = false := by simp; omega
    have HFL := Lib.hid hfl
    have HCL := Lib.hid hcl
    have HCR := Lib.hid hcr
    have HBG := Lib.hid hbeg
    have HRS := Lib.hid hresp
    have HNE := Lib.hid (And.intro hn1 (And.intro hn2 hn3))
    have hXs := hX.size
    have zf := intsAt_lt hf (by omega)
    have zl := intsAt_lt hl (by rw [hcl.1]; omega)
    have zr := intsAt_lt hr (by rw [hcr.1]; omega)
    have HF0 := Lib.hid (fun i (hi : i < f.length) => (hbeg.1 i hi).1)
    have HEL := Lib.hid (show (extL n az bz f).Pairwise fun p q => ix p m ≤ ix q m from extL_le (by omega) (fun i hi => (hbeg.1 i (by omega)).1))
    have HE0 := Lib.hid (show below (extL n az bz f) m 0 = [] from below_zero fun p hp => ((mem_extL.1 hp).1.bd hmn).1)
    have HEN := Lib.hid (show below (extL n az bz f) m n = extL n az bz f from below_all fun p hp => by have := (mem_extL.1 hp).1.bd hmn; omega)
    have HEA := Lib.hid (fun k => show ((extL n az bz f).filter fun p => decide (ix p m = ((k : Nat) : Int))) = extL n az bz (f ++ [((k : Nat) : Int)]) from extL_at fun p _ => by rw [← hfl]; exact extP_snoc (by omega))
    have HOL := Lib.hid (fun g h => (hg.lt g h).1)
    have HMD := Lib.hid hmd
    clear hfl hcl hcr hbeg hresp hn1 hn2 hn3 hmd
    go_enter Tryz.func78, Tryz.ntmps78
    go_wp2_with fail
    go_loopw [6, 16] (fun vq y wr => ∃ k : Nat, k ≤ n ∧ y = .int .i64 k ∧ GrowT 29 wB.heap.size wr vq (s ++ (below (extL n az bz f) m k).take (most - s.length)) ∧ w.grownBy wr vo.ownBlock ∧ OwnAt vo vq w) (fun _ y _ => n - (intOf y).toNat)
    case atStart => exact ⟨0, Nat.zero_le _, rfl, by rw [HE0.out, List.take_nil, List.append_nil]; exact hg, (Ext.refl w).grownBy _, .inl rfl⟩
    case round =>
      clear hg
      obtain ⟨k, hk, rfl, hg, hgw, hat⟩ := hrel
      obtain ⟨S, hS⟩ : ∃ S, S = s ++ (below (extL n az bz f) m k).take (most - s.length) := ⟨_, rfl⟩
      rw [← hS] at hg
      obtain ⟨sa, sc, rfl⟩ := hg.slice
      have HS := Lib.hid hS
      have HAT := Lib.hid hat
      have HGW := Lib.hid hgw
      have HGG := Lib.hid hg
      clear hS hat hgw hg
      by_cases hkn : k < n
      case neg =>
        have hkk : n = k := by omega
        subst hkk
        go_wp2
        go_ret
        exact ⟨_, rfl, by rw [show s ++ (extL n az bz f).take (most - s.length) = S by rw [HS.out, HEN.out]]; exact HGG.out, HGW.out, HAT.out⟩
      case pos =>
        by_cases hsm : S.length < most
        case neg =>
          have hsm2 : ¬ (S.length : Int) < (most : Int) := by omega
          go_wp2
          go_ret
          refine ⟨_, rfl, ?_, HGW.out, HAT.out⟩
          obtain ⟨X, hXX⟩ := below_split (x := m) k HEL.out
          rw [HS.out] at hsm
          rw [show s ++ (extL n az bz f).take (most - s.length) = S by rw [HS.out, take_full s _ X most (by omega) hsm, ← hXX]]
          exact HGG.out
        case pos =>
          have hsm2 : (S.length : Int) < (most : Int) := by omega
          have HROW := Lib.hid (show Ext wB wr from ext_grownBy hX HGW.out HOL.out)
          have gf := hf.grown HGW.out HNE.out.1
          have gl := hl.grown HGW.out HNE.out.2.1
          have gr := hr.grown HGW.out HNE.out.2.2
          have hif : Ints wr (.slice (some ⟨bf, qf, none⟩) m cf) f := ⟨by rw [HFL.out]; omega, bf, qf, cf, by rw [HFL.out], gf⟩
          have hil : Ints wr (.slice (some ⟨b1, o1, none⟩) n c1) l := ⟨by rw [HCL.out.1]; omega, b1, o1, c1, by rw [HCL.out.1], gl⟩
          have hir : Ints wr (.slice (some ⟨b2, o2, none⟩) n c2) r := ⟨by rw [HCR.out.1]; omega, b2, o2, c2, by rw [HCR.out.1], gr⟩
          have HNX := Lib.hid (show below (extL n az bz f) m (k + 1) = below (extL n az bz f) m k ++ extL n az bz (f ++ [(k : Int)]) by rw [below_succ k HEL.out, HEA.out k])
          have zw := HGW.out.size
          have HLT := Lib.hid HGG.out.lt
          clear gf
          go_wp2_with fail
          refine (own_grow f _ _ hif).mono ?_
          rintro e w1 ⟨b3, c3, rfl, hi3, -, hx1⟩
          rw [HFL.out] at hi3 ⊢
          have z1 := hx1.size
          go_wp2_with (at_builtin; refine wpList_append_int rfl _ _ 29 2 rfl Tryz.underlying29 infoInt wr.heap.size _ _ rfl (hi3.alloc _) _ _ rfl (cell_new _ _ _) (by rw [HFL.out]; omega) (by simp; omega) ?_)
          intro v2 w2 hi4 hgr2 hv2
          have hx2 : Ext wr w2 := Ext.grown (hx1.trans (ext_box _ _ _)) hgr2 (hi3.alloc _) (Nat.le_refl _)
          obtain ⟨b4, c4, rfl, i4, lo4, hi4b⟩ := hi4.row hv2
          have hl4 : (f ++ [(k : Int)]).length = m + 1 := by rw [List.length_append, HFL.out]; rfl
          rw [hl4]
          have HL4 := Lib.hid hl4
          clear hl4 hgr2 hv2 hi4 hi3
          have z2 := hx2.size
          have e1 := hx2.cell (gl m (by rw [HCL.out.1]; omega))
          have e2 := hx2.cell (gr k (by rw [HCR.out.1]; omega))
          have HIF := Lib.hid (hif.ext hx2)
          have HIN := Lib.hid (show Ints w2 (.slice (some ⟨b4, 0, none⟩) (m + 1) c4) (f ++ [(k : Int)]) from ⟨by rw [HL4.out]; omega, b4, 0, c4, by rw [HL4.out], i4⟩)
          have HVV := Lib.hid ((hv.ext HROW.out).ext hx2)
          have HUU := Lib.hid ((hu.ext HROW.out).ext hx2)
          have HFB := Lib.hid (show ∀ i, i < m + 1 → 0 ≤ ix (f ++ [(k : Int)]) i ∧ ix (f ++ [(k : Int)]) i < n from fun i hi => by
            by_cases e : i < f.length
            · rw [ix_app e]; exact HBG.out.1 i e
            · have : i = f.length := by have := HFL.out; omega
              subst this
              rw [ix_snoc]; omega)
          have hmi : (m : Int) < (n : Int) := by omega
          have hki : (k : Int) < (n : Int) := by omega
          have HI4 := Lib.hid i4
          clear gl gr hif i4
          cases hh : hasB f (k : Int) with
          | true =>
            have HX0 := Lib.hid (ext_no_has (az := az) (bz := bz) HF0.out (by rw [HFL.out]; exact hmn) hh)
            go_wp2_with fail
            go_quiet ((go_at_call 80; exact Calls.quiet_of ((l01Has_any f _ (k : Int) _ (HIF.out.ext ((Ext.refl _).drewN _))).mono fun _ _ ⟨h1, h2⟩ => ⟨by rw [hh] at h1; exact h1, h2 ▸ Drawn.refl _⟩)))
            go_wp2
            go_roundw
            case rel => exact ⟨k + 1, by omega, by go_num, by rw [HNX.out, HX0.out, List.append_nil, ← HS.out]; exact HGG.out.ext (hx2.trans ((Ext.refl _).drewN _)), grownBy_ext HGW.out (hx2.trans ((Ext.refl _).drewN _)), HAT.out⟩
            case measure => simp [intOf]; omega
          | false =>
            cases hc : (ix l m != ix r k) with
            | true =>
              have HX0 := Lib.hid (ext_no_colour (y := k) HRS.out (by rw [HFL.out]; exact hmn) (by rw [HFL.out]; simpa using hc))
              go_wp2_with fail
              go_quiet ((go_at_call 80; exact Calls.quiet_of ((l01Has_any f _ (k : Int) _ (HIF.out.ext ((Ext.refl _).drewN _))).mono fun _ _ ⟨h1, h2⟩ => ⟨by rw [hh] at h1; exact h1, h2 ▸ Drawn.refl _⟩)))
              go_wp2
              go_roundw
              case rel => exact ⟨k + 1, by omega, by go_num, by rw [HNX.out, HX0.out, List.append_nil, ← HS.out]; exact HGG.out.ext (hx2.trans ((Ext.refl _).drewN _)), grownBy_ext HGW.out (hx2.trans ((Ext.refl _).drewN _)), HAT.out⟩
              case measure => simp [intOf]; omega
            | false =>
              have HARM := Lib.hid True.intro
              cases hft : fitsB az bz (f ++ [(k : Int)]) m with
              | false =>
                have HX0 := Lib.hid (show extL n az bz (f ++ [(k : Int)]) = [] from fits_no HA.out (fun i hi => (HFB.out i (by rw [HL4.out] at hi; exact hi)).1) HL4.out hmn hft)
                go_wp2_with fail
                go_quiet ((first | (go_at_call 80; exact Calls.quiet_of ((l01Has_any f _ (k : Int) _ (HIF.out.ext ((Ext.refl _).drewN _))).mono fun _ _ ⟨h1, h2⟩ => ⟨by rw [hh] at h1; exact h1, h2 ▸ Drawn.refl _⟩)) | (go_at_call 76; exact Calls.quiet_of ((l03Fits_any az bz (f ++ [(k : Int)]) _ _ _ n m _ (HVV.out.ext ((Ext.refl _).drewN _)) (HUU.out.ext ((Ext.refl _).drewN _)) (HIN.out.ext ((Ext.refl _).drewN _)) HA.out HB.out HAB.out HL4.out hmn h12 HFB.out).mono fun _ _ ⟨h1, h2⟩ => ⟨by rw [hft] at h1; exact h1, h2⟩))))
                go_wp2
                go_roundw
                case rel => exact ⟨k + 1, by omega, by go_num, by rw [HNX.out, HX0.out, List.append_nil, ← HS.out]; exact HGG.out.ext (hx2.trans ((Ext.refl _).drewN _)), grownBy_ext HGW.out (hx2.trans ((Ext.refl _).drewN _)), HAT.out⟩
                case measure => simp [intOf]; omega
              | true =>
                go_wp2_with fail
                go_cut [71] (fun p wx => p = .bool false ∧ Drawn w2 wx)
                case first =>
                  go_quiet ((first | (go_at_call 80; exact Calls.quiet_of ((l01Has_any f _ (k : Int) _ (HIF.out.ext ((Ext.refl _).drewN _))).mono fun _ _ ⟨h1, h2⟩ => ⟨by rw [hh] at h1; exact h1, h2 ▸ Drawn.refl _⟩)) | (go_at_call 76; exact Calls.quiet_of ((l03Fits_any az bz (f ++ [(k : Int)]) _ _ _ n m _ (HVV.out.ext ((Ext.refl _).drewN _)) (HUU.out.ext ((Ext.refl _).drewN _)) (HIN.out.ext ((Ext.refl _).drewN _)) HA.out HB.out HAB.out HL4.out hmn h12 HFB.out).mono fun _ _ ⟨h1, h2⟩ => ⟨by rw [hft] at h1; exact h1, h2⟩))))
                  go_wp2_with fail
                  go_meet
                  case rel => exact ⟨rfl, (Drawn.refl _).drewN _⟩
                obtain ⟨rfl, hd⟩ := hcut
                obtain ⟨w3, rfl⟩ : ∃ w3 : World, w3 = wc := ⟨_, rfl⟩
                have hx3 := hx2.trans hd.ext
                have HBG2 := Lib.hid (fits_yes (y := k) HA.out HBG.out HFL.out hmn hkn hh hft)
                have HRO := Lib.hid (fun p (hp : IsoOk n az bz p) (he : ExtP (f ++ [(k : Int)]) p) => resp_own (y := k) HRS.out HCL.out.1 HCR.out.1 (by rw [HFL.out]; exact hmn) hkn hp he)
                rw [HFL.out] at HRO
                have z3 := hx3.size
                have zd := hd.ext.size
                clear hh hc hft e1 e2
                go_wp2_with fail
                refine (own_grow l _ _ (hil.ext hx3)).mono ?_
                rintro e w4 ⟨b5, c5, rfl, -, ho5, hx4⟩
                rw [HCL.out.1]
                have z4 := hx4.size
                go_wp2_with fail
                refine (own_grow r _ _ ((hir.ext hx3).ext hx4)).mono ?_
                rintro e w5 ⟨b6, c6, rfl, -, ho6, hx5⟩
                rw [HCR.out.1]
                have z5 := hx5.size
                have ho5' := ho5.block (hx5.block _ ho5.2.1)
                have hb56 : b5 < b6 := by have := ho5.2.1; have := ho6.1; omega
                have s1 : w5.cell? ⟨b5, m, none⟩ = some (.int .i64 (ix l m)) := by simpa using ho5'.2.2.1 m (by rw [HCL.out.1]; exact hmn)
                have s2 : w5.frozen? ⟨b5, m, none⟩ = false := by simpa using ho5'.2.2.2 m (by rw [HCL.out.1]; exact hmn)
                have s3 : w5.cell? ⟨b6, k, none⟩ = some (.int .i64 (ix r k)) := by simpa using ho6.2.2.1 k (by rw [HCR.out.1]; exact hkn)
                have s4 : w5.frozen? ⟨b6, k, none⟩ = false := by simpa using ho6.2.2.2 k (by rw [HCR.out.1]; exact hkn)
                have hbn : ¬ b6 = b5 := by omega
                have hbn2 : ¬ b5 = b6 := by omega
                have i5 : IntsAt ((w5.setCell ⟨b5, m, none⟩ (.int .i64 60)).setCell ⟨b6, k, none⟩ (.int .i64 60)) b5 0 (l.set m 60) := ki_set hbn2 (intsAt_set ho5'.2.2.1 (by rw [HCL.out.1]; exact hmn))
                have i6 : IntsAt ((w5.setCell ⟨b5, m, none⟩ (.int .i64 60)).setCell ⟨b6, k, none⟩ (.int .i64 60)) b6 0 (r.set k 60) := intsAt_set (ki_set hbn ho6.2.2.1) (by rw [HCR.out.1]; exact hkn)
                have hx6 : Ext wr ((w5.setCell ⟨b5, m, none⟩ (.int .i64 60)).setCell ⟨b6, k, none⟩ (.int .i64 60)) := (((hx3.trans hx4).trans hx5).setNew (by have := ho5.1; simp only []; omega) _).setNew (by have := ho6.1; simp only []; omega) _
                have hx26 : Ext w2 ((w5.setCell ⟨b5, m, none⟩ (.int .i64 60)).setCell ⟨b6, k, none⟩ (.int .i64 60)) := (((hd.ext.trans hx4).trans hx5).setNew (by have := ho5.1; simp only []; omega) _).setNew (by have := ho6.1; simp only []; omega) _
                have HX26 := Lib.hid hx26
                clear hx26
                have HI5 := Lib.hid i5
                have HI6 := Lib.hid i6
                have HX6 := Lib.hid hx6
                have HO5 := Lib.hid (And.intro ho5.1 ho6.1)
                have HC5 := Lib.hid (colOk_set HCL.out m)
                have HC6 := Lib.hid (colOk_set HCR.out k)
                clear i5 i6 hx6 ho5 ho5' ho6 hil hir
                go_wp2_with fail
                have hi5 : Ints ((w5.setCell ⟨b5, m, none⟩ (.int .i64 60)).setCell ⟨b6, k, none⟩ (.int .i64 60)) (.slice (some ⟨b5, 0, none⟩) n c5) (l.set m 60) := ⟨by rw [HC5.out.1]; omega, b5, 0, c5, by rw [HC5.out.1], HI5.out⟩
                have hi6 : Ints ((w5.setCell ⟨b5, m, none⟩ (.int .i64 60)).setCell ⟨b6, k, none⟩ (.int .i64 60)) (.slice (some ⟨b6, 0, none⟩) n c6) (r.set k 60) := ⟨by rw [HC6.out.1]; omega, b6, 0, c6, by rw [HC6.out.1], HI6.out⟩
                have hX6 := HX6.out
                have z6 := hX6.size
                generalize ((w5.setCell ⟨b5, m, none⟩ (.int .i64 60)).setCell ⟨b6, k, none⟩ (.int .i64 60)) = w6 at *
                refine (l03Refine_any az bz (l.set m 60) (r.set k 60) v u _ _ n _ ((hv.ext HROW.out).ext hX6) ((hu.ext HROW.out).ext hX6) hi5 hi6 HA.out HB.out HAB.out HC5.out HC6.out h1 h12 hts).mono ?_
                rintro e w7 ⟨v1', v2', ok, rfl, hx7, hok, hno⟩
                have HOK := Lib.hid hok
                have HNO := Lib.hid hno
                clear hok hno hi5 hi6
                have z7 := hx7.size
                cases ok with
                | false =>
                  have HX0 := Lib.hid (show extL n az bz (f ++ [(k : Int)]) = [] from extL_nil fun p hp he => HNO.out rfl p hp (HRO.out p hp he))
                  go_wp2
                  go_roundw
                  case rel => exact ⟨k + 1, by omega, by go_num, by rw [HNX.out, HX0.out, List.append_nil, ← HS.out]; exact HGG.out.ext (hX6.trans hx7), grownBy_ext HGW.out (hX6.trans hx7), HAT.out⟩
                  case measure => simp [intOf]; omega
                | true =>
                  obtain ⟨l2, r2, b7, o7, c7, b8, o8, c8, rfl, rfl, ⟨q1, q2, q3, q4⟩, i7, i8, hcl2, hcr2, hke⟩ := HOK.out rfl
                  have hx27 := HX26.out.trans hx7
                  have HKE := Lib.hid hke
                  clear hke HOK HNO
                  go_wp2_with fail
                  refine (IH.out (m + 1) (f ++ [(k : Int)]) l2 r2 b4 0 c4 b7 o7 c7 b8 o8 c8 S _ w7 HL4.out (by omega) (by have := HMD.out; omega) (HROW.out.trans (hX6.trans hx7)) (HI4.out.ext hx27) i7 i8 hcl2 hcr2 HBG2.out (fun p hp he => HKE.out p hp (HRO.out p hp he)) (HGG.out.ext (hX6.trans hx7)) (fun e => by have := HLT.out _ e; omega) (fun e => by have := HLT.out _ e; omega) (fun e => by have := HLT.out _ e; omega) hsm).mono ?_
                  rintro e w8 ⟨v8, rfl, hg8, hgr8, hat8⟩
                  have HG8 := Lib.hid hg8
                  have HGR8 := Lib.hid (grownBy_trans (grownBy_ext HGW.out (hX6.trans hx7)) hgr8 HAT.out)
                  have HAT8 := Lib.hid hat8
                  clear hg8 hgr8 hat8
                  go_wp2
                  go_roundw
                  case rel => exact ⟨k + 1, by omega, by go_num, by
                    have h8 := HG8.out
                    have hl8 := hsm
                    rw [HS.out] at h8 hl8
                    rw [take_round s _ _ most (by omega) hl8] at h8
                    rw [HNX.out]
                    exact h8, HGR8.out, by
                    rcases HAT8.out with e | ⟨g, e, hg⟩
                    · rcases HAT.out with e2 | ⟨g, e2, hg⟩
                      · exact .inl (e.trans e2)
                      · exact .inr ⟨g, e.trans e2, hg⟩
                    · exact .inr ⟨g, e, by omega⟩⟩
                  case measure => simp [intOf]; omega

end Go.Proofs.YthlafeefjonkdaaGreatDoor
