/-
  Contract of extend: what a caller's rounds are told.
-/
import Derived.RangeFuncNested
import Derived.RangeFuncBound
import Derived.RangeFuncCalls
import Derived.RangeFuncLeaves
import Derived.Shelf.Abstract
import Derived.Shelf.RegionOpen
import Derived.OwnWalkIn
import Derived.TacticsInMore
import Derived.LoopNIn
import Derived.LoopIn
import Derived.Test.YthlafeefjonkdaaGreatDoorJx16
namespace Go.Proofs.YthlafeefjonkdaaGreatDoor
set_option linter.unusedVariables false
set_option linter.unusedSimpArgs false
open Go.RowKit Go.Shelf
open Go.Deep
attribute [local go_sem] Oper.semAt_some

structure Rnd (base : Nat) (X : Nat → Prop)  (O : Nat → Prop) (W W' : World) : Prop where
  size : W.heap.size ≤ W'.heap.size
  own : ∀ k, k < W.heap.size → O k → W'.heap[k]? = W.heap[k]?
  below : KeepB base X W W'
def Stab (J : List (List Int) → (Nat → Prop) → World → Prop) : Prop := ∀ xs O O' W W', J xs O W → Only O W W' → (∀ k, O' k → O k ∨ W.heap.size ≤ k) → J xs O' W'
def Rounds (base : Nat) (X : Nat → Prop) (n l : Nat) (az bz : List (List (List Int))) (L : List (List Int)) (J Jx : List (List Int) → (Nat → Prop) → World → Prop) : Prop :=
  ∀ m xs p O W I, J xs O W → IsoOk n az bz p → xs ++ [p] <+: L → O I → (∀ k, O k → base ≤ k ∧ k < W.heap.size) → base ≤ I → IntsAt W I 0 p →
    YieldAt Fence.wide m Tryz.prog l #[.slice (some ⟨I, 0, none⟩) n n] W fun e W' => Rnd base X O W W' ∧ ((e = .returned (.bool true) ∧ J (xs ++ [p]) O W') ∨ (e = .returned (.bool false) ∧ Jx (xs ++ [p]) O W'))
theorem MapSt.blocks {base : Nat} {w w' : World} {M I U : Nat} {v u : Value} {n : Nat} {f s : List Int} {sv : Value} (h : MapSt base w M I U v u n f s sv) (hs : w.heap.size ≤ w'.heap.size) (e : ∀ k, k < w.heap.size → OwnP M I U sv k → w'.heap[k]? = w.heap[k]?) : MapSt base w' M I U v u n f s sv :=
  have eM := e M h.img_lt (.inl rfl)
  have cc : ∀ {o v}, w.cell? ⟨M, o, none⟩ = some v → w'.cell? ⟨M, o, none⟩ = some v := fun {o v} hc => by
    rw [World.cell?_of_block (w := w) (a := ⟨M, o, none⟩) eM]; exact hc
  { c0 := cc h.c0
    c1 := cc h.c1
    c2 := cc h.c2
    c3 := cc h.c3
    c4 := cc h.c4
    fr := by rw [World.frozen?_of_block (w := w) (a := ⟨M, 4, none⟩) eM]; exact h.fr
    img := h.img.of_block (e I h.img.lt (.inr (.inl rfl)))
    usd := h.usd.of_block (e U h.usd.lt (.inr (.inr (.inl rfl))))
    set := by
      refine ⟨h.set.1, ?_⟩
      rcases h.set.2 with hn | ⟨g, cap, cur, rfl, hb, hg, rest⟩
      · exact .inl hn
      · exact .inr ⟨g, cap, cur, rfl, hb, (e g ((Array.getElem?_eq_some_iff.1 hg).1) (.inr (.inr (.inr rfl)))).trans hg, rest⟩
    apart := h.apart
    low := h.low }
theorem MapSt.ownLt {base : Nat} {w : World} {M I U : Nat} {v u : Value} {n : Nat} {f s : List Int} {sv : Value} (h : MapSt base w M I U v u n f s sv) : ∀ k, OwnP M I U sv k → k < w.heap.size := fun k e => by
  rcases e with rfl | rfl | rfl | e
  · exact h.img_lt
  · exact h.img.lt
  · exact h.usd.lt
  · exact (h.set.lt e).2
section
variable {base : Nat} {X : Nat → Prop} {M I U tb tq cz ub uo cu n : Nat} {az bz : List (List (List Int))} {f s : List Int} {sv : Value} {w : World}
theorem AsgSt.round (h : AsgSt base X M I U tb tq cz ub uo cu n az bz f s sv w) {w' : World} (hr : Rnd base X (OwnP M I U sv) w w') : AsgSt base X M I U tb tq cz ub uo cu n az bz f s sv w' :=
  ⟨h.st.blocks hr.size hr.own, h.ta.keep hr.below, h.tu.keep hr.below, h.part⟩
theorem AsgSt.img (h : AsgSt base X M I U tb tq cz ub uo cu n az bz f s sv w) : IntsAt w I 0 f := fun i hi => by
  have := h.st.img.cell (i := i) (by have := h.part.len; omega)
  rw [Nat.zero_add]; exact this
end
def ExtPost (base : Nat) (X : Nat → Prop) (M I U tb tq cz ub uo cu n : Nat) (az bz : List (List (List Int))) (J Jx : List (List Int) → (Nat → Prop) → World → Prop) (f s : List Int) (xs : List (List Int)) (e : Ending) (w' : World) : Prop :=
  ∃ sv', AsgSt base X M I U tb tq cz ub uo cu n az bz f s sv' w' ∧ ((e = .returned (.bool true) ∧ J (xs ++ extL n az bz f) (OwnP M I U sv') w') ∨ (e = .returned (.bool false) ∧ ∃ q, q ≠ [] ∧ q <+: extL n az bz f ∧ Jx (xs ++ q) (OwnP M I U sv') w'))

theorem OwnP.of {M I U : Nat} {sv sv' : Value} {w : World} (h : OwnsAt sv sv' w) (k : Nat) (hk : OwnP M I U sv' k) : OwnP M I U sv k ∨ w.heap.size ≤ k := by
  rcases hk with e | e | e | e
  · exact .inl (.inl e)
  · exact .inl (.inr (.inl e))
  · exact .inl (.inr (.inr (.inl e)))
  · rcases h with h | ⟨g, h, hg⟩
    · exact .inl (.inr (.inr (.inr (h ▸ e))))
    · rw [h] at e; injection e with e; exact .inr (by omega)
theorem only_undo {M I U : Nat} {sv : Value} {w w' : World} (h : Only (fun b => b = M ∨ b = I ∨ b = U) w w') : Only (OwnP M I U sv) w w' := h.mono fun k _ e => by
  rcases e with e | e | e
  · exact .inl e
  · exact .inr (.inl e)
  · exact .inr (.inr (.inl e))
theorem undo_back (base : Nat) (X : Nat → Prop) (M I U tb tq cz ub uo cu n : Nat) (az bz : List (List (List Int))) (f s f' s' l : List Int) (x : Nat) (sv' : Value) (w : World) (hf : PartOk n f s) (hst : AsgSt base X M I U tb tq cz ub uo cu n az bz f' s' sv' w) (hg : Goes n f f') (hs : s' = s ++ [(x : Int)] ++ l) (h12 : n ≤ 12) :
    Calls Tryz.prog 75 #[.pointer (some ⟨M, 0, none⟩), .int .i64 s.length] w fun e w' => (∃ r, e = .returned r) ∧ ∃ sv2, AsgSt base X M I U tb tq cz ub uo cu n az bz f s sv2 w' ∧ Only (OwnP M I U sv') w w' ∧ OwnsAt sv' sv2 w := by
  have hlt : s.length < s'.length := by rw [hs]; simp
  obtain ⟨S, c, hsv, -⟩ := hst.st.row (by omega)
  subst hsv
  refine (undo_any base M I U _ _ n f' s' S c s.length w hst.st hst.part hlt h12).mono ?_
  rintro e w' ⟨hr, hm, ho⟩
  have e1 : s'.take s.length = s := by rw [hs, List.append_assoc, List.take_left]
  have e2 : s'.drop s.length = [(x : Int)] ++ l := by rw [hs, List.append_assoc, List.drop_left]
  rw [e1, e2, clearL_back hf (by rw [← List.append_assoc, ← hs]; exact hst.part) hg] at hm
  exact ⟨hr, _, hst.next (only_undo ho) hm hf, only_undo ho, .inl rfl⟩

set_option maxRecDepth 1000000 in
set_option maxHeartbeats 4000000 in
theorem extend_whole (base : Nat) (X : Nat → Prop) (M I U tb tq cz ub uo cu n l : Nat) (az bz : List (List (List Int))) (L : List (List Int)) (J Jx : List (List Int) → (Nat → Prop) → World → Prop) (hY : Rounds base X n l az bz L J Jx) (h12 : n ≤ 12)
    (m : Nat) (f s : List Int) (xs : List (List Int)) (sv : Value) (w : World) (hst : AsgSt base X M I U tb tq cz ub uo cu n az bz f s sv w) (hg : GoodAll az bz n f) (hL : xs ++ extL n az bz f <+: L) (hj : J xs (OwnP M I U sv) w) (hi : indexOf f (-1) = -1) :
      CallsIn Fence.wide m Tryz.prog 48 #[.pointer (some ⟨M, 0, none⟩), .func (.yield l) #[] #[]] w (ExtPost base X M I U tb tq cz ub uo cu n az bz J Jx f s xs) := by
  obtain ⟨hiso, hone⟩ := whole_one hst.part hg hi
  obtain ⟨fn, tmps, assign, body, hy, hR⟩ := hY (m - 1) xs f _ w I hj hiso (by rw [hone] at hL; exact hL) (.inr (.inl rfl)) (fun k e => ⟨hst.st.ownLow k e, hst.st.ownLt k e⟩) hst.st.low.2.1 hst.img
  have c2 := hst.st.c2
  have HI := Lib.hid (slicesIndex_r f (.slice (some ⟨I, 0, none⟩) n n) (-1) w ⟨_, n, by rw [hst.part.len], fun _ => ⟨I, 0, rfl, hst.img⟩⟩ (by have := hst.part.len; omega))
  rw [hi] at HI
  have HS := Lib.hid hst
  have HO := Lib.hid hone
  clear hst hone hi hiso hL hg
  (refine callsIn_of_wp Tryz.func48 rfl trivial ?_ rfl; simp only [Tryz.ntmps48, List.size_toArray, List.length_cons, List.length_nil, Nat.reduceAdd, Nat.reduceSub, Array.replicate_succ, Array.replicate_zero, List.push_toArray, List.append_toArray, List.nil_append, List.cons_append])
  gi_wp2_with fail
  refine ⟨trivial, fun h => absurd h (by decide), (callsIn_wide.2 HI.out).mono ?_⟩
  rintro e w' ⟨rfl, rfl⟩
  gi_wp2_with fail
  refine ⟨fun h => absurd h (by decide), hR.mono ?_⟩
  clear hR hy
  rintro e W' ⟨hr, (⟨rfl, hj'⟩ | ⟨rfl, hj'⟩)⟩
  · have HQ := Lib.hid hj'
    have HR := Lib.hid hr
    clear hj' hr
    gi_wp2_with fail
    go_ret
    exact ⟨sv, HS.out.round HR.out, .inl ⟨rfl, by rw [HO.out]; exact HQ.out⟩⟩
  · have HQ := Lib.hid hj'
    have HR := Lib.hid hr
    clear hj' hr
    gi_wp2_with fail
    go_ret
    exact ⟨sv, HS.out.round HR.out, .inr ⟨rfl, [f], by simp, by rw [HO.out]; exact List.prefix_refl _, HQ.out⟩⟩

set_option maxRecDepth 1000000 in
set_option maxHeartbeats 4000000 in
theorem extend_any (base : Nat) (X : Nat → Prop) (M I U tb tq cz ub uo cu n l : Nat) (az bz : List (List (List Int))) (L : List (List Int)) (J Jx : List (List Int) → (Nat → Prop) → World → Prop) (hJ : Stab J) (hJx : Stab Jx) (hY : Rounds base X n l az bz L J Jx) (hA : TabsOk n az) (hB : TabsOk n bz) (hab : az.length = bz.length) (hts : az.length ≤ 2) (h12 : n ≤ 12) :
    ∀ (d m : Nat) (f s : List Int) (xs : List (List Int)) (sv : Value) (w : World), n - s.length ≤ d → AsgSt base X M I U tb tq cz ub uo cu n az bz f s sv w → GoodAll az bz n f → xs ++ extL n az bz f <+: L → J xs (OwnP M I U sv) w →
      CallsIn Fence.wide m Tryz.prog 48 #[.pointer (some ⟨M, 0, none⟩), .func (.yield l) #[] #[]] w (ExtPost base X M I U tb tq cz ub uo cu n az bz J Jx f s xs) := by
  have HJ := Lib.hid hJ
  have HJX := Lib.hid hJx
  have HY := Lib.hid hY
  have HA := Lib.hid hA
  have HB := Lib.hid hB
  have HAB := Lib.hid hab
  clear hJ hJx hY hA hB hab
  intro d
  induction d with
  | zero =>
    intro m f s xs sv w hd hst hg hL hj
    refine extend_whole base X M I U tb tq cz ub uo cu n l az bz L J Jx HY.out h12 m f s xs sv w hst hg hL hj ?_
    rcases indexOf_spec f (-1) with ⟨e, _⟩ | ⟨i, hi, _, e, _⟩
    · exact e
    · have := hst.part.full (x := i) (by omega) (by have := hst.part.len; omega)
      omega
  | succ d ih =>
    intro m f s xs sv w hd hst hg hL hj
    by_cases hix : indexOf f (-1) = -1
    case pos => exact extend_whole base X M I U tb tq cz ub uo cu n l az bz L J Jx HY.out h12 m f s xs sv w hst hg hL hj hix
    case neg =>
    obtain ⟨x, hx, hxe, hx1, hxf⟩ := first_unset hst.part hix
    have IH := Lib.hid ih
    have hi0 := slicesIndex_r f (.slice (some ⟨I, 0, none⟩) n n) (-1) w ⟨_, n, by rw [hst.part.len], fun _ => ⟨I, 0, rfl, hst.img⟩⟩ (by have := hst.part.len; omega)
    rw [hxe] at hi0
    have HI := Lib.hid hi0
    clear hi0
    have hle : (extL n az bz f).Pairwise fun p q => ix p x ≤ ix q x := extL_le (by have := hst.part.len; omega) hxf
    have HLE := Lib.hid hle
    have HE0 := Lib.hid (show below (extL n az bz f) x 0 = [] from below_zero fun p hp => ((mem_extL.1 hp).1.bd hx).1)
    have HEN := Lib.hid (show below (extL n az bz f) x n = extL n az bz f from below_all fun p hp => by have := (mem_extL.1 hp).1.bd hx; omega)
    have hxi : (x : Int) < (n : Int) := by omega
    have hx0 : (0 : Int) ≤ (x : Int) := by omega
    have c2 := hst.st.c2
    have c4 := hst.st.c4
    obtain ⟨sa, sc, hsv⟩ := hst.st.set.slice
    rw [hsv] at c4
    have HX1 := Lib.hid hx1
    have HG := Lib.hid hg
    have HL := Lib.hid hL
    have HQ0 := Lib.hid hj
    have HST := Lib.hid hst
    have HP := Lib.hid hst.part
    have hsn := hst.part.le
    clear hst hg hL hj hix hxe hxf hle hx1 hsv ih
    (refine callsIn_of_wp Tryz.func48 rfl trivial ?_ rfl; simp only [Tryz.ntmps48, List.size_toArray, List.length_cons, List.length_nil, Nat.reduceAdd, Nat.reduceSub, Array.replicate_succ, Array.replicate_zero, List.push_toArray, List.append_toArray, List.nil_append, List.cons_append])
    gi_wp2_with fail
    refine ⟨trivial, fun h => absurd h (by decide), (callsIn_wide.2 HI.out).mono ?_⟩
    rintro e w' ⟨rfl, rfl⟩
    gi_wp2_with fail
    gi_loopw [32] (fun i wr => ∃ (k : Nat) (sv1 : Value), k ≤ n ∧ i = .int .i64 k ∧ AsgSt base X M I U tb tq cz ub uo cu n az bz f s sv1 wr ∧ J (xs ++ below (extL n az bz f) x k) (OwnP M I U sv1) wr) (fun i _ => n - (intOf i).toNat)
    case atStart => exact ⟨0, sv, Nat.zero_le _, rfl, HST.out, by rw [HE0.out, List.append_nil]; exact HQ0.out⟩
    case round =>
      clear c2 c4 HST HQ0
      obtain ⟨k, sv1, hk, rfl, hst, hj⟩ := hrel
      have HQ := Lib.hid hj
      have HST := Lib.hid hst
      clear hj
      by_cases hkn : k < n
      case neg =>
        have hkk : n = k := by omega
        clear hst
        gi_wp2_with fail
        go_ret
        refine ⟨sv1, HST.out, .inl ⟨rfl, ?_⟩⟩
        have := HQ.out
        rw [← hkk, HEN.out] at this
        exact this
      case pos =>
        have c3 := hst.st.c3
        have u0 := hst.st.usd.cell hkn
        have hki : (k : Int) < (n : Int) := by omega
        cases hu : hasB f k with
        | true =>
          rw [hu] at u0
          have HN := Lib.hid (show below (extL n az bz f) x (k + 1) = below (extL n az bz f) x k by
            rw [below_succ k HLE.out, extL_used HP.out hx (by rw [HX1.out]; omega) hu, List.append_nil])
          clear hst hu
          gi_wp2_with fail
          go_roundw
          case rel => exact ⟨k + 1, sv1, by omega, by go_num, HST.out, by rw [HN.out]; exact HQ.out⟩
          case measure => simp [intOf]; omega
        | false =>
          rw [hu] at u0
          rcases e1 : asgF n az bz n f s x k with ⟨r, f', s'⟩
          have hgr := asgF_ok HA.out HB.out HAB.out n f s x k r f' s' (by omega) HP.out hx hkn e1
          have hc := assign_any base X M I U tb tq cz ub uo cu n az bz HA.out HB.out HAB.out hts h12 n f s sv1 wr x k (by omega) hst hx hkn
          rw [e1] at hc
          have HC := Lib.hid hc
          have HGR := Lib.hid hgr
          obtain ⟨l', hl'⟩ := hgr.new (by rw [HX1.out]; omega) hu
          have HLL := Lib.hid hl'
          clear hst hc hgr e1 hl' hu
          gi_wp2_with fail
          refine ⟨trivial, fun h => absurd h (by decide), (callsIn_wide.2 HC.out).mono ?_⟩
          rintro e w1 ⟨sv2, rfl, hm2, ho2, ha2⟩
          have hst2 := HST.out.next ho2 hm2 HGR.out.part
          have HJ2 := Lib.hid (HJ.out _ _ _ _ _ HQ.out ho2 (OwnP.of ha2))
          have HST2 := Lib.hid hst2
          clear hm2 ho2 ha2 c3 u0
          cases r with
          | false =>
            have HU := Lib.hid (undo_back base X M I U tb tq cz ub uo cu n az bz f s f' s' l' x sv2 w1 HP.out hst2 HGR.out.goes HLL.out h12)
            have HN := Lib.hid (show below (extL n az bz f) x (k + 1) = below (extL n az bz f) x k by
              rw [below_succ k HLE.out, extL_no HGR.out, List.append_nil])
            clear hst2
            gi_wp2_with fail
            refine ⟨trivial, fun h => absurd h (by decide), (callsIn_wide.2 HU.out).mono ?_⟩
            rintro e w3 ⟨⟨rr, rfl⟩, sv3, hst3, ho3, ha3⟩
            have HJ3 := Lib.hid (HJ.out _ _ _ _ _ HJ2.out ho3 (OwnP.of ha3))
            have HST3 := Lib.hid hst3
            clear hst3 ho3 ha3
            gi_wp2_with fail
            go_roundw
            case rel => exact ⟨k + 1, sv3, by omega, by go_num, HST3.out, by rw [HN.out]; exact HJ3.out⟩
            case measure => simp [intOf]; omega
          | true =>
            have hn1 : below (extL n az bz f) x (k + 1) = below (extL n az bz f) x k ++ extL n az bz f' := by rw [below_succ k HLE.out, extL_yes HP.out hx HGR.out]
            obtain ⟨Z, hZ⟩ := below_split (x := x) (k + 1) HLE.out
            rw [hn1] at hZ
            have hpre : (xs ++ below (extL n az bz f) x k) ++ extL n az bz f' <+: L := prefix_part (c := Z) (by rw [← hZ]; exact HL.out)
            have hlen : n - s'.length ≤ d := by rw [HLL.out]; simp; omega
            have HC2 := Lib.hid (fun m' => IH.out m' f' s' (xs ++ below (extL n az bz f) x k) sv2 w1 hlen hst2 (good_next HA.out HG.out HGR.out) hpre HJ2.out)
            have HN := Lib.hid hn1
            have HZ := Lib.hid hZ
            clear hst2 hn1 hZ hpre hlen
            gi_wp2_with fail
            refine ⟨trivial, fun h => absurd h (by decide), (HC2.out _).mono ?_⟩
            rintro e w2 ⟨sv4, hst4, (⟨rfl, hj4⟩ | ⟨rfl, qq, hq0, hqp, hj4⟩)⟩
            · have HU := Lib.hid (undo_back base X M I U tb tq cz ub uo cu n az bz f s f' s' l' x sv4 w2 HP.out hst4 HGR.out.goes HLL.out h12)
              have HJ4 := Lib.hid hj4
              clear hst4 hj4
              gi_wp2_with fail
              refine ⟨trivial, fun h => absurd h (by decide), (callsIn_wide.2 HU.out).mono ?_⟩
              rintro e w3 ⟨⟨rr, rfl⟩, sv3, hst3, ho3, ha3⟩
              have HJ3 := Lib.hid (HJ.out _ _ _ _ _ HJ4.out ho3 (OwnP.of ha3))
              have HST3 := Lib.hid hst3
              clear hst3 ho3 ha3
              gi_wp2_with fail
              go_roundw
              case rel => exact ⟨k + 1, sv3, by omega, by go_num, HST3.out, by rw [HN.out, ← List.append_assoc]; exact HJ3.out⟩
              case measure => simp [intOf]; omega
            · have HU := Lib.hid (undo_back base X M I U tb tq cz ub uo cu n az bz f s f' s' l' x sv4 w2 HP.out hst4 HGR.out.goes HLL.out h12)
              have HJ4 := Lib.hid hj4
              have HQ0 := Lib.hid hq0
              have HQP := Lib.hid hqp
              clear hst4 hj4 hq0 hqp
              gi_wp2_with fail
              refine ⟨trivial, fun h => absurd h (by decide), (callsIn_wide.2 HU.out).mono ?_⟩
              rintro e w3 ⟨⟨rr, rfl⟩, sv3, hst3, ho3, ha3⟩
              have HJ3 := Lib.hid (HJX.out _ _ _ _ _ HJ4.out ho3 (OwnP.of ha3))
              have HST3 := Lib.hid hst3
              clear hst3 ho3 ha3
              gi_wp2_with fail
              go_ret
              exact ⟨sv3, HST3.out, .inr ⟨rfl, below (extL n az bz f) x k ++ qq, by simp [HQ0.out], by have hz := prefix_app (a := below (extL n az bz f) x k) (c := Z) HQP.out; rw [← HZ.out] at hz; exact hz, by rw [← List.append_assoc]; exact HJ3.out⟩⟩
end Go.Proofs.YthlafeefjonkdaaGreatDoor
