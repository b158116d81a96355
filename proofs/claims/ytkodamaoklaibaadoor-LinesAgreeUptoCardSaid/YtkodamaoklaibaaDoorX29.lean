-- Written by this session's program wip/tools/myprint.py (the kit's printing program, with functions proved by hand taken as printed).
import Derived.Test.YtkodamaoklaibaaDoorX0
import Derived.Test.YtkodamaoklaibaaDoorX17
import Derived.Test.YtkodamaoklaibaaDoorX21
import Derived.Test.YtkodamaoklaibaaDoorX23
import Derived.Test.YtkodamaoklaibaaDoorX28
namespace Go.Proofs.YtkodamaoklaibaaDoor.X
open Go.RowKit Go.Proofs.YtkodamaoklaibaaDoorW.PrintWords Go.Proofs.YtkodamaoklaibaaDoorW.PrintLast Go.Proofs.YtkodamaoklaibaaDoorW.PrintMore
attribute [local go_sem] max2_int min2_int max_two min_two max_three min_three max_four min_four   -- for this text's walks alone
set_option linter.unusedVariables false
set_option linter.unusedSimpArgs false

/-! ### redlinelaw02_LinesAgree: function 5 -/
mutual
def redlinelaw02_LinesAgree.j0 : Nat → ByteArray → ByteArray → Int → Int → Bool → Bool → Option (Bool)
  | 0, _, _, _, _, _, _ => none
  | k + 1, x0, x1, x5, x6, x7, x43 => if x43 = true then (some false) else (if x7 = true then (if x5 < 1 then (redlinelaw02_LinesAgree.j1 k x0 x5 x6 true) else (if x5 > (wrap64 ((x0.size : Int) + 1)) then (redlinelaw02_LinesAgree.j1 k x0 x5 x6 true) else (if x5 > (wrap64 ((x1.size : Int) + 1)) then (redlinelaw02_LinesAgree.j1 k x0 x5 x6 true) else (if 0 ≤ (wrap64 (x5 - 1)) then (if (wrap64 (x5 - 1)) ≤ (x0.size : Int) then (if (wrap64 (x5 - 1)) ≤ (x1.size : Int) then (if (x0.extract 0 ((wrap64 (x5 - 1)) : Int).toNat).toList = (x1.extract 0 ((wrap64 (x5 - 1)) : Int).toNat).toList then (if x5 ≤ (x0.size : Int) then (if x5 ≤ (x1.size : Int) then (if (wrap64 (x5 - 1)) < (x0.size : Int) then (if (wrap64 (x5 - 1)) < (x1.size : Int) then (if (bt x0 (wrap64 (x5 - 1))) = (bt x1 (wrap64 (x5 - 1))) then (redlinelaw02_LinesAgree.j1 k x0 x5 x6 true) else (if x5 > (x0.size : Int) then (redlinelaw02_LinesAgree.j1 k x0 x5 x6 (decide (x5 > (x1.size : Int)))) else (redlinelaw02_LinesAgree.j1 k x0 x5 x6 false))) else (none)) else (none)) else (if x5 > (x0.size : Int) then (redlinelaw02_LinesAgree.j1 k x0 x5 x6 (decide (x5 > (x1.size : Int)))) else (redlinelaw02_LinesAgree.j1 k x0 x5 x6 false))) else (if x5 > (x0.size : Int) then (redlinelaw02_LinesAgree.j1 k x0 x5 x6 (decide (x5 > (x1.size : Int)))) else (redlinelaw02_LinesAgree.j1 k x0 x5 x6 false))) else (redlinelaw02_LinesAgree.j1 k x0 x5 x6 true)) else (none)) else (none)) else (none))))) else (if x0.toList = x1.toList then (if x5 = 0 then (some (x6 == 0)) else (some false)) else (some false)))
def redlinelaw02_LinesAgree.j1 : Nat → ByteArray → Int → Int → Bool → Option (Bool)
  | 0, _, _, _, _ => none
  | k + 1, x0, x5, x6, x118 => if x118 = true then (some false) else (if 0 ≤ (wrap64 (x5 - 1)) then (if (wrap64 (x5 - 1)) ≤ (x0.size : Int) then ((lines_Split.f (x0.extract 0 ((wrap64 (x5 - 1)) : Int).toNat)).bind fun t207 => (if (t207.length : Int) > 0 then (if 0 ≤ (wrap64 ((t207.length : Int) - 1)) then (if (wrap64 ((t207.length : Int) - 1)) < (t207.length : Int) then ((lines_Bare.f (rdOf ByteArray.empty t207 (wrap64 ((t207.length : Int) - 1)))).bind fun bt211 => (if bt211.2 = true then (some (x6 == (wrap64 ((t207.length : Int) + 1)))) else (some (x6 == (wrap64 ((wrap64 ((t207.length : Int) - 1)) + 1)))))) else (none)) else (none)) else (some (x6 == (wrap64 ((t207.length : Int) + 1)))))) else (none)) else (none))
end
def redlinelaw02_LinesAgree.f (k : Nat) (a0 : ByteArray) (a1 : ByteArray) : Option (Bool) := (redlinelaw02_works.f k).bind fun t200 => (if t200 = true then ((lines_First.f k a0 a1).bind fun bt201 => ((lines_First.f k a1 a0).bind fun bt204 => (if bt201.1 = bt204.1 then (if bt201.2.1 = bt204.2.1 then (redlinelaw02_LinesAgree.j0 k a0 a1 bt201.1 bt201.2.1 bt201.2.2 (bt201.2.2 != bt204.2.2)) else (redlinelaw02_LinesAgree.j0 k a0 a1 bt201.1 bt201.2.1 bt201.2.2 true)) else (redlinelaw02_LinesAgree.j0 k a0 a1 bt201.1 bt201.2.1 bt201.2.2 true)))) else (some false))
theorem redlinelaw02_LinesAgree.mono_l : ∀ k, (∀ y0 y1 y2 y3 y4 y5, LeO (redlinelaw02_LinesAgree.j0 k y0 y1 y2 y3 y4 y5) (redlinelaw02_LinesAgree.j0 (k + 1) y0 y1 y2 y3 y4 y5)) ∧ (∀ y0 y1 y2 y3, LeO (redlinelaw02_LinesAgree.j1 k y0 y1 y2 y3) (redlinelaw02_LinesAgree.j1 (k + 1) y0 y1 y2 y3))
  | 0 => ⟨fun _ _ _ _ _ _ r h => by simp [redlinelaw02_LinesAgree.j0] at h, fun _ _ _ _ r h => by simp [redlinelaw02_LinesAgree.j1] at h⟩
  | k + 1 => by
    obtain ⟨ih0, ih1⟩ := redlinelaw02_LinesAgree.mono_l k
    refine ⟨?_, ?_⟩
    · intro y0 y1 y2 y3 y4 y5
      unfold redlinelaw02_LinesAgree.j0
      repeat' first
      | (with_reducible exact ih0 _ _ _ _ _ _)
      | (with_reducible exact ih1 _ _ _ _)
      | (with_reducible exact lines_First.mono _ _ _)
      | (with_reducible exact redlinelaw02_works.mono _)
      | (with_reducible exact LeO.refl _)
      | (with_reducible exact LeO.none _)
      | (with_reducible refine LeO.ite ?_ ?_)
      | (with_reducible refine LeO.bind ?_ (fun _ => ?_))
      | exact ih0 _ _ _ _ _ _
      | exact ih1 _ _ _ _
      | exact lines_First.mono _ _ _
      | exact redlinelaw02_works.mono _
      | exact LeO.none _
      | refine LeO.ite ?_ ?_
      | refine LeO.bind ?_ (fun _ => ?_)
    · intro y0 y1 y2 y3
      unfold redlinelaw02_LinesAgree.j1
      repeat' first
      | (with_reducible exact ih0 _ _ _ _ _ _)
      | (with_reducible exact ih1 _ _ _ _)
      | (with_reducible exact lines_First.mono _ _ _)
      | (with_reducible exact redlinelaw02_works.mono _)
      | (with_reducible exact LeO.refl _)
      | (with_reducible exact LeO.none _)
      | (with_reducible refine LeO.ite ?_ ?_)
      | (with_reducible refine LeO.bind ?_ (fun _ => ?_))
      | exact ih0 _ _ _ _ _ _
      | exact ih1 _ _ _ _
      | exact lines_First.mono _ _ _
      | exact redlinelaw02_works.mono _
      | exact LeO.none _
      | refine LeO.ite ?_ ?_
      | refine LeO.bind ?_ (fun _ => ?_)
theorem redlinelaw02_LinesAgree.mono : ∀ a0 a1 k, LeO (redlinelaw02_LinesAgree.f k a0 a1) (redlinelaw02_LinesAgree.f (k + 1) a0 a1) := by
  intro a0 a1 k
  obtain ⟨ih0, ih1⟩ := redlinelaw02_LinesAgree.mono_l k
  unfold redlinelaw02_LinesAgree.f
  repeat' first
      | (with_reducible exact ih0 _ _ _ _ _ _)
      | (with_reducible exact ih1 _ _ _ _)
      | (with_reducible exact lines_First.mono _ _ _)
      | (with_reducible exact redlinelaw02_works.mono _)
      | (with_reducible exact LeO.refl _)
      | (with_reducible exact LeO.none _)
      | (with_reducible refine LeO.ite ?_ ?_)
      | (with_reducible refine LeO.bind ?_ (fun _ => ?_))
      | exact ih0 _ _ _ _ _ _
      | exact ih1 _ _ _ _
      | exact lines_First.mono _ _ _
      | exact redlinelaw02_works.mono _
      | exact LeO.none _
      | refine LeO.ite ?_ ?_
      | refine LeO.bind ?_ (fun _ => ?_)
set_option maxHeartbeats 8000000 in
set_option maxRecDepth 100000 in
theorem redlinelaw02_LinesAgree.calls (k : Nat) (a0 : ByteArray) (a1 : ByteArray) (r : Bool) (w : World) (h : redlinelaw02_LinesAgree.f k a0 a1 = some r) :
    Calls Tryd.prog 5 #[.string a0, .string a1] w fun e w' => e = .returned (.bool r) ∧ Below w.heap.size w w' := by
  have HB := Aside0.mk (Below.refl w.heap.size w)
  have H : ((redlinelaw02_works.f k).bind fun t200 => (if t200 = true then ((lines_First.f k a0 a1).bind fun bt201 => ((lines_First.f k a1 a0).bind fun bt204 => (if bt201.1 = bt204.1 then (if bt201.2.1 = bt204.2.1 then (redlinelaw02_LinesAgree.j0 k a0 a1 bt201.1 bt201.2.1 bt201.2.2 (bt201.2.2 != bt204.2.2)) else (redlinelaw02_LinesAgree.j0 k a0 a1 bt201.1 bt201.2.1 bt201.2.2 true)) else (redlinelaw02_LinesAgree.j0 k a0 a1 bt201.1 bt201.2.1 bt201.2.2 true)))) else (some false))) = some r := h
  clear h
  replace H := Option.bind_eq_some_iff.mp H
  obtain ⟨t200, A30, H⟩ := H
  replace H : (if t200 = true then ((lines_First.f k a0 a1).bind fun bt201 => ((lines_First.f k a1 a0).bind fun bt204 => (if bt201.1 = bt204.1 then (if bt201.2.1 = bt204.2.1 then (redlinelaw02_LinesAgree.j0 k a0 a1 bt201.1 bt201.2.1 bt201.2.2 (bt201.2.2 != bt204.2.2)) else (redlinelaw02_LinesAgree.j0 k a0 a1 bt201.1 bt201.2.1 bt201.2.2 true)) else (redlinelaw02_LinesAgree.j0 k a0 a1 bt201.1 bt201.2.1 bt201.2.2 true)))) else (some false)) = some r := H
  have A3 := Aside0.mk A30
  clear A30
  by_cases c4 : t200 = true
  · subst c4
    have H1 : ((lines_First.f k a0 a1).bind fun bt201 => ((lines_First.f k a1 a0).bind fun bt204 => (if bt201.1 = bt204.1 then (if bt201.2.1 = bt204.2.1 then (redlinelaw02_LinesAgree.j0 k a0 a1 bt201.1 bt201.2.1 bt201.2.2 (bt201.2.2 != bt204.2.2)) else (redlinelaw02_LinesAgree.j0 k a0 a1 bt201.1 bt201.2.1 bt201.2.2 true)) else (redlinelaw02_LinesAgree.j0 k a0 a1 bt201.1 bt201.2.1 bt201.2.2 true)))) = some r := by rw [if_pos rfl] at H; exact H
    clear H
    have H := H1
    clear H1
    replace H := Option.bind_eq_some_iff.mp H
    obtain ⟨⟨t201, t202, t203⟩, A50, H⟩ := H
    replace H : ((lines_First.f k a1 a0).bind fun bt204 => (if t201 = bt204.1 then (if t202 = bt204.2.1 then (redlinelaw02_LinesAgree.j0 k a0 a1 t201 t202 t203 (t203 != bt204.2.2)) else (redlinelaw02_LinesAgree.j0 k a0 a1 t201 t202 t203 true)) else (redlinelaw02_LinesAgree.j0 k a0 a1 t201 t202 t203 true))) = some r := H
    have A5 := Aside0.mk A50
    clear A50
    replace H := Option.bind_eq_some_iff.mp H
    obtain ⟨⟨t204, t205, t206⟩, A60, H⟩ := H
    replace H : (if t201 = t204 then (if t202 = t205 then (redlinelaw02_LinesAgree.j0 k a0 a1 t201 t202 t203 (t203 != t206)) else (redlinelaw02_LinesAgree.j0 k a0 a1 t201 t202 t203 true)) else (redlinelaw02_LinesAgree.j0 k a0 a1 t201 t202 t203 true)) = some r := H
    have A6 := Aside0.mk A60
    clear A60
    have HC7 := Aside0.mk H
    clear H
    go_enter Tryd.func5, Tryd.ntmps5
    go_upto_region 5 with (first | (go_at_call 10; (with_reducible refine (redlinelaw02_works.calls k  true _ A3.out).mono ?_); rintro e w8 ⟨rfl, hb⟩; have n0_ := Aside0.mk (below_step (by repeat (first | (with_reducible first | exact HB.out | apply below_alloc | apply pw_below_drewN | apply below_drew1) | exact HB.out)) hb); clear HB; have HB := n0_; clear n0_; (try clear hb); (try clear hb2); (try clear hk); (try clear hi)) | (go_at_call 11; (with_reducible refine (lines_First.calls k a0 a1 t201 t202 t203 _ A5.out).mono ?_); rintro e w9 ⟨rfl, hb⟩; have n0_ := Aside0.mk (below_step (by repeat (first | (with_reducible first | exact HB.out | apply below_alloc | apply pw_below_drewN | apply below_drew1) | exact HB.out)) hb); clear HB; have HB := n0_; clear n0_; (try clear hb); (try clear hb2); (try clear hk); (try clear hi)) | (go_at_call 11; (with_reducible refine (lines_First.calls k a1 a0 t204 t205 t206 _ A6.out).mono ?_); rintro e w10 ⟨rfl, hb⟩; have n0_ := Aside0.mk (below_step (by repeat (first | (with_reducible first | exact HB.out | apply below_alloc | apply pw_below_drewN | apply below_drew1) | exact HB.out)) hb); clear HB; have HB := n0_; clear n0_; (try clear hb); (try clear hb2); (try clear hk); (try clear hi)))
    repeat (go_quiet (first | (go_at_call 10; (with_reducible refine (redlinelaw02_works.calls k  true _ A3.out).mono ?_); rintro e w8 ⟨rfl, hb⟩; have n0_ := Aside0.mk (below_step (by repeat (first | (with_reducible first | exact HB.out | apply below_alloc | apply pw_below_drewN | apply below_drew1) | exact HB.out)) hb); clear HB; have HB := n0_; clear n0_; (try clear hb); (try clear hb2); (try clear hk); (try clear hi)) | (go_at_call 11; (with_reducible refine (lines_First.calls k a0 a1 t201 t202 t203 _ A5.out).mono ?_); rintro e w9 ⟨rfl, hb⟩; have n0_ := Aside0.mk (below_step (by repeat (first | (with_reducible first | exact HB.out | apply below_alloc | apply pw_below_drewN | apply below_drew1) | exact HB.out)) hb); clear HB; have HB := n0_; clear n0_; (try clear hb); (try clear hb2); (try clear hk); (try clear hi)) | (go_at_call 11; (with_reducible refine (lines_First.calls k a1 a0 t204 t205 t206 _ A6.out).mono ?_); rintro e w10 ⟨rfl, hb⟩; have n0_ := Aside0.mk (below_step (by repeat (first | (with_reducible first | exact HB.out | apply below_alloc | apply pw_below_drewN | apply below_drew1) | exact HB.out)) hb); clear HB; have HB := n0_; clear n0_; (try clear hb); (try clear hb2); (try clear hk); (try clear hi))); go_upto_region 5 with (first | (go_at_call 10; (with_reducible refine (redlinelaw02_works.calls k  true _ A3.out).mono ?_); rintro e w8 ⟨rfl, hb⟩; have n0_ := Aside0.mk (below_step (by repeat (first | (with_reducible first | exact HB.out | apply below_alloc | apply pw_below_drewN | apply below_drew1) | exact HB.out)) hb); clear HB; have HB := n0_; clear n0_; (try clear hb); (try clear hb2); (try clear hk); (try clear hi)) | (go_at_call 11; (with_reducible refine (lines_First.calls k a0 a1 t201 t202 t203 _ A5.out).mono ?_); rintro e w9 ⟨rfl, hb⟩; have n0_ := Aside0.mk (below_step (by repeat (first | (with_reducible first | exact HB.out | apply below_alloc | apply pw_below_drewN | apply below_drew1) | exact HB.out)) hb); clear HB; have HB := n0_; clear n0_; (try clear hb); (try clear hb2); (try clear hk); (try clear hi)) | (go_at_call 11; (with_reducible refine (lines_First.calls k a1 a0 t204 t205 t206 _ A6.out).mono ?_); rintro e w10 ⟨rfl, hb⟩; have n0_ := Aside0.mk (below_step (by repeat (first | (with_reducible first | exact HB.out | apply below_alloc | apply pw_below_drewN | apply below_drew1) | exact HB.out)) hb); clear HB; have HB := n0_; clear n0_; (try clear hb); (try clear hb2); (try clear hk); (try clear hi))))
    (try simp only [Act.put, List.setIfInBounds_toArray, List.set_cons_zero, List.set_cons_succ])
    go_cut [43] (fun v43 wc => ∃ (kq : Nat) (x43_6 : Bool), v43 = .bool x43_6 ∧ Aside0 (redlinelaw02_LinesAgree.j0 kq a0 a1 t201 t202 t203 x43_6 = some r) ∧ Aside0 (kq ≤ k) ∧ Aside0 (Below w.heap.size w wc))
    case first =>
      have H := HC7.out
      clear HC7
      by_cases c11 : t201 = t204
      · rw [if_pos c11] at H
        have c11b0 : (t201 == t204) = true := beq_iff_eq.mpr c11
        have c11b1 : (t201 != t204) = false := bne_eq_false_iff_eq.mpr c11
        clear c11
        (first | rw [c11b0] | (simp only [i64_w, i32_w]; rw [c11b0]) | skip)
        by_cases c12 : t202 = t205
        · rw [if_pos c12] at H
          have c12b0 : (t202 == t205) = true := beq_iff_eq.mpr c12
          have c12b1 : (t202 != t205) = false := bne_eq_false_iff_eq.mpr c12
          clear c12
          have H' := Aside0.mk H
          clear H
          go_wp2
          repeat (go_quiet (fail); try go_wp2)
          go_meet
          case rel => exact ⟨_, ((t203 != t206)), (by first | rfl | (simp; done) | (simp [*]; done)), H', ⟨by first | omega | exact Nat.le_refl _⟩, ⟨by repeat (first | (with_reducible first | exact HB.out | apply below_alloc | apply pw_below_drewN | apply below_drew1) | exact HB.out)⟩⟩
        · rw [if_neg c12] at H
          have c12b0 : (t202 == t205) = false := beq_eq_false_iff_ne.mpr c12
          have c12b1 : (t202 != t205) = true := bne_iff_ne.mpr c12
          have H' := Aside0.mk H
          clear H
          go_wp2
          repeat (go_quiet (fail); try go_wp2)
          go_meet
          case rel => exact ⟨_, (true), (by first | rfl | (simp; done) | (simp [*]; done)), H', ⟨by first | omega | exact Nat.le_refl _⟩, ⟨by repeat (first | (with_reducible first | exact HB.out | apply below_alloc | apply pw_below_drewN | apply below_drew1) | exact HB.out)⟩⟩
      · rw [if_neg c11] at H
        have c11b0 : (t201 == t204) = false := beq_eq_false_iff_ne.mpr c11
        have c11b1 : (t201 != t204) = true := bne_iff_ne.mpr c11
        (first | rw [c11b0] | (simp only [i64_w, i32_w]; rw [c11b0]) | skip)
        have H' := Aside0.mk H
        clear H
        go_wp2
        repeat (go_quiet (fail); try go_wp2)
        go_meet
        case rel => exact ⟨_, (true), (by first | rfl | (simp; done) | (simp [*]; done)), H', ⟨by first | omega | exact Nat.le_refl _⟩, ⟨by repeat (first | (with_reducible first | exact HB.out | apply below_alloc | apply pw_below_drewN | apply below_drew1) | exact HB.out)⟩⟩
    case rest =>
      clear HC7
      try clear c1
      try clear p2
      try clear c4
      try clear c5
      try clear c11
      try clear c11b0
      try clear c11b1
      try clear c12
      try clear c12b0
      try clear c12b1
      obtain ⟨kq, x43_6, rfl, HA, HJ6, HB⟩ := hcut
      cases kq with
      | zero => exact absurd HA.out (by simp [redlinelaw02_LinesAgree.j0])
      | succ kj6 =>
        have H := HA.out
        clear HA
        simp only [redlinelaw02_LinesAgree.j0] at H
        by_cases c13 : x43_6 = true
        · subst c13
          have H1 : (some false) = some r := by rw [if_pos rfl] at H; exact H
          clear H
          have H := H1
          clear H1
          obtain rfl := Option.some.inj H
          go_wp2
          repeat (go_quiet (fail); try go_wp2)
          go_ret
          exact ⟨by first | rfl | (simp [errW_none, errW_some] <;> rfl) | (simp [*, errW_none, errW_some] <;> rfl), by repeat (first | (with_reducible first | exact HB.out | apply below_alloc | apply pw_below_drewN | apply below_drew1) | exact HB.out)⟩
        · replace c13 := Bool.eq_false_iff.mpr c13
          subst c13
          have H1 : (if t203 = true then (if t201 < 1 then (redlinelaw02_LinesAgree.j1 kj6 a0 t201 t202 true) else (if t201 > (wrap64 ((a0.size : Int) + 1)) then (redlinelaw02_LinesAgree.j1 kj6 a0 t201 t202 true) else (if t201 > (wrap64 ((a1.size : Int) + 1)) then (redlinelaw02_LinesAgree.j1 kj6 a0 t201 t202 true) else (if 0 ≤ (wrap64 (t201 - 1)) then (if (wrap64 (t201 - 1)) ≤ (a0.size : Int) then (if (wrap64 (t201 - 1)) ≤ (a1.size : Int) then (if (a0.extract 0 ((wrap64 (t201 - 1)) : Int).toNat).toList = (a1.extract 0 ((wrap64 (t201 - 1)) : Int).toNat).toList then (if t201 ≤ (a0.size : Int) then (if t201 ≤ (a1.size : Int) then (if (wrap64 (t201 - 1)) < (a0.size : Int) then (if (wrap64 (t201 - 1)) < (a1.size : Int) then (if (bt a0 (wrap64 (t201 - 1))) = (bt a1 (wrap64 (t201 - 1))) then (redlinelaw02_LinesAgree.j1 kj6 a0 t201 t202 true) else (if t201 > (a0.size : Int) then (redlinelaw02_LinesAgree.j1 kj6 a0 t201 t202 (decide (t201 > (a1.size : Int)))) else (redlinelaw02_LinesAgree.j1 kj6 a0 t201 t202 false))) else (none)) else (none)) else (if t201 > (a0.size : Int) then (redlinelaw02_LinesAgree.j1 kj6 a0 t201 t202 (decide (t201 > (a1.size : Int)))) else (redlinelaw02_LinesAgree.j1 kj6 a0 t201 t202 false))) else (if t201 > (a0.size : Int) then (redlinelaw02_LinesAgree.j1 kj6 a0 t201 t202 (decide (t201 > (a1.size : Int)))) else (redlinelaw02_LinesAgree.j1 kj6 a0 t201 t202 false))) else (redlinelaw02_LinesAgree.j1 kj6 a0 t201 t202 true)) else (none)) else (none)) else (none))))) else (if a0.toList = a1.toList then (if t201 = 0 then (some (t202 == 0)) else (some false)) else (some false))) = some r := by rw [if_neg (show ¬ (false = true) by decide)] at H; exact H
          clear H
          have H := H1
          clear H1
          by_cases c14 : t203 = true
          · subst c14
            have H1 : (if t201 < 1 then (redlinelaw02_LinesAgree.j1 kj6 a0 t201 t202 true) else (if t201 > (wrap64 ((a0.size : Int) + 1)) then (redlinelaw02_LinesAgree.j1 kj6 a0 t201 t202 true) else (if t201 > (wrap64 ((a1.size : Int) + 1)) then (redlinelaw02_LinesAgree.j1 kj6 a0 t201 t202 true) else (if 0 ≤ (wrap64 (t201 - 1)) then (if (wrap64 (t201 - 1)) ≤ (a0.size : Int) then (if (wrap64 (t201 - 1)) ≤ (a1.size : Int) then (if (a0.extract 0 ((wrap64 (t201 - 1)) : Int).toNat).toList = (a1.extract 0 ((wrap64 (t201 - 1)) : Int).toNat).toList then (if t201 ≤ (a0.size : Int) then (if t201 ≤ (a1.size : Int) then (if (wrap64 (t201 - 1)) < (a0.size : Int) then (if (wrap64 (t201 - 1)) < (a1.size : Int) then (if (bt a0 (wrap64 (t201 - 1))) = (bt a1 (wrap64 (t201 - 1))) then (redlinelaw02_LinesAgree.j1 kj6 a0 t201 t202 true) else (if t201 > (a0.size : Int) then (redlinelaw02_LinesAgree.j1 kj6 a0 t201 t202 (decide (t201 > (a1.size : Int)))) else (redlinelaw02_LinesAgree.j1 kj6 a0 t201 t202 false))) else (none)) else (none)) else (if t201 > (a0.size : Int) then (redlinelaw02_LinesAgree.j1 kj6 a0 t201 t202 (decide (t201 > (a1.size : Int)))) else (redlinelaw02_LinesAgree.j1 kj6 a0 t201 t202 false))) else (if t201 > (a0.size : Int) then (redlinelaw02_LinesAgree.j1 kj6 a0 t201 t202 (decide (t201 > (a1.size : Int)))) else (redlinelaw02_LinesAgree.j1 kj6 a0 t201 t202 false))) else (redlinelaw02_LinesAgree.j1 kj6 a0 t201 t202 true)) else (none)) else (none)) else (none))))) = some r := by rw [if_pos rfl] at H; exact H
            clear H
            have H := H1
            clear H1
            have HC15 := Aside0.mk H
            clear H
            go_upto_region 9 with (fail)
            repeat (go_quiet (fail); go_upto_region 9 with (fail))
            go_cut [118] (fun v118 wc => ∃ (kq : Nat) (x118_14 : Bool), v118 = .bool x118_14 ∧ Aside0 (redlinelaw02_LinesAgree.j1 kq a0 t201 t202 x118_14 = some r) ∧ Aside0 (kq ≤ kj6) ∧ Aside0 (Below w.heap.size w wc))
            case first =>
              have H := HC15.out
              clear HC15
              by_cases c16 : t201 < 1
              · rw [if_pos c16] at H
                have c16b0 : decide (t201 < 1) = true := decide_eq_true c16
                clear c16
                (first | rw [c16b0] | (simp only [i64_w, i32_w]; rw [c16b0]) | skip)
                have H' := Aside0.mk H
                clear H
                go_wp2
                repeat (go_quiet (fail); try go_wp2)
                go_meet
                case rel => exact ⟨_, (true), (by first | rfl | (simp; done) | (simp [*]; done)), H', ⟨by have := HJ6.out; first | omega | exact Nat.le_refl _⟩, ⟨by repeat (first | (with_reducible first | exact HB.out | apply below_alloc | apply pw_below_drewN | apply below_drew1) | exact HB.out)⟩⟩
              · rw [if_neg c16] at H
                have c16b0 : decide (t201 < 1) = false := decide_eq_false c16
                clear c16
                (first | rw [c16b0] | (simp only [i64_w, i32_w]; rw [c16b0]) | skip)
                by_cases c17 : t201 > (wrap64 ((a0.size : Int) + 1))
                · rw [if_pos c17] at H
                  have c17b0 : decide ((wrap64 ((a0.size : Int) + 1)) < t201) = true := decide_eq_true c17
                  clear c17
                  have H' := Aside0.mk H
                  clear H
                  go_wp2
                  repeat (go_quiet (fail); try go_wp2)
                  go_meet
                  case rel => exact ⟨_, (true), (by first | rfl | (simp; done) | (simp [*]; done)), H', ⟨by have := HJ6.out; first | omega | exact Nat.le_refl _⟩, ⟨by repeat (first | (with_reducible first | exact HB.out | apply below_alloc | apply pw_below_drewN | apply below_drew1) | exact HB.out)⟩⟩
                · rw [if_neg c17] at H
                  have c17b0 : decide ((wrap64 ((a0.size : Int) + 1)) < t201) = false := decide_eq_false c17
                  clear c17
                  by_cases c18 : t201 > (wrap64 ((a1.size : Int) + 1))
                  · rw [if_pos c18] at H
                    have c18b0 : decide ((wrap64 ((a1.size : Int) + 1)) < t201) = true := decide_eq_true c18
                    clear c18
                    have H' := Aside0.mk H
                    clear H
                    go_wp2
                    repeat (go_quiet (fail); try go_wp2)
                    go_meet
                    case rel => exact ⟨_, (true), (by first | rfl | (simp; done) | (simp [*]; done)), H', ⟨by have := HJ6.out; first | omega | exact Nat.le_refl _⟩, ⟨by repeat (first | (with_reducible first | exact HB.out | apply below_alloc | apply pw_below_drewN | apply below_drew1) | exact HB.out)⟩⟩
                  · rw [if_neg c18] at H
                    have c18b0 : decide ((wrap64 ((a1.size : Int) + 1)) < t201) = false := decide_eq_false c18
                    clear c18
                    obtain ⟨ji19, hji19⟩ : ∃ j_ : Int, (wrap64 (t201 - 1)) = j_ := ⟨_, rfl⟩
                    replace H : (if 0 ≤ (ji19) then (if (ji19) ≤ (a0.size : Int) then (if (ji19) ≤ (a1.size : Int) then (if (a0.extract 0 ((ji19) : Int).toNat).toList = (a1.extract 0 ((ji19) : Int).toNat).toList then (if t201 ≤ (a0.size : Int) then (if t201 ≤ (a1.size : Int) then (if (ji19) < (a0.size : Int) then (if (ji19) < (a1.size : Int) then (if (bt a0 (ji19)) = (bt a1 (ji19)) then (redlinelaw02_LinesAgree.j1 kj6 a0 t201 t202 true) else (if t201 > (a0.size : Int) then (redlinelaw02_LinesAgree.j1 kj6 a0 t201 t202 (decide (t201 > (a1.size : Int)))) else (redlinelaw02_LinesAgree.j1 kj6 a0 t201 t202 false))) else (none)) else (none)) else (if t201 > (a0.size : Int) then (redlinelaw02_LinesAgree.j1 kj6 a0 t201 t202 (decide (t201 > (a1.size : Int)))) else (redlinelaw02_LinesAgree.j1 kj6 a0 t201 t202 false))) else (if t201 > (a0.size : Int) then (redlinelaw02_LinesAgree.j1 kj6 a0 t201 t202 (decide (t201 > (a1.size : Int)))) else (redlinelaw02_LinesAgree.j1 kj6 a0 t201 t202 false))) else (redlinelaw02_LinesAgree.j1 kj6 a0 t201 t202 true)) else (none)) else (none)) else (none)) = some r := by first | (rw [hji19] at H; exact H) | (simp only [hji19] at H ⊢; exact H)
                    have hji19w : (IntKind.i64.wrap (t201 - 1)) = ji19 := (i64_w _).trans hji19
                    by_cases c20 : 0 ≤ (ji19)
                    · rw [if_pos c20] at H
                      have c20b0 := eq_true c20
                      have c20b1 : decide (0 ≤ (ji19)) = true := decide_eq_true c20
                      clear c20
                      by_cases c21 : (ji19) ≤ (a0.size : Int)
                      · rw [if_pos c21] at H
                        have c21b0 := eq_true c21
                        have c21b1 : decide ((ji19) ≤ (a0.size : Int)) = true := decide_eq_true c21
                        clear c21
                        have c22b0 := eq_true (of_decide_eq_true (by first | (with_reducible assumption) | assumption) : 0 ≤ (ji19))
                        by_cases c23 : (ji19) ≤ (a1.size : Int)
                        · rw [if_pos c23] at H
                          have c23b0 := eq_true c23
                          have c23b1 : decide ((ji19) ≤ (a1.size : Int)) = true := decide_eq_true c23
                          clear c23
                          by_cases c24 : (a0.extract 0 ((ji19) : Int).toNat).toList = (a1.extract 0 ((ji19) : Int).toNat).toList
                          · rw [if_pos c24] at H
                            have c24b0 : ((a0.extract 0 ((ji19) : Int).toNat).toList == (a1.extract 0 ((ji19) : Int).toNat).toList) = true := beq_iff_eq.mpr c24
                            have c24b1 : ((a0.extract 0 ((ji19) : Int).toNat).toList != (a1.extract 0 ((ji19) : Int).toNat).toList) = false := bne_eq_false_iff_eq.mpr c24
                            clear c24
                            by_cases c25 : t201 ≤ (a0.size : Int)
                            · rw [if_pos c25] at H
                              have c25b0 : decide (t201 ≤ (a0.size : Int)) = true := decide_eq_true c25
                              clear c25
                              by_cases c26 : t201 ≤ (a1.size : Int)
                              · rw [if_pos c26] at H
                                have c26b0 : decide (t201 ≤ (a1.size : Int)) = true := decide_eq_true c26
                                clear c26
                                by_cases c27 : (ji19) < (a0.size : Int)
                                · rw [if_pos c27] at H
                                  have c27b0 : decide ((ji19) < (a0.size : Int)) = true := decide_eq_true c27
                                  clear c27
                                  by_cases c29 : (ji19) < (a1.size : Int)
                                  · rw [if_pos c29] at H
                                    have c29b0 : decide ((ji19) < (a1.size : Int)) = true := decide_eq_true c29
                                    clear c29
                                    by_cases c31 : (bt a0 (ji19)) = (bt a1 (ji19))
                                    · rw [if_pos c31] at H
                                      have c31b0 : ((bt a0 (ji19)) == (bt a1 (ji19))) = true := beq_iff_eq.mpr c31
                                      have c31b1 : ((bt a0 (ji19)) != (bt a1 (ji19))) = false := bne_eq_false_iff_eq.mpr c31
                                      clear c31
                                      have H' := Aside0.mk H
                                      clear H
                                      have p28 : 0 ≤ ((ji19) : Int) := of_decide_eq_true (by first | (with_reducible assumption) | assumption)
                                      have q28 : (ji19) < (a0.size : Int) := of_decide_eq_true (by first | (with_reducible assumption) | assumption)
                                      have hx28 := bt_at a0 (ji19)
                                      replace p28 := eq_true p28
                                      replace q28 := eq_true q28
                                      have p30 : 0 ≤ ((ji19) : Int) := of_decide_eq_true (by first | (with_reducible assumption) | assumption)
                                      have q30 : (ji19) < (a1.size : Int) := of_decide_eq_true (by first | (with_reducible assumption) | assumption)
                                      have hx30 := bt_at a1 (ji19)
                                      replace p30 := eq_true p30
                                      replace q30 := eq_true q30
                                      go_wp2
                                      repeat (go_quiet (fail); try go_wp2)
                                      go_meet
                                      case rel => exact ⟨_, (true), (by first | rfl | (simp; done) | (simp [*]; done)), H', ⟨by have := HJ6.out; first | omega | exact Nat.le_refl _⟩, ⟨by repeat (first | (with_reducible first | exact HB.out | apply below_alloc | apply pw_below_drewN | apply below_drew1) | exact HB.out)⟩⟩
                                    · rw [if_neg c31] at H
                                      have c31b0 : ((bt a0 (ji19)) == (bt a1 (ji19))) = false := beq_eq_false_iff_ne.mpr c31
                                      have c31b1 : ((bt a0 (ji19)) != (bt a1 (ji19))) = true := bne_iff_ne.mpr c31
                                      by_cases c32 : t201 > (a0.size : Int)
                                      · rw [if_pos c32] at H
                                        have c32b0 : decide ((a0.size : Int) < t201) = true := decide_eq_true c32
                                        clear c32
                                        have H' := Aside0.mk H
                                        clear H
                                        have p28 : 0 ≤ ((ji19) : Int) := of_decide_eq_true (by first | (with_reducible assumption) | assumption)
                                        have q28 : (ji19) < (a0.size : Int) := of_decide_eq_true (by first | (with_reducible assumption) | assumption)
                                        have hx28 := bt_at a0 (ji19)
                                        replace p28 := eq_true p28
                                        replace q28 := eq_true q28
                                        have p30 : 0 ≤ ((ji19) : Int) := of_decide_eq_true (by first | (with_reducible assumption) | assumption)
                                        have q30 : (ji19) < (a1.size : Int) := of_decide_eq_true (by first | (with_reducible assumption) | assumption)
                                        have hx30 := bt_at a1 (ji19)
                                        replace p30 := eq_true p30
                                        replace q30 := eq_true q30
                                        go_wp2
                                        repeat (go_quiet (fail); try go_wp2)
                                        go_meet
                                        case rel => exact ⟨_, (decide (t201 > (a1.size : Int))), (by first | rfl | (simp; done) | (simp [*]; done)), H', ⟨by have := HJ6.out; first | omega | exact Nat.le_refl _⟩, ⟨by repeat (first | (with_reducible first | exact HB.out | apply below_alloc | apply pw_below_drewN | apply below_drew1) | exact HB.out)⟩⟩
                                      · rw [if_neg c32] at H
                                        have c32b0 : decide ((a0.size : Int) < t201) = false := decide_eq_false c32
                                        clear c32
                                        have H' := Aside0.mk H
                                        clear H
                                        have p28 : 0 ≤ ((ji19) : Int) := of_decide_eq_true (by first | (with_reducible assumption) | assumption)
                                        have q28 : (ji19) < (a0.size : Int) := of_decide_eq_true (by first | (with_reducible assumption) | assumption)
                                        have hx28 := bt_at a0 (ji19)
                                        replace p28 := eq_true p28
                                        replace q28 := eq_true q28
                                        have p30 : 0 ≤ ((ji19) : Int) := of_decide_eq_true (by first | (with_reducible assumption) | assumption)
                                        have q30 : (ji19) < (a1.size : Int) := of_decide_eq_true (by first | (with_reducible assumption) | assumption)
                                        have hx30 := bt_at a1 (ji19)
                                        replace p30 := eq_true p30
                                        replace q30 := eq_true q30
                                        go_wp2
                                        repeat (go_quiet (fail); try go_wp2)
                                        go_meet
                                        case rel => exact ⟨_, (false), (by first | rfl | (simp; done) | (simp [*]; done)), H', ⟨by have := HJ6.out; first | omega | exact Nat.le_refl _⟩, ⟨by repeat (first | (with_reducible first | exact HB.out | apply below_alloc | apply pw_below_drewN | apply below_drew1) | exact HB.out)⟩⟩
                                  · rw [if_neg c29] at H
                                    exact absurd H (by simp)
                                · rw [if_neg c27] at H
                                  exact absurd H (by simp)
                              · rw [if_neg c26] at H
                                have c26b0 : decide (t201 ≤ (a1.size : Int)) = false := decide_eq_false c26
                                clear c26
                                by_cases c33 : t201 > (a0.size : Int)
                                · rw [if_pos c33] at H
                                  have c33b0 : decide ((a0.size : Int) < t201) = true := decide_eq_true c33
                                  clear c33
                                  have H' := Aside0.mk H
                                  clear H
                                  go_wp2
                                  repeat (go_quiet (fail); try go_wp2)
                                  go_meet
                                  case rel => exact ⟨_, (decide (t201 > (a1.size : Int))), (by first | rfl | (simp; done) | (simp [*]; done)), H', ⟨by have := HJ6.out; first | omega | exact Nat.le_refl _⟩, ⟨by repeat (first | (with_reducible first | exact HB.out | apply below_alloc | apply pw_below_drewN | apply below_drew1) | exact HB.out)⟩⟩
                                · rw [if_neg c33] at H
                                  have c33b0 : decide ((a0.size : Int) < t201) = false := decide_eq_false c33
                                  clear c33
                                  have H' := Aside0.mk H
                                  clear H
                                  go_wp2
                                  repeat (go_quiet (fail); try go_wp2)
                                  go_meet
                                  case rel => exact ⟨_, (false), (by first | rfl | (simp; done) | (simp [*]; done)), H', ⟨by have := HJ6.out; first | omega | exact Nat.le_refl _⟩, ⟨by repeat (first | (with_reducible first | exact HB.out | apply below_alloc | apply pw_below_drewN | apply below_drew1) | exact HB.out)⟩⟩
                            · rw [if_neg c25] at H
                              have c25b0 : decide (t201 ≤ (a0.size : Int)) = false := decide_eq_false c25
                              clear c25
                              by_cases c34 : t201 > (a0.size : Int)
                              · rw [if_pos c34] at H
                                have c34b0 : decide ((a0.size : Int) < t201) = true := decide_eq_true c34
                                clear c34
                                have H' := Aside0.mk H
                                clear H
                                go_wp2
                                repeat (go_quiet (fail); try go_wp2)
                                go_meet
                                case rel => exact ⟨_, (decide (t201 > (a1.size : Int))), (by first | rfl | (simp; done) | (simp [*]; done)), H', ⟨by have := HJ6.out; first | omega | exact Nat.le_refl _⟩, ⟨by repeat (first | (with_reducible first | exact HB.out | apply below_alloc | apply pw_below_drewN | apply below_drew1) | exact HB.out)⟩⟩
                              · rw [if_neg c34] at H
                                have c34b0 : decide ((a0.size : Int) < t201) = false := decide_eq_false c34
                                clear c34
                                have H' := Aside0.mk H
                                clear H
                                go_wp2
                                repeat (go_quiet (fail); try go_wp2)
                                go_meet
                                case rel => exact ⟨_, (false), (by first | rfl | (simp; done) | (simp [*]; done)), H', ⟨by have := HJ6.out; first | omega | exact Nat.le_refl _⟩, ⟨by repeat (first | (with_reducible first | exact HB.out | apply below_alloc | apply pw_below_drewN | apply below_drew1) | exact HB.out)⟩⟩
                          · rw [if_neg c24] at H
                            have c24b0 : ((a0.extract 0 ((ji19) : Int).toNat).toList == (a1.extract 0 ((ji19) : Int).toNat).toList) = false := beq_eq_false_iff_ne.mpr c24
                            have c24b1 : ((a0.extract 0 ((ji19) : Int).toNat).toList != (a1.extract 0 ((ji19) : Int).toNat).toList) = true := bne_iff_ne.mpr c24
                            have H' := Aside0.mk H
                            clear H
                            go_wp2
                            repeat (go_quiet (fail); try go_wp2)
                            go_meet
                            case rel => exact ⟨_, (true), (by first | rfl | (simp; done) | (simp [*]; done)), H', ⟨by have := HJ6.out; first | omega | exact Nat.le_refl _⟩, ⟨by repeat (first | (with_reducible first | exact HB.out | apply below_alloc | apply pw_below_drewN | apply below_drew1) | exact HB.out)⟩⟩
                        · rw [if_neg c23] at H
                          exact absurd H (by simp)
                      · rw [if_neg c21] at H
                        exact absurd H (by simp)
                    · rw [if_neg c20] at H
                      exact absurd H (by simp)
            case rest =>
              clear HC15
              try clear c1
              try clear c2
              try clear p2
              try clear q2
              try clear hx2
              try clear c3
              try clear p3
              try clear q3
              try clear hx3
              try clear c4
              try clear c5
              try clear p6
              try clear c11
              try clear c11b0
              try clear c11b1
              try clear c12
              try clear c12b0
              try clear c12b1
              try clear c13
              try clear c14
              try clear c16
              try clear c16b0
              try clear c17
              try clear c17b0
              try clear c18
              try clear c18b0
              try clear c20
              try clear c20b0
              try clear c20b1
              try clear c21
              try clear c21b0
              try clear c21b1
              try clear c22
              try clear c22b0
              try clear c23
              try clear c23b0
              try clear c23b1
              try clear c24
              try clear c24b0
              try clear c24b1
              try clear c25
              try clear c25b0
              try clear c26
              try clear c26b0
              try clear c27
              try clear c27b0
              try clear p28
              try clear q28
              try clear hx28
              try clear c29
              try clear c29b0
              try clear p30
              try clear q30
              try clear hx30
              try clear c31
              try clear c31b0
              try clear c31b1
              try clear c32
              try clear c32b0
              try clear c33
              try clear c33b0
              try clear c34
              try clear c34b0
              try clear p2
              try clear p28
              try clear p30
              try clear q28
              try clear q30
              obtain ⟨kq, x118_14, rfl, HA, HJ14, HB⟩ := hcut
              cases kq with
              | zero => exact absurd HA.out (by simp [redlinelaw02_LinesAgree.j1])
              | succ kj14 =>
                have H := HA.out
                clear HA
                simp only [redlinelaw02_LinesAgree.j1] at H
                by_cases c35 : x118_14 = true
                · subst c35
                  have H1 : (some false) = some r := by rw [if_pos rfl] at H; exact H
                  clear H
                  have H := H1
                  clear H1
                  obtain rfl := Option.some.inj H
                  go_wp2
                  repeat (go_quiet (fail); try go_wp2)
                  go_ret
                  exact ⟨by first | rfl | (simp [errW_none, errW_some] <;> rfl) | (simp [*, errW_none, errW_some] <;> rfl), by repeat (first | (with_reducible first | exact HB.out | apply below_alloc | apply pw_below_drewN | apply below_drew1) | exact HB.out)⟩
                · replace c35 := Bool.eq_false_iff.mpr c35
                  subst c35
                  have H1 : (if 0 ≤ (wrap64 (t201 - 1)) then (if (wrap64 (t201 - 1)) ≤ (a0.size : Int) then ((lines_Split.f (a0.extract 0 ((wrap64 (t201 - 1)) : Int).toNat)).bind fun t207 => (if (t207.length : Int) > 0 then (if 0 ≤ (wrap64 ((t207.length : Int) - 1)) then (if (wrap64 ((t207.length : Int) - 1)) < (t207.length : Int) then ((lines_Bare.f (rdOf ByteArray.empty t207 (wrap64 ((t207.length : Int) - 1)))).bind fun bt211 => (if bt211.2 = true then (some (t202 == (wrap64 ((t207.length : Int) + 1)))) else (some (t202 == (wrap64 ((wrap64 ((t207.length : Int) - 1)) + 1)))))) else (none)) else (none)) else (some (t202 == (wrap64 ((t207.length : Int) + 1)))))) else (none)) else (none)) = some r := by rw [if_neg (show ¬ (false = true) by decide)] at H; exact H
                  clear H
                  have H := H1
                  clear H1
                  obtain ⟨ji36, hji36⟩ : ∃ j_ : Int, (wrap64 (t201 - 1)) = j_ := ⟨_, rfl⟩
                  replace H : (if 0 ≤ (ji36) then (if (ji36) ≤ (a0.size : Int) then ((lines_Split.f (a0.extract 0 ((ji36) : Int).toNat)).bind fun t207 => (if (t207.length : Int) > 0 then (if 0 ≤ (wrap64 ((t207.length : Int) - 1)) then (if (wrap64 ((t207.length : Int) - 1)) < (t207.length : Int) then ((lines_Bare.f (rdOf ByteArray.empty t207 (wrap64 ((t207.length : Int) - 1)))).bind fun bt211 => (if bt211.2 = true then (some (t202 == (wrap64 ((t207.length : Int) + 1)))) else (some (t202 == (wrap64 ((wrap64 ((t207.length : Int) - 1)) + 1)))))) else (none)) else (none)) else (some (t202 == (wrap64 ((t207.length : Int) + 1)))))) else (none)) else (none)) = some r := by first | (rw [hji36] at H; exact H) | (simp only [hji36] at H ⊢; exact H)
                  have hji36w : (IntKind.i64.wrap (t201 - 1)) = ji36 := (i64_w _).trans hji36
                  by_cases c37 : 0 ≤ (ji36)
                  · rw [if_pos c37] at H
                    have c37b0 := eq_true c37
                    have c37b1 : decide (0 ≤ (ji36)) = true := decide_eq_true c37
                    clear c37
                    by_cases c38 : (ji36) ≤ (a0.size : Int)
                    · rw [if_pos c38] at H
                      have c38b0 := eq_true c38
                      have c38b1 : decide ((ji36) ≤ (a0.size : Int)) = true := decide_eq_true c38
                      clear c38
                      replace H := Option.bind_eq_some_iff.mp H
                      obtain ⟨t207, A390, H⟩ := H
                      replace H : (if (t207.length : Int) > 0 then (if 0 ≤ (wrap64 ((t207.length : Int) - 1)) then (if (wrap64 ((t207.length : Int) - 1)) < (t207.length : Int) then ((lines_Bare.f (rdOf ByteArray.empty t207 (wrap64 ((t207.length : Int) - 1)))).bind fun bt211 => (if bt211.2 = true then (some (t202 == (wrap64 ((t207.length : Int) + 1)))) else (some (t202 == (wrap64 ((wrap64 ((t207.length : Int) - 1)) + 1)))))) else (none)) else (none)) else (some (t202 == (wrap64 ((t207.length : Int) + 1))))) = some r := H
                      have A39 := Aside0.mk A390
                      clear A390
                      by_cases c40 : (t207.length : Int) > 0
                      · rw [if_pos c40] at H
                        have c40b0 : decide (0 < (t207.length : Int)) = true := decide_eq_true c40
                        have c40b1 : decide (0 < t207.length) = true := decide_eq_true (by omega)
                        clear c40
                        obtain ⟨ji41, hji41⟩ : ∃ j_ : Int, (wrap64 ((t207.length : Int) - 1)) = j_ := ⟨_, rfl⟩
                        replace H : (if 0 ≤ (ji41) then (if (ji41) < (t207.length : Int) then ((lines_Bare.f (rdOf ByteArray.empty t207 (ji41))).bind fun bt211 => (if bt211.2 = true then (some (t202 == (wrap64 ((t207.length : Int) + 1)))) else (some (t202 == (wrap64 ((ji41) + 1)))))) else (none)) else (none)) = some r := by first | (rw [hji41] at H; exact H) | (simp only [hji41] at H ⊢; exact H)
                        (try rw [hji41] at A39)
                        have hji41w : (IntKind.i64.wrap ((t207.length : Int) - 1)) = ji41 := (i64_w _).trans hji41
                        by_cases c42 : 0 ≤ (ji41)
                        · rw [if_pos c42] at H
                          have c42b0 : decide (0 ≤ (ji41)) = true := decide_eq_true c42
                          clear c42
                          by_cases c43 : (ji41) < (t207.length : Int)
                          · rw [if_pos c43] at H
                            have c43b0 : decide ((ji41) < (t207.length : Int)) = true := decide_eq_true c43
                            clear c43
                            replace H := Option.bind_eq_some_iff.mp H
                            obtain ⟨⟨t211, t212⟩, A440, H⟩ := H
                            replace H : (if t212 = true then (some (t202 == (wrap64 ((t207.length : Int) + 1)))) else (some (t202 == (wrap64 ((ji41) + 1))))) = some r := H
                            have A44 := Aside0.mk A440
                            clear A440
                            by_cases c45 : t212 = true
                            · subst c45
                              have H1 : (some (t202 == (wrap64 ((t207.length : Int) + 1)))) = some r := by rw [if_pos rfl] at H; exact H
                              clear H
                              have H := H1
                              clear H1
                              obtain rfl := Option.some.inj H
                              go_wp2_with (first | (go_at_call 7; (with_reducible refine (lines_Split.calls (a0.extract 0 ((ji36) : Int).toNat) t207 _ A39.out).mono ?_); rintro e w46 ⟨v208, rfl, ho0, hb⟩; have n0_ := Aside0.mk (Kd.R_lower ho0 (below_size (by repeat (first | (with_reducible first | exact HB.out | apply below_alloc | apply pw_below_drewN | apply below_drew1) | exact HB.out)))); have n1_ := Aside0.mk (below_step (by repeat (first | (with_reducible first | exact HB.out | apply below_alloc | apply pw_below_drewN | apply below_drew1) | exact HB.out)) hb); clear HB; have HO209 := n0_; have HB := n1_; clear n0_ n1_; (try clear hb); (try clear hb2); (try clear hk); (try clear hi); (try clear ho0); obtain ⟨Ao47, co47, eo47⟩ := Kd.R_slice HO209.out; subst eo47; have p210 : 0 ≤ ((ji41) : Int) := of_decide_eq_true (by first | (with_reducible assumption) | assumption); have q210 : (ji41) < (t207.length : Int) := of_decide_eq_true (by first | (with_reducible assumption) | assumption); obtain ⟨ad210, e210, hx210_0⟩ := Kd.at_string (Kd.R_reads' HO209.out).2.2 (ji41) p210 q210; cases e210; replace p210 := eq_true p210; replace q210 := eq_true q210) | (go_at_call 12; (with_reducible refine (lines_Bare.calls (rdOf ByteArray.empty t207 (ji41)) t211 true _ A44.out).mono ?_); rintro e w' ⟨rfl, ⟨nd, rfl⟩⟩; (try first | exact ⟨rfl, _, World.drewN_drewN _ _ _⟩ | exact ⟨rfl, _, Eq.trans (World.drewN_drewN _ _ _) (congrArg (World.drewN _) (Nat.add_assoc _ _ _))⟩)))
                              repeat (go_quiet (first | (go_at_call 7; (with_reducible refine (lines_Split.calls (a0.extract 0 ((ji36) : Int).toNat) t207 _ A39.out).mono ?_); rintro e w46 ⟨v208, rfl, ho0, hb⟩; have n0_ := Aside0.mk (Kd.R_lower ho0 (below_size (by repeat (first | (with_reducible first | exact HB.out | apply below_alloc | apply pw_below_drewN | apply below_drew1) | exact HB.out)))); have n1_ := Aside0.mk (below_step (by repeat (first | (with_reducible first | exact HB.out | apply below_alloc | apply pw_below_drewN | apply below_drew1) | exact HB.out)) hb); clear HB; have HO209 := n0_; have HB := n1_; clear n0_ n1_; (try clear hb); (try clear hb2); (try clear hk); (try clear hi); (try clear ho0); obtain ⟨Ao47, co47, eo47⟩ := Kd.R_slice HO209.out; subst eo47; have p210 : 0 ≤ ((ji41) : Int) := of_decide_eq_true (by first | (with_reducible assumption) | assumption); have q210 : (ji41) < (t207.length : Int) := of_decide_eq_true (by first | (with_reducible assumption) | assumption); obtain ⟨ad210, e210, hx210_0⟩ := Kd.at_string (Kd.R_reads' HO209.out).2.2 (ji41) p210 q210; cases e210; replace p210 := eq_true p210; replace q210 := eq_true q210) | (go_at_call 12; (with_reducible refine (lines_Bare.calls (rdOf ByteArray.empty t207 (ji41)) t211 true _ A44.out).mono ?_); rintro e w' ⟨rfl, ⟨nd, rfl⟩⟩; (try first | exact ⟨rfl, _, World.drewN_drewN _ _ _⟩ | exact ⟨rfl, _, Eq.trans (World.drewN_drewN _ _ _) (congrArg (World.drewN _) (Nat.add_assoc _ _ _))⟩))); try go_wp2_with (first | (go_at_call 7; (with_reducible refine (lines_Split.calls (a0.extract 0 ((ji36) : Int).toNat) t207 _ A39.out).mono ?_); rintro e w46 ⟨v208, rfl, ho0, hb⟩; have n0_ := Aside0.mk (Kd.R_lower ho0 (below_size (by repeat (first | (with_reducible first | exact HB.out | apply below_alloc | apply pw_below_drewN | apply below_drew1) | exact HB.out)))); have n1_ := Aside0.mk (below_step (by repeat (first | (with_reducible first | exact HB.out | apply below_alloc | apply pw_below_drewN | apply below_drew1) | exact HB.out)) hb); clear HB; have HO209 := n0_; have HB := n1_; clear n0_ n1_; (try clear hb); (try clear hb2); (try clear hk); (try clear hi); (try clear ho0); obtain ⟨Ao47, co47, eo47⟩ := Kd.R_slice HO209.out; subst eo47; have p210 : 0 ≤ ((ji41) : Int) := of_decide_eq_true (by first | (with_reducible assumption) | assumption); have q210 : (ji41) < (t207.length : Int) := of_decide_eq_true (by first | (with_reducible assumption) | assumption); obtain ⟨ad210, e210, hx210_0⟩ := Kd.at_string (Kd.R_reads' HO209.out).2.2 (ji41) p210 q210; cases e210; replace p210 := eq_true p210; replace q210 := eq_true q210) | (go_at_call 12; (with_reducible refine (lines_Bare.calls (rdOf ByteArray.empty t207 (ji41)) t211 true _ A44.out).mono ?_); rintro e w' ⟨rfl, ⟨nd, rfl⟩⟩; (try first | exact ⟨rfl, _, World.drewN_drewN _ _ _⟩ | exact ⟨rfl, _, Eq.trans (World.drewN_drewN _ _ _) (congrArg (World.drewN _) (Nat.add_assoc _ _ _))⟩))))
                              go_ret
                              exact ⟨by first | rfl | (simp [errW_none, errW_some] <;> rfl) | (simp only [← hji36, ← hji41]; first | rfl | (simp [errW_none, errW_some] <;> rfl)) | (simp [*, errW_none, errW_some] <;> rfl), by repeat (first | (with_reducible first | exact HB.out | apply below_alloc | apply pw_below_drewN | apply below_drew1) | exact HB.out)⟩
                            · replace c45 := Bool.eq_false_iff.mpr c45
                              subst c45
                              have H1 : (some (t202 == (wrap64 ((ji41) + 1)))) = some r := by rw [if_neg (show ¬ (false = true) by decide)] at H; exact H
                              clear H
                              have H := H1
                              clear H1
                              obtain rfl := Option.some.inj H
                              go_wp2_with (first | (go_at_call 7; (with_reducible refine (lines_Split.calls (a0.extract 0 ((ji36) : Int).toNat) t207 _ A39.out).mono ?_); rintro e w48 ⟨v208, rfl, ho0, hb⟩; have n0_ := Aside0.mk (Kd.R_lower ho0 (below_size (by repeat (first | (with_reducible first | exact HB.out | apply below_alloc | apply pw_below_drewN | apply below_drew1) | exact HB.out)))); have n1_ := Aside0.mk (below_step (by repeat (first | (with_reducible first | exact HB.out | apply below_alloc | apply pw_below_drewN | apply below_drew1) | exact HB.out)) hb); clear HB; have HO209 := n0_; have HB := n1_; clear n0_ n1_; (try clear hb); (try clear hb2); (try clear hk); (try clear hi); (try clear ho0); obtain ⟨Ao49, co49, eo49⟩ := Kd.R_slice HO209.out; subst eo49; have p210 : 0 ≤ ((ji41) : Int) := of_decide_eq_true (by first | (with_reducible assumption) | assumption); have q210 : (ji41) < (t207.length : Int) := of_decide_eq_true (by first | (with_reducible assumption) | assumption); obtain ⟨ad210, e210, hx210_0⟩ := Kd.at_string (Kd.R_reads' HO209.out).2.2 (ji41) p210 q210; cases e210; replace p210 := eq_true p210; replace q210 := eq_true q210) | (go_at_call 12; (with_reducible refine (lines_Bare.calls (rdOf ByteArray.empty t207 (ji41)) t211 false _ A44.out).mono ?_); rintro e w' ⟨rfl, ⟨nd, rfl⟩⟩; (try first | exact ⟨rfl, _, World.drewN_drewN _ _ _⟩ | exact ⟨rfl, _, Eq.trans (World.drewN_drewN _ _ _) (congrArg (World.drewN _) (Nat.add_assoc _ _ _))⟩)))
                              repeat (go_quiet (first | (go_at_call 7; (with_reducible refine (lines_Split.calls (a0.extract 0 ((ji36) : Int).toNat) t207 _ A39.out).mono ?_); rintro e w48 ⟨v208, rfl, ho0, hb⟩; have n0_ := Aside0.mk (Kd.R_lower ho0 (below_size (by repeat (first | (with_reducible first | exact HB.out | apply below_alloc | apply pw_below_drewN | apply below_drew1) | exact HB.out)))); have n1_ := Aside0.mk (below_step (by repeat (first | (with_reducible first | exact HB.out | apply below_alloc | apply pw_below_drewN | apply below_drew1) | exact HB.out)) hb); clear HB; have HO209 := n0_; have HB := n1_; clear n0_ n1_; (try clear hb); (try clear hb2); (try clear hk); (try clear hi); (try clear ho0); obtain ⟨Ao49, co49, eo49⟩ := Kd.R_slice HO209.out; subst eo49; have p210 : 0 ≤ ((ji41) : Int) := of_decide_eq_true (by first | (with_reducible assumption) | assumption); have q210 : (ji41) < (t207.length : Int) := of_decide_eq_true (by first | (with_reducible assumption) | assumption); obtain ⟨ad210, e210, hx210_0⟩ := Kd.at_string (Kd.R_reads' HO209.out).2.2 (ji41) p210 q210; cases e210; replace p210 := eq_true p210; replace q210 := eq_true q210) | (go_at_call 12; (with_reducible refine (lines_Bare.calls (rdOf ByteArray.empty t207 (ji41)) t211 false _ A44.out).mono ?_); rintro e w' ⟨rfl, ⟨nd, rfl⟩⟩; (try first | exact ⟨rfl, _, World.drewN_drewN _ _ _⟩ | exact ⟨rfl, _, Eq.trans (World.drewN_drewN _ _ _) (congrArg (World.drewN _) (Nat.add_assoc _ _ _))⟩))); try go_wp2_with (first | (go_at_call 7; (with_reducible refine (lines_Split.calls (a0.extract 0 ((ji36) : Int).toNat) t207 _ A39.out).mono ?_); rintro e w48 ⟨v208, rfl, ho0, hb⟩; have n0_ := Aside0.mk (Kd.R_lower ho0 (below_size (by repeat (first | (with_reducible first | exact HB.out | apply below_alloc | apply pw_below_drewN | apply below_drew1) | exact HB.out)))); have n1_ := Aside0.mk (below_step (by repeat (first | (with_reducible first | exact HB.out | apply below_alloc | apply pw_below_drewN | apply below_drew1) | exact HB.out)) hb); clear HB; have HO209 := n0_; have HB := n1_; clear n0_ n1_; (try clear hb); (try clear hb2); (try clear hk); (try clear hi); (try clear ho0); obtain ⟨Ao49, co49, eo49⟩ := Kd.R_slice HO209.out; subst eo49; have p210 : 0 ≤ ((ji41) : Int) := of_decide_eq_true (by first | (with_reducible assumption) | assumption); have q210 : (ji41) < (t207.length : Int) := of_decide_eq_true (by first | (with_reducible assumption) | assumption); obtain ⟨ad210, e210, hx210_0⟩ := Kd.at_string (Kd.R_reads' HO209.out).2.2 (ji41) p210 q210; cases e210; replace p210 := eq_true p210; replace q210 := eq_true q210) | (go_at_call 12; (with_reducible refine (lines_Bare.calls (rdOf ByteArray.empty t207 (ji41)) t211 false _ A44.out).mono ?_); rintro e w' ⟨rfl, ⟨nd, rfl⟩⟩; (try first | exact ⟨rfl, _, World.drewN_drewN _ _ _⟩ | exact ⟨rfl, _, Eq.trans (World.drewN_drewN _ _ _) (congrArg (World.drewN _) (Nat.add_assoc _ _ _))⟩))))
                              go_ret
                              exact ⟨by first | rfl | (simp [errW_none, errW_some] <;> rfl) | (simp only [← hji36, ← hji41]; first | rfl | (simp [errW_none, errW_some] <;> rfl)) | (simp [*, errW_none, errW_some] <;> rfl), by repeat (first | (with_reducible first | exact HB.out | apply below_alloc | apply pw_below_drewN | apply below_drew1) | exact HB.out)⟩
                          · rw [if_neg c43] at H
                            exact absurd H (by simp)
                        · rw [if_neg c42] at H
                          exact absurd H (by simp)
                      · rw [if_neg c40] at H
                        have c40b0 : decide (0 < (t207.length : Int)) = false := decide_eq_false c40
                        have c40b1 : decide (0 < t207.length) = false := decide_eq_false (by omega)
                        clear c40
                        obtain rfl := Option.some.inj H
                        go_wp2_with (first | (go_at_call 7; (with_reducible refine (lines_Split.calls (a0.extract 0 ((ji36) : Int).toNat) t207 _ A39.out).mono ?_); rintro e w50 ⟨v208, rfl, ho0, hb⟩; have n0_ := Aside0.mk (Kd.R_lower ho0 (below_size (by repeat (first | (with_reducible first | exact HB.out | apply below_alloc | apply pw_below_drewN | apply below_drew1) | exact HB.out)))); have n1_ := Aside0.mk (below_step (by repeat (first | (with_reducible first | exact HB.out | apply below_alloc | apply pw_below_drewN | apply below_drew1) | exact HB.out)) hb); clear HB; have HO209 := n0_; have HB := n1_; clear n0_ n1_; (try clear hb); (try clear hb2); (try clear hk); (try clear hi); (try clear ho0); obtain ⟨Ao51, co51, eo51⟩ := Kd.R_slice HO209.out; subst eo51))
                        repeat (go_quiet (first | (go_at_call 7; (with_reducible refine (lines_Split.calls (a0.extract 0 ((ji36) : Int).toNat) t207 _ A39.out).mono ?_); rintro e w50 ⟨v208, rfl, ho0, hb⟩; have n0_ := Aside0.mk (Kd.R_lower ho0 (below_size (by repeat (first | (with_reducible first | exact HB.out | apply below_alloc | apply pw_below_drewN | apply below_drew1) | exact HB.out)))); have n1_ := Aside0.mk (below_step (by repeat (first | (with_reducible first | exact HB.out | apply below_alloc | apply pw_below_drewN | apply below_drew1) | exact HB.out)) hb); clear HB; have HO209 := n0_; have HB := n1_; clear n0_ n1_; (try clear hb); (try clear hb2); (try clear hk); (try clear hi); (try clear ho0); obtain ⟨Ao51, co51, eo51⟩ := Kd.R_slice HO209.out; subst eo51)); try go_wp2_with (first | (go_at_call 7; (with_reducible refine (lines_Split.calls (a0.extract 0 ((ji36) : Int).toNat) t207 _ A39.out).mono ?_); rintro e w50 ⟨v208, rfl, ho0, hb⟩; have n0_ := Aside0.mk (Kd.R_lower ho0 (below_size (by repeat (first | (with_reducible first | exact HB.out | apply below_alloc | apply pw_below_drewN | apply below_drew1) | exact HB.out)))); have n1_ := Aside0.mk (below_step (by repeat (first | (with_reducible first | exact HB.out | apply below_alloc | apply pw_below_drewN | apply below_drew1) | exact HB.out)) hb); clear HB; have HO209 := n0_; have HB := n1_; clear n0_ n1_; (try clear hb); (try clear hb2); (try clear hk); (try clear hi); (try clear ho0); obtain ⟨Ao51, co51, eo51⟩ := Kd.R_slice HO209.out; subst eo51)))
                        go_ret
                        exact ⟨by first | rfl | (simp [errW_none, errW_some] <;> rfl) | (simp only [← hji36]; first | rfl | (simp [errW_none, errW_some] <;> rfl)) | (simp [*, errW_none, errW_some] <;> rfl), by repeat (first | (with_reducible first | exact HB.out | apply below_alloc | apply pw_below_drewN | apply below_drew1) | exact HB.out)⟩
                    · rw [if_neg c38] at H
                      exact absurd H (by simp)
                  · rw [if_neg c37] at H
                    exact absurd H (by simp)
          · replace c14 := Bool.eq_false_iff.mpr c14
            subst c14
            have H1 : (if a0.toList = a1.toList then (if t201 = 0 then (some (t202 == 0)) else (some false)) else (some false)) = some r := by rw [if_neg (show ¬ (false = true) by decide)] at H; exact H
            clear H
            have H := H1
            clear H1
            by_cases c52 : a0.toList = a1.toList
            · rw [if_pos c52] at H
              have c52b0 : (a0.toList == a1.toList) = true := beq_iff_eq.mpr c52
              have c52b1 : (a0.toList != a1.toList) = false := bne_eq_false_iff_eq.mpr c52
              clear c52
              by_cases c53 : t201 = 0
              · rw [if_pos c53] at H
                have c53b0 : (t201 == 0) = true := beq_iff_eq.mpr c53
                have c53b1 : (t201 != 0) = false := bne_eq_false_iff_eq.mpr c53
                clear c53
                obtain rfl := Option.some.inj H
                go_wp2
                repeat (go_quiet (fail); try go_wp2)
                go_ret
                exact ⟨by first | rfl | (simp [errW_none, errW_some] <;> rfl) | (simp [*, errW_none, errW_some] <;> rfl), by repeat (first | (with_reducible first | exact HB.out | apply below_alloc | apply pw_below_drewN | apply below_drew1) | exact HB.out)⟩
              · rw [if_neg c53] at H
                have c53b0 : (t201 == 0) = false := beq_eq_false_iff_ne.mpr c53
                have c53b1 : (t201 != 0) = true := bne_iff_ne.mpr c53
                obtain rfl := Option.some.inj H
                go_wp2
                repeat (go_quiet (fail); try go_wp2)
                go_ret
                exact ⟨by first | rfl | (simp [errW_none, errW_some] <;> rfl) | (simp [*, errW_none, errW_some] <;> rfl), by repeat (first | (with_reducible first | exact HB.out | apply below_alloc | apply pw_below_drewN | apply below_drew1) | exact HB.out)⟩
            · rw [if_neg c52] at H
              have c52b0 : (a0.toList == a1.toList) = false := beq_eq_false_iff_ne.mpr c52
              have c52b1 : (a0.toList != a1.toList) = true := bne_iff_ne.mpr c52
              obtain rfl := Option.some.inj H
              go_wp2
              repeat (go_quiet (fail); try go_wp2)
              go_ret
              exact ⟨by first | rfl | (simp [errW_none, errW_some] <;> rfl) | (simp [*, errW_none, errW_some] <;> rfl), by repeat (first | (with_reducible first | exact HB.out | apply below_alloc | apply pw_below_drewN | apply below_drew1) | exact HB.out)⟩
  · replace c4 := Bool.eq_false_iff.mpr c4
    subst c4
    have H1 : (some false) = some r := by rw [if_neg (show ¬ (false = true) by decide)] at H; exact H
    clear H
    have H := H1
    clear H1
    obtain rfl := Option.some.inj H
    go_enter Tryd.func5, Tryd.ntmps5
    go_wp2_with (first | (go_at_call 10; (with_reducible refine (redlinelaw02_works.calls k  false _ A3.out).mono ?_); rintro e w54 ⟨rfl, hb⟩; have n0_ := Aside0.mk (below_step (by repeat (first | (with_reducible first | exact HB.out | apply below_alloc | apply pw_below_drewN | apply below_drew1) | exact HB.out)) hb); clear HB; have HB := n0_; clear n0_; (try clear hb); (try clear hb2); (try clear hk); (try clear hi)))
    repeat (go_quiet (first | (go_at_call 10; (with_reducible refine (redlinelaw02_works.calls k  false _ A3.out).mono ?_); rintro e w54 ⟨rfl, hb⟩; have n0_ := Aside0.mk (below_step (by repeat (first | (with_reducible first | exact HB.out | apply below_alloc | apply pw_below_drewN | apply below_drew1) | exact HB.out)) hb); clear HB; have HB := n0_; clear n0_; (try clear hb); (try clear hb2); (try clear hk); (try clear hi))); try go_wp2_with (first | (go_at_call 10; (with_reducible refine (redlinelaw02_works.calls k  false _ A3.out).mono ?_); rintro e w54 ⟨rfl, hb⟩; have n0_ := Aside0.mk (below_step (by repeat (first | (with_reducible first | exact HB.out | apply below_alloc | apply pw_below_drewN | apply below_drew1) | exact HB.out)) hb); clear HB; have HB := n0_; clear n0_; (try clear hb); (try clear hb2); (try clear hk); (try clear hi))))
    go_ret
    exact ⟨by first | rfl | (simp [errW_none, errW_some] <;> rfl) | (simp [*, errW_none, errW_some] <;> rfl), by repeat (first | (with_reducible first | exact HB.out | apply below_alloc | apply pw_below_drewN | apply below_drew1) | exact HB.out)⟩

/-- THE ONE PURE STATEMENT of redlinelaw02_LinesAgree: yours. -/
def redlinelaw02_LinesAgree.Pure : Prop := ∀ (a0 : ByteArray) (a1 : ByteArray), a0.size ≤ 140737488351232 → a1.size ≤ 140737488351232 → ∃ k, redlinelaw02_LinesAgree.f k a0 a1 = some true
theorem redlinelaw02_LinesAgree.walk (P : redlinelaw02_LinesAgree.Pure) (a0 : ByteArray) (a1 : ByteArray) (w : World) (w0 : a0.size ≤ 140737488351232) (w1 : a1.size ≤ 140737488351232) :
    Calls Tryd.prog 5 #[.string a0, .string a1] w fun e w' => e = .returned (.bool true) ∧ Below w.heap.size w w' := by
  obtain ⟨k, h⟩ := P a0 a1 w0 w1
  refine (redlinelaw02_LinesAgree.calls k a0 a1 true w h).mono ?_
  rintro e w' ⟨rfl, hd⟩
  exact ⟨rfl, hd⟩

end Go.Proofs.YtkodamaoklaibaaDoor.X
