-- Written by this session's program wip/tools/myprint.py (the kit's printing program, with functions proved by hand taken as printed).
import Derived.Test.YtpkhfeeelkhkaaaX0
namespace Go.Proofs.Ytpkhfeeelkhkaaa.X
open Go.RowKit Go.Proofs.YtpkhfeeelkhkaaaW.PrintWords Go.Proofs.YtpkhfeeelkhkaaaW.PrintLast Go.Proofs.YtpkhfeeelkhkaaaW.PrintMore
attribute [local go_sem] max2_int min2_int max_two min_two max_three min_three max_four min_four   -- for this text's walks alone
set_option linter.unusedVariables false
set_option linter.unusedSimpArgs false

/-! ### redlineref05_Cost: function 22 -/
def redlineref05_Cost.l0 : Nat → List (S54) → Int → Int → Option (Int)
  | 0, _, _, _ => none
  | k + 1, x0, x3, x4 => if x4 < (x0.length : Int) then (if 0 ≤ x4 then (redlineref05_Cost.l0 k x0 (mn (wrap64 ((mn (wrap64 (x3 + (mn (mx 0 ((rd_T54 x0 x4).f1)) 2147483647))) 2147483647) + (mn (mx 0 ((rd_T54 x0 x4).f3)) 2147483647))) 2147483647) (wrap64 (x4 + 1))) else (none)) else (some x3)
def redlineref05_Cost.f (k : Nat) (l0 : List (S54)) : Option (Int) := redlineref05_Cost.l0 k l0 0 0
theorem redlineref05_Cost.mono_l : ∀ k, (∀ y0 y1 y2, LeO (redlineref05_Cost.l0 k y0 y1 y2) (redlineref05_Cost.l0 (k + 1) y0 y1 y2))
  | 0 => fun _ _ _ r h => by simp [redlineref05_Cost.l0] at h
  | k + 1 => by
    have ih0 := redlineref05_Cost.mono_l k
    · intro y0 y1 y2
      unfold redlineref05_Cost.l0
      repeat' first
      | (with_reducible exact ih0 _ _ _)
      | (with_reducible exact LeO.refl _)
      | (with_reducible exact LeO.none _)
      | (with_reducible refine LeO.ite ?_ ?_)
      | (with_reducible refine LeO.bind ?_ (fun _ => ?_))
      | exact ih0 _ _ _
      | exact LeO.none _
      | refine LeO.ite ?_ ?_
      | refine LeO.bind ?_ (fun _ => ?_)
theorem redlineref05_Cost.mono : ∀ a0 k, LeO (redlineref05_Cost.f k a0) (redlineref05_Cost.f (k + 1) a0) := by
  intro a0 k
  have ih0 := redlineref05_Cost.mono_l k
  unfold redlineref05_Cost.f
  repeat' first
      | (with_reducible exact ih0 _ _ _)
      | (with_reducible exact LeO.refl _)
      | (with_reducible exact LeO.none _)
      | (with_reducible refine LeO.ite ?_ ?_)
      | (with_reducible refine LeO.bind ?_ (fun _ => ?_))
      | exact ih0 _ _ _
      | exact LeO.none _
      | refine LeO.ite ?_ ?_
      | refine LeO.bind ?_ (fun _ => ?_)
set_option maxHeartbeats 8000000 in
set_option maxRecDepth 100000 in
theorem redlineref05_Cost.calls (k : Nat) (A0 : Option Addr) (c0 : Nat) (l0 : List (S54)) (r : Int) (w : World) (hr0 : Kd.C k54 w A0 l0.length l0) (hc0 : l0.length ≤ c0) (h : redlineref05_Cost.f k l0 = some r) :
    Calls Try.prog 22 #[.slice A0 l0.length c0] w fun e w' => e = .returned (.int .i64 r) ∧ Below w.heap.size w w' := by
  have HR0 := Aside0.mk hr0
  have HC0 := Aside0.mk hc0
  clear hr0 hc0
  have HB := Aside0.mk (Below.refl w.heap.size w)
  have H : (redlineref05_Cost.l0 k l0 0 0) = some r := h
  clear h
  have H' := Aside0.mk H
  clear H
  go_enter Try.func22, Try.ntmps22
  go_wp2
  go_loopg [3, 4] k (fun kq v3 v4 w' => ∃ (x3_1 : Int) (x4_1 : Int), v3 = .int .i64 x3_1 ∧ v4 = .int .i64 x4_1 ∧ Aside0 (redlineref05_Cost.l0 kq l0 x3_1 x4_1 = some r) ∧ Aside0 (kq ≤ k) ∧ Aside0 (Below w.heap.size w w'))
  case atStart => exact ⟨(0), (0), (by first | rfl | (simp; done) | (simp [*]; done)), (by first | rfl | (simp; done) | (simp [*]; done)), H', ⟨Nat.le_refl _⟩, ⟨by repeat (first | (with_reducible first | exact HB.out | apply below_alloc | apply pw_below_drewN | apply below_drew1) | exact HB.out)⟩⟩
  case round =>
    clear H'
    obtain ⟨x3_1, x4_1, rfl, rfl, HA, HK1, HB⟩ := hrel
    cases gk with
    | zero => exact absurd HA.out (by simp [redlineref05_Cost.l0])
    | succ k1 =>
      have H := HA.out
      clear HA
      simp only [redlineref05_Cost.l0] at H
      by_cases c2 : x4_1 < (l0.length : Int)
      · rw [if_pos c2] at H
        have c2b0 : decide (x4_1 < (l0.length : Int)) = true := decide_eq_true c2
        clear c2
        by_cases c3 : 0 ≤ x4_1
        · rw [if_pos c3] at H
          have c3b0 : decide (0 ≤ x4_1) = true := decide_eq_true c3
          clear c3
          obtain ⟨ji4, hji4⟩ : ∃ j_ : Int, (mx 0 ((rd_T54 l0 x4_1).f1)) = j_ := ⟨_, rfl⟩
          replace H : (redlineref05_Cost.l0 k1 l0 (mn (wrap64 ((mn (wrap64 (x3_1 + (mn (ji4) 2147483647))) 2147483647) + (mn (mx 0 ((rd_T54 l0 x4_1).f3)) 2147483647))) 2147483647) (wrap64 (x4_1 + 1))) = some r := by first | (rw [hji4] at H; exact H) | (simp only [hji4] at H ⊢; exact H)
          have hji4_ : (if 0 < ((rd_T54 l0 x4_1).f1) then ((rd_T54 l0 x4_1).f1) else 0) = ji4 := hji4
          obtain ⟨ji5, hji5⟩ : ∃ j_ : Int, (mn (ji4) 2147483647) = j_ := ⟨_, rfl⟩
          replace H : (redlineref05_Cost.l0 k1 l0 (mn (wrap64 ((mn (wrap64 (x3_1 + (ji5))) 2147483647) + (mn (mx 0 ((rd_T54 l0 x4_1).f3)) 2147483647))) 2147483647) (wrap64 (x4_1 + 1))) = some r := by first | (rw [hji5] at H; exact H) | (simp only [hji5] at H ⊢; exact H)
          have hji5_ : (if 2147483647 < (ji4) then 2147483647 else (ji4)) = ji5 := hji5
          obtain ⟨ji6, hji6⟩ : ∃ j_ : Int, (mn (wrap64 (x3_1 + (ji5))) 2147483647) = j_ := ⟨_, rfl⟩
          replace H : (redlineref05_Cost.l0 k1 l0 (mn (wrap64 ((ji6) + (mn (mx 0 ((rd_T54 l0 x4_1).f3)) 2147483647))) 2147483647) (wrap64 (x4_1 + 1))) = some r := by first | (rw [hji6] at H; exact H) | (simp only [hji6] at H ⊢; exact H)
          have hji6_ : (if 2147483647 < (wrap64 (x3_1 + (ji5))) then 2147483647 else (wrap64 (x3_1 + (ji5)))) = ji6 := hji6
          obtain ⟨ji7, hji7⟩ : ∃ j_ : Int, (mx 0 ((rd_T54 l0 x4_1).f3)) = j_ := ⟨_, rfl⟩
          replace H : (redlineref05_Cost.l0 k1 l0 (mn (wrap64 ((ji6) + (mn (ji7) 2147483647))) 2147483647) (wrap64 (x4_1 + 1))) = some r := by first | (rw [hji7] at H; exact H) | (simp only [hji7] at H ⊢; exact H)
          have hji7_ : (if 0 < ((rd_T54 l0 x4_1).f3) then ((rd_T54 l0 x4_1).f3) else 0) = ji7 := hji7
          obtain ⟨ji8, hji8⟩ : ∃ j_ : Int, (mn (ji7) 2147483647) = j_ := ⟨_, rfl⟩
          replace H : (redlineref05_Cost.l0 k1 l0 (mn (wrap64 ((ji6) + (ji8))) 2147483647) (wrap64 (x4_1 + 1))) = some r := by first | (rw [hji8] at H; exact H) | (simp only [hji8] at H ⊢; exact H)
          have hji8_ : (if 2147483647 < (ji7) then 2147483647 else (ji7)) = ji8 := hji8
          obtain ⟨ji9, hji9⟩ : ∃ j_ : Int, (mn (wrap64 ((ji6) + (ji8))) 2147483647) = j_ := ⟨_, rfl⟩
          replace H : (redlineref05_Cost.l0 k1 l0 ji9 (wrap64 (x4_1 + 1))) = some r := by first | (rw [hji9] at H; exact H) | (simp only [hji9] at H ⊢; exact H)
          have hji9_ : (if 2147483647 < (wrap64 ((ji6) + (ji8))) then 2147483647 else (wrap64 ((ji6) + (ji8)))) = ji9 := hji9
          have H' := Aside0.mk H
          clear H
          have p190 : 0 ≤ (x4_1 : Int) := of_decide_eq_true (by first | (with_reducible assumption) | assumption)
          have q190 : x4_1 < (l0.length : Int) := of_decide_eq_true (by first | (with_reducible assumption) | assumption)
          obtain ⟨ad190, e190, hx190_0, hx190_1, hx190_2, hx190_3⟩ := at_T54 HR0.out x4_1 p190 q190
          cases e190
          replace hx190_0 := (HB.out.cell (World.block_lt_of_cell? w _ hx190_0)).trans hx190_0
          replace hx190_1 := (HB.out.cell (World.block_lt_of_cell? w _ hx190_1)).trans hx190_1
          replace hx190_2 := (HB.out.cell (World.block_lt_of_cell? w _ hx190_2)).trans hx190_2
          replace hx190_3 := (HB.out.cell (World.block_lt_of_cell? w _ hx190_3)).trans hx190_3
          replace p190 := eq_true p190
          replace q190 := eq_true q190
          have p191 : 0 ≤ (x4_1 : Int) := of_decide_eq_true (by first | (with_reducible assumption) | assumption)
          have q191 : x4_1 < (l0.length : Int) := of_decide_eq_true (by first | (with_reducible assumption) | assumption)
          obtain ⟨ad191, e191, hx191_0, hx191_1, hx191_2, hx191_3⟩ := at_T54 HR0.out x4_1 p191 q191
          obtain rfl : ad190 = ad191 := (by injection e191)
          replace hx191_0 := (HB.out.cell (World.block_lt_of_cell? w _ hx191_0)).trans hx191_0
          replace hx191_1 := (HB.out.cell (World.block_lt_of_cell? w _ hx191_1)).trans hx191_1
          replace hx191_2 := (HB.out.cell (World.block_lt_of_cell? w _ hx191_2)).trans hx191_2
          replace hx191_3 := (HB.out.cell (World.block_lt_of_cell? w _ hx191_3)).trans hx191_3
          replace p191 := eq_true p191
          replace q191 := eq_true q191
          go_wp2
          go_roundg k1
          case measure => have := HK1.out; omega
          case rel => exact ⟨(ji9), (wrap64 (x4_1 + 1)), (by first | rfl | (simp; done) | (simp only [← hji9] <;> (first | rfl | simp)) | (simp [*]; done)), (by first | rfl | (simp; done) | (simp [*]; done)), H', ⟨by have := HK1.out; omega⟩, ⟨by repeat (first | (with_reducible first | exact HB.out | apply below_alloc | apply pw_below_drewN | apply below_drew1) | exact HB.out)⟩⟩
        · rw [if_neg c3] at H
          exact absurd H (by simp)
      · rw [if_neg c2] at H
        have c2b0 : decide (x4_1 < (l0.length : Int)) = false := decide_eq_false c2
        clear c2
        obtain rfl := Option.some.inj H
        go_wp2
        go_ret
        exact ⟨by first | rfl | (simp [errW_none, errW_some] <;> rfl) | (simp [*, errW_none, errW_some] <;> rfl), by repeat (first | (with_reducible first | exact HB.out | apply below_alloc | apply pw_below_drewN | apply below_drew1) | exact HB.out)⟩

end Go.Proofs.Ytpkhfeeelkhkaaa.X
