-- Written by this session's program wip/tools/myprint.py (the kit's printing program, with functions proved by hand taken as printed).
import Derived.Test.YtkodamaoklaibaaDoorX0
import Derived.Test.YtkodamaoklaibaaDoorX17
import Derived.Test.YtkodamaoklaibaaDoorX18
import Derived.Test.YtkodamaoklaibaaDoorX23
namespace Go.Proofs.YtkodamaoklaibaaDoor.X
open Go.RowKit Go.Proofs.YtkodamaoklaibaaDoorW.PrintWords Go.Proofs.YtkodamaoklaibaaDoorW.PrintLast Go.Proofs.YtkodamaoklaibaaDoorW.PrintMore
attribute [local go_sem] max2_int min2_int max_two min_two max_three min_three max_four min_four   -- for this text's walks alone
set_option linter.unusedVariables false
set_option linter.unusedSimpArgs false

/-! ### redlinelaw02_LinesCat: function 4 -/
def redlinelaw02_LinesCat.j0 : Nat → ByteArray → ByteArray → List ByteArray → List ByteArray → List ByteArray → Bool → Option (Bool)
  | 0, _, _, _, _, _, _ => none
  | k + 1, x0, x1, x5, x6, x7, x33 => if x33 = true then ((some (([] : List ByteArray) : List ByteArray)).bind fun y162 => (if 0 ≤ (wrap64 ((x5.length : Int) - 1)) then (if (wrap64 ((x5.length : Int) - 1)) ≤ (x5.length : Int) then ((some (x5.take ((wrap64 ((x5.length : Int) - 1)) : Int).toNat : List ByteArray)).bind fun y165 => (if y162.length + y165.length < 8796093022208 then ((some (y162 ++ y165 : List ByteArray)).bind fun y169 => (if (wrap64 ((x5.length : Int) - 1)) < (x5.length : Int) then (if 0 < (x6.length : Int) then (if (rdOf ByteArray.empty x5 (wrap64 ((x5.length : Int) - 1))).size + (rdOf ByteArray.empty x6 0).size ≤ 9223372036854775807 then ((some (([(rdOf ByteArray.empty x5 (wrap64 ((x5.length : Int) - 1))) ++ (rdOf ByteArray.empty x6 0)] : List ByteArray) : List ByteArray)).bind fun y174 => (if y169.length + y174.length < 8796093022208 then ((some (y169 ++ y174 : List ByteArray)).bind fun y177 => (if 1 ≤ (x6.length : Int) then ((some (x6.drop 1 : List ByteArray)).bind fun y180 => (if y177.length + y180.length < 8796093022208 then (if x0.size + x1.size ≤ 9223372036854775807 then ((lines_Split.f (x0 ++ x1)).bind fun t187 => ((redlineref01_SameStrings.f k t187 (y177 ++ y180)).bind fun t190 => (some t190))) else (none)) else (none))) else (none))) else (none))) else (none)) else (none)) else (none))) else (none))) else (none)) else (none))) else (if x0.size + x1.size ≤ 9223372036854775807 then ((lines_Split.f (x0 ++ x1)).bind fun t191 => ((redlineref01_SameStrings.f k t191 x7).bind fun t194 => (some t194))) else (none))
def redlinelaw02_LinesCat.f (k : Nat) (a0 : ByteArray) (a1 : ByteArray) : Option (Bool) := (redlinelaw02_works.f k).bind fun t146 => (if t146 = true then ((lines_Split.f a0).bind fun t147 => ((lines_Split.f a1).bind fun t150 => ((some (([] : List ByteArray) : List ByteArray)).bind fun y153 => (if y153.length + t147.length < 8796093022208 then ((some (y153 ++ t147 : List ByteArray)).bind fun y156 => (if y156.length + t150.length < 8796093022208 then ((some (y156 ++ t150 : List ByteArray)).bind fun y159 => (if a0.toList = ([] : List UInt8) then (redlinelaw02_LinesCat.j0 k a0 a1 t147 t150 y159 false) else (if 0 ≤ (wrap64 ((a0.size : Int) - 1)) then (if (wrap64 ((a0.size : Int) - 1)) < (a0.size : Int) then (if (bt a0 (wrap64 ((a0.size : Int) - 1))) = 10 then (redlinelaw02_LinesCat.j0 k a0 a1 t147 t150 y159 false) else (redlinelaw02_LinesCat.j0 k a0 a1 t147 t150 y159 (a1.toList != ([] : List UInt8)))) else (none)) else (none)))) else (none))) else (none))))) else (some false))
theorem redlinelaw02_LinesCat.mono_l : ∀ k, (∀ y0 y1 y2 y3 y4 y5, LeO (redlinelaw02_LinesCat.j0 k y0 y1 y2 y3 y4 y5) (redlinelaw02_LinesCat.j0 (k + 1) y0 y1 y2 y3 y4 y5))
  | 0 => fun _ _ _ _ _ _ r h => by simp [redlinelaw02_LinesCat.j0] at h
  | k + 1 => by
    have ih0 := redlinelaw02_LinesCat.mono_l k
    · intro y0 y1 y2 y3 y4 y5
      unfold redlinelaw02_LinesCat.j0
      repeat' first
      | (with_reducible exact ih0 _ _ _ _ _ _)
      | (with_reducible exact redlinelaw02_works.mono _)
      | (with_reducible exact redlineref01_SameStrings.mono _ _ _)
      | (with_reducible exact LeO.refl _)
      | (with_reducible exact LeO.none _)
      | (with_reducible refine LeO.ite ?_ ?_)
      | (with_reducible refine LeO.bind ?_ (fun _ => ?_))
      | exact ih0 _ _ _ _ _ _
      | exact redlinelaw02_works.mono _
      | exact redlineref01_SameStrings.mono _ _ _
      | exact LeO.none _
      | refine LeO.ite ?_ ?_
      | refine LeO.bind ?_ (fun _ => ?_)
theorem redlinelaw02_LinesCat.mono : ∀ a0 a1 k, LeO (redlinelaw02_LinesCat.f k a0 a1) (redlinelaw02_LinesCat.f (k + 1) a0 a1) := by
  intro a0 a1 k
  have ih0 := redlinelaw02_LinesCat.mono_l k
  unfold redlinelaw02_LinesCat.f
  repeat' first
      | (with_reducible exact ih0 _ _ _ _ _ _)
      | (with_reducible exact redlinelaw02_works.mono _)
      | (with_reducible exact redlineref01_SameStrings.mono _ _ _)
      | (with_reducible exact LeO.refl _)
      | (with_reducible exact LeO.none _)
      | (with_reducible refine LeO.ite ?_ ?_)
      | (with_reducible refine LeO.bind ?_ (fun _ => ?_))
      | exact ih0 _ _ _ _ _ _
      | exact redlinelaw02_works.mono _
      | exact redlineref01_SameStrings.mono _ _ _
      | exact LeO.none _
      | refine LeO.ite ?_ ?_
      | refine LeO.bind ?_ (fun _ => ?_)
def redlinelaw02_LinesCat.T7 : Bool × List (List Nat × List Nat) := (true, [([], []), ([], []), ([], []), ([2], [2]), ([1, 3], [1, 3]), ([0, 4], [0, 4]), ([], []), ([], []), ([7], [7]), ([6, 8], [6, 8]), ([9], [9]), ([], []), ([11], [11]), ([12], [12]), ([10, 13], [10, 13]), ([14], [14]), ([5, 15, 5], [5, 15]), ([16, 16, 0, 1, 2, 3, 4, 5, 6, 7, 8, 9, 10, 11, 12, 13, 14, 15, 16], [16])])
def redlinelaw02_LinesCat.B7 : List Nat := [0, 0, 0, 4, 14, 31, 0, 0, 128, 448, 960, 0, 2048, 6144, 16320, 32704, 65535, 131071]
theorem redlinelaw02_LinesCat.tab7 : rtab .any (opsOf Tryd.f4 7) = redlinelaw02_LinesCat.T7 := by kernel_rfl
theorem redlinelaw02_LinesCat.bits7 : waitsOk redlinelaw02_LinesCat.T7.2 redlinelaw02_LinesCat.B7 = true := by kernel_rfl
set_option maxHeartbeats 8000000 in
set_option maxRecDepth 100000 in
theorem redlinelaw02_LinesCat.calls (k : Nat) (a0 : ByteArray) (a1 : ByteArray) (r : Bool) (w : World) (h : redlinelaw02_LinesCat.f k a0 a1 = some r) :
    Calls Tryd.prog 4 #[.string a0, .string a1] w fun e w' => e = .returned (.bool r) ∧ Below w.heap.size w w' := by
  have HB := Aside0.mk (Below.refl w.heap.size w)
  have H : ((redlinelaw02_works.f k).bind fun t146 => (if t146 = true then ((lines_Split.f a0).bind fun t147 => ((lines_Split.f a1).bind fun t150 => ((some (([] : List ByteArray) : List ByteArray)).bind fun y153 => (if y153.length + t147.length < 8796093022208 then ((some (y153 ++ t147 : List ByteArray)).bind fun y156 => (if y156.length + t150.length < 8796093022208 then ((some (y156 ++ t150 : List ByteArray)).bind fun y159 => (if a0.toList = ([] : List UInt8) then (redlinelaw02_LinesCat.j0 k a0 a1 t147 t150 y159 false) else (if 0 ≤ (wrap64 ((a0.size : Int) - 1)) then (if (wrap64 ((a0.size : Int) - 1)) < (a0.size : Int) then (if (bt a0 (wrap64 ((a0.size : Int) - 1))) = 10 then (redlinelaw02_LinesCat.j0 k a0 a1 t147 t150 y159 false) else (redlinelaw02_LinesCat.j0 k a0 a1 t147 t150 y159 (a1.toList != ([] : List UInt8)))) else (none)) else (none)))) else (none))) else (none))))) else (some false))) = some r := h
  clear h
  replace H := Option.bind_eq_some_iff.mp H
  obtain ⟨t146, A30, H⟩ := H
  replace H : (if t146 = true then ((lines_Split.f a0).bind fun t147 => ((lines_Split.f a1).bind fun t150 => ((some (([] : List ByteArray) : List ByteArray)).bind fun y153 => (if y153.length + t147.length < 8796093022208 then ((some (y153 ++ t147 : List ByteArray)).bind fun y156 => (if y156.length + t150.length < 8796093022208 then ((some (y156 ++ t150 : List ByteArray)).bind fun y159 => (if a0.toList = ([] : List UInt8) then (redlinelaw02_LinesCat.j0 k a0 a1 t147 t150 y159 false) else (if 0 ≤ (wrap64 ((a0.size : Int) - 1)) then (if (wrap64 ((a0.size : Int) - 1)) < (a0.size : Int) then (if (bt a0 (wrap64 ((a0.size : Int) - 1))) = 10 then (redlinelaw02_LinesCat.j0 k a0 a1 t147 t150 y159 false) else (redlinelaw02_LinesCat.j0 k a0 a1 t147 t150 y159 (a1.toList != ([] : List UInt8)))) else (none)) else (none)))) else (none))) else (none))))) else (some false)) = some r := H
  have A3 := Aside0.mk A30
  clear A30
  by_cases c4 : t146 = true
  · subst c4
    have H1 : ((lines_Split.f a0).bind fun t147 => ((lines_Split.f a1).bind fun t150 => ((some (([] : List ByteArray) : List ByteArray)).bind fun y153 => (if y153.length + t147.length < 8796093022208 then ((some (y153 ++ t147 : List ByteArray)).bind fun y156 => (if y156.length + t150.length < 8796093022208 then ((some (y156 ++ t150 : List ByteArray)).bind fun y159 => (if a0.toList = ([] : List UInt8) then (redlinelaw02_LinesCat.j0 k a0 a1 t147 t150 y159 false) else (if 0 ≤ (wrap64 ((a0.size : Int) - 1)) then (if (wrap64 ((a0.size : Int) - 1)) < (a0.size : Int) then (if (bt a0 (wrap64 ((a0.size : Int) - 1))) = 10 then (redlinelaw02_LinesCat.j0 k a0 a1 t147 t150 y159 false) else (redlinelaw02_LinesCat.j0 k a0 a1 t147 t150 y159 (a1.toList != ([] : List UInt8)))) else (none)) else (none)))) else (none))) else (none))))) = some r := by rw [if_pos rfl] at H; exact H
    clear H
    have H := H1
    clear H1
    replace H := Option.bind_eq_some_iff.mp H
    obtain ⟨t147, A50, H⟩ := H
    replace H : ((lines_Split.f a1).bind fun t150 => ((some (([] : List ByteArray) : List ByteArray)).bind fun y153 => (if y153.length + t147.length < 8796093022208 then ((some (y153 ++ t147 : List ByteArray)).bind fun y156 => (if y156.length + t150.length < 8796093022208 then ((some (y156 ++ t150 : List ByteArray)).bind fun y159 => (if a0.toList = ([] : List UInt8) then (redlinelaw02_LinesCat.j0 k a0 a1 t147 t150 y159 false) else (if 0 ≤ (wrap64 ((a0.size : Int) - 1)) then (if (wrap64 ((a0.size : Int) - 1)) < (a0.size : Int) then (if (bt a0 (wrap64 ((a0.size : Int) - 1))) = 10 then (redlinelaw02_LinesCat.j0 k a0 a1 t147 t150 y159 false) else (redlinelaw02_LinesCat.j0 k a0 a1 t147 t150 y159 (a1.toList != ([] : List UInt8)))) else (none)) else (none)))) else (none))) else (none)))) = some r := H
    have A5 := Aside0.mk A50
    clear A50
    replace H := Option.bind_eq_some_iff.mp H
    obtain ⟨t150, A60, H⟩ := H
    replace H : ((some (([] : List ByteArray) : List ByteArray)).bind fun y153 => (if y153.length + t147.length < 8796093022208 then ((some (y153 ++ t147 : List ByteArray)).bind fun y156 => (if y156.length + t150.length < 8796093022208 then ((some (y156 ++ t150 : List ByteArray)).bind fun y159 => (if a0.toList = ([] : List UInt8) then (redlinelaw02_LinesCat.j0 k a0 a1 t147 t150 y159 false) else (if 0 ≤ (wrap64 ((a0.size : Int) - 1)) then (if (wrap64 ((a0.size : Int) - 1)) < (a0.size : Int) then (if (bt a0 (wrap64 ((a0.size : Int) - 1))) = 10 then (redlinelaw02_LinesCat.j0 k a0 a1 t147 t150 y159 false) else (redlinelaw02_LinesCat.j0 k a0 a1 t147 t150 y159 (a1.toList != ([] : List UInt8)))) else (none)) else (none)))) else (none))) else (none))) = some r := H
    have A6 := Aside0.mk A60
    clear A60
    obtain ⟨y153, hy153⟩ : ∃ y_ : List ByteArray, y_ = (([] : List ByteArray)) := ⟨_, rfl⟩
    replace H : (if y153.length + t147.length < 8796093022208 then ((some (y153 ++ t147 : List ByteArray)).bind fun y156 => (if y156.length + t150.length < 8796093022208 then ((some (y156 ++ t150 : List ByteArray)).bind fun y159 => (if a0.toList = ([] : List UInt8) then (redlinelaw02_LinesCat.j0 k a0 a1 t147 t150 y159 false) else (if 0 ≤ (wrap64 ((a0.size : Int) - 1)) then (if (wrap64 ((a0.size : Int) - 1)) < (a0.size : Int) then (if (bt a0 (wrap64 ((a0.size : Int) - 1))) = 10 then (redlinelaw02_LinesCat.j0 k a0 a1 t147 t150 y159 false) else (redlinelaw02_LinesCat.j0 k a0 a1 t147 t150 y159 (a1.toList != ([] : List UInt8)))) else (none)) else (none)))) else (none))) else (none)) = some r := by first | (rw [hy153]; with_reducible exact H) | (have H2_ := (Option.bind_some _ _).symm.trans H; rw [hy153]; with_reducible exact H2_) | (have H2_ := (Option.bind_some _ _).symm.trans H; with_reducible exact H2_) | with_reducible exact H | (rw [hy153]; exact H) | exact H
    have Ny153 := Aside0.mk hy153
    clear hy153
    by_cases c7 : y153.length + t147.length < 8796093022208
    · rw [if_pos c7] at H
      have LMc7 := Aside0.mk c7
      clear c7
      obtain ⟨y156, hy156⟩ : ∃ y_ : List ByteArray, y_ = (y153 ++ t147) := ⟨_, rfl⟩
      replace H : (if y156.length + t150.length < 8796093022208 then ((some (y156 ++ t150 : List ByteArray)).bind fun y159 => (if a0.toList = ([] : List UInt8) then (redlinelaw02_LinesCat.j0 k a0 a1 t147 t150 y159 false) else (if 0 ≤ (wrap64 ((a0.size : Int) - 1)) then (if (wrap64 ((a0.size : Int) - 1)) < (a0.size : Int) then (if (bt a0 (wrap64 ((a0.size : Int) - 1))) = 10 then (redlinelaw02_LinesCat.j0 k a0 a1 t147 t150 y159 false) else (redlinelaw02_LinesCat.j0 k a0 a1 t147 t150 y159 (a1.toList != ([] : List UInt8)))) else (none)) else (none)))) else (none)) = some r := by first | (rw [hy156]; with_reducible exact H) | (have H2_ := (Option.bind_some _ _).symm.trans H; rw [hy156]; with_reducible exact H2_) | (have H2_ := (Option.bind_some _ _).symm.trans H; with_reducible exact H2_) | with_reducible exact H | (rw [hy156]; exact H) | exact H
      have Ny156 := Aside0.mk hy156
      clear hy156
      by_cases c8 : y156.length + t150.length < 8796093022208
      · rw [if_pos c8] at H
        have LMc8 := Aside0.mk c8
        clear c8
        obtain ⟨y159, hy159⟩ : ∃ y_ : List ByteArray, y_ = (y156 ++ t150) := ⟨_, rfl⟩
        replace H : (if a0.toList = ([] : List UInt8) then (redlinelaw02_LinesCat.j0 k a0 a1 t147 t150 y159 false) else (if 0 ≤ (wrap64 ((a0.size : Int) - 1)) then (if (wrap64 ((a0.size : Int) - 1)) < (a0.size : Int) then (if (bt a0 (wrap64 ((a0.size : Int) - 1))) = 10 then (redlinelaw02_LinesCat.j0 k a0 a1 t147 t150 y159 false) else (redlinelaw02_LinesCat.j0 k a0 a1 t147 t150 y159 (a1.toList != ([] : List UInt8)))) else (none)) else (none))) = some r := by first | (rw [hy159]; with_reducible exact H) | (have H2_ := (Option.bind_some _ _).symm.trans H; rw [hy159]; with_reducible exact H2_) | (have H2_ := (Option.bind_some _ _).symm.trans H; with_reducible exact H2_) | with_reducible exact H | (rw [hy159]; exact H) | exact H
        have Ny159 := Aside0.mk hy159
        clear hy159
        have HC9 := Aside0.mk H
        clear H
        go_enter Tryd.func4, Tryd.ntmps4
        go_upto_region 5 with (first | ((with_reducible refine gate_callee (f := 10) rfl ?_); refine goesL_ (some 9) rfl rfl Tryd.func10 (by kernel_rfl) rfl #[] rfl (by (try simp only [List.map_toArray, List.map_cons, List.map_nil]); first | done | rfl | (simp only [List.length_drop, List.length_take]; rfl)) ?_; (with_reducible refine (redlinelaw02_works.calls k  true _ A3.out).mono ?_); rintro e w10 ⟨rfl, hb⟩; refine ⟨_, rfl, ?_⟩; have n0_ := Aside0.mk (below_step (by repeat (first | (with_reducible first | exact HB.out | apply below_alloc | apply pw_below_drewN | apply below_drew1) | exact HB.out)) hb); clear HB; have HB := n0_; clear n0_; (try clear hb); (try clear hb2); (try clear hk); (try clear hi)) | ((with_reducible refine gate_callee (f := 7) rfl ?_); refine goesL_ (some 12) rfl rfl Tryd.func7 (by kernel_rfl) rfl #[.string a0] rfl (by (try simp only [List.map_toArray, List.map_cons, List.map_nil]); first | done | rfl | (simp only [List.length_drop, List.length_take]; rfl)) ?_; (with_reducible refine (lines_Split.calls a0 t147 _ A5.out).mono ?_); rintro e w11 ⟨v148, rfl, ho0, hb⟩; refine ⟨_, rfl, ?_⟩; have n0_ := Aside0.mk (Kd.R_lower ho0 (below_size (by repeat (first | (with_reducible first | exact HB.out | apply below_alloc | apply pw_below_drewN | apply below_drew1) | exact HB.out)))); have n1_ := Aside0.mk (below_step (by repeat (first | (with_reducible first | exact HB.out | apply below_alloc | apply pw_below_drewN | apply below_drew1) | exact HB.out)) hb); clear HB; have HO149 := n0_; have HB := n1_; clear n0_ n1_; (try clear hb); (try clear hb2); (try clear hk); (try clear hi); (try clear ho0)) | ((with_reducible refine gate_callee (f := 7) rfl ?_); refine goesL_ (some 14) rfl rfl Tryd.func7 (by kernel_rfl) rfl #[.string a1] rfl (by (try simp only [List.map_toArray, List.map_cons, List.map_nil]); first | done | rfl | (simp only [List.length_drop, List.length_take]; rfl)) ?_; (with_reducible refine (lines_Split.calls a1 t150 _ A6.out).mono ?_); rintro e w12 ⟨v151, rfl, ho0, hb⟩; refine ⟨_, rfl, ?_⟩; have n0_ := Aside0.mk (Kd.R_elder' (by (with_reducible repeat (first | apply Kd.R_alloc | apply Kd.R_drewN | apply Kd.R_drew)); exact HO149.out) (Kd.R_base ho0) hb); have n1_ := Aside0.mk (Kd.R_lower (Kd.R_new' ho0 (Kd.R_lt (by (with_reducible repeat (first | apply Kd.R_alloc | apply Kd.R_drewN | apply Kd.R_drew)); exact HO149.out))) (below_size (by repeat (first | (with_reducible first | exact HB.out | apply below_alloc | apply pw_below_drewN | apply below_drew1) | exact HB.out)))); have n2_ := Aside0.mk (below_step (by repeat (first | (with_reducible first | exact HB.out | apply below_alloc | apply pw_below_drewN | apply below_drew1) | exact HB.out)) hb); clear HO149; clear HB; have HO149 := n0_; have HO152 := n1_; have HB := n2_; clear n0_ n1_ n2_; (try clear hb); (try clear hb2); (try clear hk); (try clear hi); (try clear ho0)) | ((with_reducible refine gate_dst (N := 15) rfl ?_); (try (refine gate_guard (by rfl) ?_; dsimp only)); refine Kd.R_lit Kd.string _ 9 ?hg (N := 15) ?hd (xs := ([] : List ByteArray)) (inner := []) (ok := fun _ => True) (okp := fun _ => True) ?hr ?hp (fun _ hk => hk) trivial (Below.refl _ _) (Nat.le_refl _) (by simp) ?_; (case hd => rfl); (case hg => rfl); (case hr => first | (go_simp; done) | (go_simp; rfl)); (case hp => exact (Reps.none _ _)); intro v154 w13 ho14 hb hg_ hnew_; clear hg_ hnew_; (first | rw [← Ny153.out] at ho14 | (simp only [Int.reduceToNat] at ho14; rw [← Ny153.out] at ho14)); have n0_ := Aside0.mk (Kd.R_elder' (by (with_reducible repeat (first | apply Kd.R_alloc | apply Kd.R_drewN | apply Kd.R_drew)); exact HO149.out) (Kd.R_base ho14) hb); have n1_ := Aside0.mk (Kd.R_elder' (by (with_reducible repeat (first | apply Kd.R_alloc | apply Kd.R_drewN | apply Kd.R_drew)); exact HO152.out) (Kd.R_base ho14) hb); have n2_ := Aside0.mk (Kd.R_lower (Kd.R_new' (Kd.R_new' ho14 (Kd.R_lt (by (with_reducible repeat (first | apply Kd.R_alloc | apply Kd.R_drewN | apply Kd.R_drew)); exact HO149.out))) (Kd.R_lt (by (with_reducible repeat (first | apply Kd.R_alloc | apply Kd.R_drewN | apply Kd.R_drew)); exact HO152.out))) (below_size (by repeat (first | (with_reducible first | exact HB.out | apply below_alloc | apply pw_below_drewN | apply below_drew1) | exact HB.out)))); have n3_ := Aside0.mk (below_step (by repeat (first | (with_reducible first | exact HB.out | apply below_alloc | apply pw_below_drewN | apply below_drew1) | exact HB.out)) hb); clear HO149; clear HO152; clear HB; have HO149 := n0_; have HO152 := n1_; have HO155 := n2_; have HB := n3_; clear n0_ n1_ n2_ n3_; clear hb ho14; obtain ⟨Ao16, co16, eo16⟩ := Kd.R_slice HO149.out; subst eo16) | ((with_reducible refine gate_builtin (b := .append) (xs := #[.tmp 15, .tmp 16]) rfl ?_); (try (refine gate_guard (by rfl) ?_; dsimp only)); at_builtin; refine Kd.R_append_rows Kd.string (w0 := w) w.heap.size rfl (.tmp 15) (.tmp 16) 22 9 (.string ⟨#[]⟩) 16 rfl Tryd.underlying22 info9 rfl (by decide) (by omega) v154 y153 t147 _ _ _ (fun k_ => some k_ ≠ (.slice Ao16 t147.length co16 : Value).ownBlock ∧ some k_ ≠ (v151 : Value).ownBlock) (fun _ => False) rfl rfl ?aO ?aR (fun _ _ h => h) (fun _ h => h.elim) ?aF ?aB ?aS ?aL ?_; (case aR => repeat (first | exact (Kd.R_reads' HO149.out).2.2 | (with_reducible refine Kd.C_alloc ?_ _) | (with_reducible refine Kd.C_drewN ?_ _) | (with_reducible refine Kd.C_drew ?_))); (case aB => exact (by repeat (first | (with_reducible first | exact HB.out | apply below_alloc | apply pw_below_drewN | apply below_drew1) | exact HB.out))); (case aF => exact (fun k_ hk => ⟨Kd.fresh' (Kd.R_lt (by (with_reducible repeat (first | apply Kd.R_alloc | apply Kd.R_drewN | apply Kd.R_drew)); exact HO149.out)) k_ hk, Kd.fresh' (Kd.R_lt (by (with_reducible repeat (first | apply Kd.R_alloc | apply Kd.R_drewN | apply Kd.R_drew)); exact HO152.out)) k_ hk⟩)); (case aO => exact (by (with_reducible repeat (first | apply Kd.R_alloc | apply Kd.R_drewN | apply Kd.R_drew)); exact Kd.R_mono HO155.out (fun _ hk => ⟨hk.1.2, hk.2⟩))); (case aS => exact (below_size (by repeat (first | (with_reducible first | exact HB.out | apply below_alloc | apply pw_below_drewN | apply below_drew1) | exact HB.out)))); (case aL => have := LMc7.out; omega); intro v157 w15 ho hb hg hat; rw [← Ny156.out] at ho; have n0_ := Aside0.mk (Kd.R_after (ok := (fun k_ => some k_ ≠ (v151 : Value).ownBlock)) (by (with_reducible repeat (first | apply Kd.R_alloc | apply Kd.R_drewN | apply Kd.R_drew)); exact Kd.R_mono HO149.out (fun _ hk => ⟨hk.1.2, hk.2⟩)) hg hat); have n1_ := Aside0.mk (Kd.R_after (ok := (fun k_ => some k_ ≠ (.slice Ao16 t147.length co16 : Value).ownBlock)) (by (with_reducible repeat (first | apply Kd.R_alloc | apply Kd.R_drewN | apply Kd.R_drew)); exact Kd.R_mono HO152.out (fun _ hk => ⟨hk.1.2, hk.2⟩)) hg hat); have n2_ := Aside0.mk (hb); have n3_ := Aside0.mk (ho); clear HO149; clear HO152; clear HB; clear HO155; have HO149 := n0_; have HO152 := n1_; have HB := n2_; have HO158 := n3_; clear n0_ n1_ n2_ n3_; clear ho hb hg hat; obtain ⟨Ao18, co18, eo18⟩ := Kd.R_slice HO152.out; subst eo18) | ((with_reducible refine gate_builtin (b := .append) (xs := #[.tmp 17, .tmp 18]) rfl ?_); (try (refine gate_guard (by rfl) ?_; dsimp only)); at_builtin; refine Kd.R_append_rows Kd.string (w0 := w) w.heap.size rfl (.tmp 17) (.tmp 18) 22 9 (.string ⟨#[]⟩) 16 rfl Tryd.underlying22 info9 rfl (by decide) (by omega) v157 y156 t150 _ _ _ (fun k_ => some k_ ≠ (.slice Ao16 t147.length co16 : Value).ownBlock ∧ some k_ ≠ (.slice Ao18 t150.length co18 : Value).ownBlock) (fun _ => False) rfl rfl ?aO ?aR (fun _ _ h => h) (fun _ h => h.elim) ?aF ?aB ?aS ?aL ?_; (case aR => repeat (first | exact (Kd.R_reads' HO152.out).2.2 | (with_reducible refine Kd.C_alloc ?_ _) | (with_reducible refine Kd.C_drewN ?_ _) | (with_reducible refine Kd.C_drew ?_))); (case aB => exact (by repeat (first | (with_reducible first | exact HB.out | apply below_alloc | apply pw_below_drewN | apply below_drew1) | exact HB.out))); (case aF => exact (fun k_ hk => ⟨Kd.fresh' (Kd.R_lt (by (with_reducible repeat (first | apply Kd.R_alloc | apply Kd.R_drewN | apply Kd.R_drew)); exact HO149.out)) k_ hk, Kd.fresh' (Kd.R_lt (by (with_reducible repeat (first | apply Kd.R_alloc | apply Kd.R_drewN | apply Kd.R_drew)); exact HO152.out)) k_ hk⟩)); (case aO => exact (by (with_reducible repeat (first | apply Kd.R_alloc | apply Kd.R_drewN | apply Kd.R_drew)); exact HO158.out)); (case aS => exact (below_size (by repeat (first | (with_reducible first | exact HB.out | apply below_alloc | apply pw_below_drewN | apply below_drew1) | exact HB.out)))); (case aL => have := LMc8.out; omega); intro v160 w17 ho hb hg hat; rw [← Ny159.out] at ho; have n0_ := Aside0.mk (Kd.R_after (ok := (fun k_ => some k_ ≠ (.slice Ao18 t150.length co18 : Value).ownBlock)) (by (with_reducible repeat (first | apply Kd.R_alloc | apply Kd.R_drewN | apply Kd.R_drew)); exact HO149.out) hg hat); have n1_ := Aside0.mk (Kd.R_after (ok := (fun k_ => some k_ ≠ (.slice Ao16 t147.length co16 : Value).ownBlock)) (by (with_reducible repeat (first | apply Kd.R_alloc | apply Kd.R_drewN | apply Kd.R_drew)); exact HO152.out) hg hat); have n2_ := Aside0.mk (hb); have n3_ := Aside0.mk (ho); clear HO149; clear HO152; clear HB; clear HO158; have HO149 := n0_; have HO152 := n1_; have HB := n2_; have HO161 := n3_; clear n0_ n1_ n2_ n3_; clear ho hb hg hat))
        (try simp only [Act.put, List.setIfInBounds_toArray, List.set_cons_zero, List.set_cons_succ])
        go_cut [33] (fun v33 wc => ∃ (kq : Nat) (x33_8 : Bool), v33 = .bool x33_8 ∧ Aside0 (redlinelaw02_LinesCat.j0 kq a0 a1 t147 t150 y159 x33_8 = some r) ∧ Aside0 (kq ≤ k) ∧ Aside0 (Kd.R Kd.string 9 wc w.heap.size (fun k_ => some k_ ≠ ((.slice Ao18 t150.length co18) : Value).ownBlock ∧ some k_ ≠ (v160 : Value).ownBlock) (.slice Ao16 t147.length co16) t147) ∧ Aside0 (Kd.R Kd.string 9 wc w.heap.size (fun k_ => some k_ ≠ ((.slice Ao16 t147.length co16) : Value).ownBlock ∧ some k_ ≠ (v160 : Value).ownBlock) (.slice Ao18 t150.length co18) t150) ∧ Aside0 (Kd.R Kd.string 9 wc w.heap.size (fun k_ => some k_ ≠ ((.slice Ao16 t147.length co16) : Value).ownBlock ∧ some k_ ≠ ((.slice Ao18 t150.length co18) : Value).ownBlock) v160 y159) ∧ Aside0 (Below w.heap.size w wc))
        case first =>
          have H := HC9.out
          clear HC9
          by_cases c19 : a0.toList = ([] : List UInt8)
          · rw [if_pos c19] at H
            have c19b0 : (a0.toList == ([] : List UInt8)) = true := beq_iff_eq.mpr c19
            have c19b1 : (a0.toList != ([] : List UInt8)) = false := bne_eq_false_iff_eq.mpr c19
            clear c19
            (first | rw [c19b0] | (simp only [i64_w, i32_w]; rw [c19b0]) | skip)
            have H' := Aside0.mk H
            clear H
            go_wp2
            go_meet
            case rel => exact ⟨_, (false), (by first | rfl | (simp; done) | (simp [*]; done)), H', ⟨by first | omega | exact Nat.le_refl _⟩, ⟨by (with_reducible repeat (first | apply Kd.R_alloc | apply Kd.R_drewN | apply Kd.R_drew)); exact HO149.out⟩, ⟨by (with_reducible repeat (first | apply Kd.R_alloc | apply Kd.R_drewN | apply Kd.R_drew)); exact HO152.out⟩, ⟨by (with_reducible repeat (first | apply Kd.R_alloc | apply Kd.R_drewN | apply Kd.R_drew)); exact HO161.out⟩, ⟨by repeat (first | (with_reducible first | exact HB.out | apply below_alloc | apply pw_below_drewN | apply below_drew1) | exact HB.out)⟩⟩
          · rw [if_neg c19] at H
            have c19b0 : (a0.toList == ([] : List UInt8)) = false := beq_eq_false_iff_ne.mpr c19
            have c19b1 : (a0.toList != ([] : List UInt8)) = true := bne_iff_ne.mpr c19
            (first | rw [c19b0] | (simp only [i64_w, i32_w]; rw [c19b0]) | skip)
            obtain ⟨ji20, hji20⟩ : ∃ j_ : Int, (wrap64 ((a0.size : Int) - 1)) = j_ := ⟨_, rfl⟩
            replace H : (if 0 ≤ (ji20) then (if (ji20) < (a0.size : Int) then (if (bt a0 (ji20)) = 10 then (redlinelaw02_LinesCat.j0 k a0 a1 t147 t150 y159 false) else (redlinelaw02_LinesCat.j0 k a0 a1 t147 t150 y159 (a1.toList != ([] : List UInt8)))) else (none)) else (none)) = some r := by first | (rw [hji20] at H; exact H) | (simp only [hji20] at H ⊢; exact H)
            have hji20w : (IntKind.i64.wrap ((a0.size : Int) - 1)) = ji20 := (i64_w _).trans hji20
            by_cases c21 : 0 ≤ (ji20)
            · rw [if_pos c21] at H
              have c21b0 : decide (0 ≤ (ji20)) = true := decide_eq_true c21
              clear c21
              by_cases c22 : (ji20) < (a0.size : Int)
              · rw [if_pos c22] at H
                have c22b0 : decide ((ji20) < (a0.size : Int)) = true := decide_eq_true c22
                clear c22
                by_cases c24 : (bt a0 (ji20)) = 10
                · rw [if_pos c24] at H
                  have c24b0 : ((bt a0 (ji20)) == 10) = true := beq_iff_eq.mpr c24
                  have c24b1 : ((bt a0 (ji20)) != 10) = false := bne_eq_false_iff_eq.mpr c24
                  clear c24
                  have H' := Aside0.mk H
                  clear H
                  have p23 : 0 ≤ ((ji20) : Int) := of_decide_eq_true (by first | (with_reducible assumption) | assumption)
                  have q23 : (ji20) < (a0.size : Int) := of_decide_eq_true (by first | (with_reducible assumption) | assumption)
                  have hx23 := bt_at a0 (ji20)
                  replace p23 := eq_true p23
                  replace q23 := eq_true q23
                  go_wp2
                  go_meet
                  case rel => exact ⟨_, (false), (by first | rfl | (simp; done) | (simp [*]; done)), H', ⟨by first | omega | exact Nat.le_refl _⟩, ⟨by (with_reducible repeat (first | apply Kd.R_alloc | apply Kd.R_drewN | apply Kd.R_drew)); exact HO149.out⟩, ⟨by (with_reducible repeat (first | apply Kd.R_alloc | apply Kd.R_drewN | apply Kd.R_drew)); exact HO152.out⟩, ⟨by (with_reducible repeat (first | apply Kd.R_alloc | apply Kd.R_drewN | apply Kd.R_drew)); exact HO161.out⟩, ⟨by repeat (first | (with_reducible first | exact HB.out | apply below_alloc | apply pw_below_drewN | apply below_drew1) | exact HB.out)⟩⟩
                · rw [if_neg c24] at H
                  have c24b0 : ((bt a0 (ji20)) == 10) = false := beq_eq_false_iff_ne.mpr c24
                  have c24b1 : ((bt a0 (ji20)) != 10) = true := bne_iff_ne.mpr c24
                  have H' := Aside0.mk H
                  clear H
                  have p23 : 0 ≤ ((ji20) : Int) := of_decide_eq_true (by first | (with_reducible assumption) | assumption)
                  have q23 : (ji20) < (a0.size : Int) := of_decide_eq_true (by first | (with_reducible assumption) | assumption)
                  have hx23 := bt_at a0 (ji20)
                  replace p23 := eq_true p23
                  replace q23 := eq_true q23
                  go_wp2
                  go_meet
                  case rel => exact ⟨_, ((a1.toList != ([] : List UInt8))), (by first | rfl | (simp; done) | (simp [*]; done) | (generalize a1.toList = l_; cases l_ <;> rfl)), H', ⟨by first | omega | exact Nat.le_refl _⟩, ⟨by (with_reducible repeat (first | apply Kd.R_alloc | apply Kd.R_drewN | apply Kd.R_drew)); exact HO149.out⟩, ⟨by (with_reducible repeat (first | apply Kd.R_alloc | apply Kd.R_drewN | apply Kd.R_drew)); exact HO152.out⟩, ⟨by (with_reducible repeat (first | apply Kd.R_alloc | apply Kd.R_drewN | apply Kd.R_drew)); exact HO161.out⟩, ⟨by repeat (first | (with_reducible first | exact HB.out | apply below_alloc | apply pw_below_drewN | apply below_drew1) | exact HB.out)⟩⟩
              · rw [if_neg c22] at H
                exact absurd H (by simp)
            · rw [if_neg c21] at H
              exact absurd H (by simp)
        case rest =>
          clear HC9
          try clear c1
          try clear c2
          try clear p2
          try clear q2
          try clear hx2
          try clear c4
          try clear p6
          try clear c7
          try clear c8
          try clear c10
          try clear c19
          try clear c19b0
          try clear c19b1
          try clear c21
          try clear c21b0
          try clear c22
          try clear c22b0
          try clear p23
          try clear q23
          try clear hx23
          try clear c24
          try clear c24b0
          try clear c24b1
          try clear p23
          try clear q23
          obtain ⟨kq, x33_8, rfl, HA, HJ8, HO_5, HO_6, HO_7, HB⟩ := hcut
          cases kq with
          | zero => exact absurd HA.out (by simp [redlinelaw02_LinesCat.j0])
          | succ kj8 =>
            have H := HA.out
            clear HA
            simp only [redlinelaw02_LinesCat.j0] at H
            by_cases c25 : x33_8 = true
            · subst c25
              have H1 : ((some (([] : List ByteArray) : List ByteArray)).bind fun y162 => (if 0 ≤ (wrap64 ((t147.length : Int) - 1)) then (if (wrap64 ((t147.length : Int) - 1)) ≤ (t147.length : Int) then ((some (t147.take ((wrap64 ((t147.length : Int) - 1)) : Int).toNat : List ByteArray)).bind fun y165 => (if y162.length + y165.length < 8796093022208 then ((some (y162 ++ y165 : List ByteArray)).bind fun y169 => (if (wrap64 ((t147.length : Int) - 1)) < (t147.length : Int) then (if 0 < (t150.length : Int) then (if (rdOf ByteArray.empty t147 (wrap64 ((t147.length : Int) - 1))).size + (rdOf ByteArray.empty t150 0).size ≤ 9223372036854775807 then ((some (([(rdOf ByteArray.empty t147 (wrap64 ((t147.length : Int) - 1))) ++ (rdOf ByteArray.empty t150 0)] : List ByteArray) : List ByteArray)).bind fun y174 => (if y169.length + y174.length < 8796093022208 then ((some (y169 ++ y174 : List ByteArray)).bind fun y177 => (if 1 ≤ (t150.length : Int) then ((some (t150.drop 1 : List ByteArray)).bind fun y180 => (if y177.length + y180.length < 8796093022208 then (if a0.size + a1.size ≤ 9223372036854775807 then ((lines_Split.f (a0 ++ a1)).bind fun t187 => ((redlineref01_SameStrings.f kj8 t187 (y177 ++ y180)).bind fun t190 => (some t190))) else (none)) else (none))) else (none))) else (none))) else (none)) else (none)) else (none))) else (none))) else (none)) else (none))) = some r := by rw [if_pos rfl] at H; exact H
              clear H
              have H := H1
              clear H1
              obtain ⟨y162, hy162⟩ : ∃ y_ : List ByteArray, y_ = (([] : List ByteArray)) := ⟨_, rfl⟩
              replace H : (if 0 ≤ (wrap64 ((t147.length : Int) - 1)) then (if (wrap64 ((t147.length : Int) - 1)) ≤ (t147.length : Int) then ((some (t147.take ((wrap64 ((t147.length : Int) - 1)) : Int).toNat : List ByteArray)).bind fun y165 => (if y162.length + y165.length < 8796093022208 then ((some (y162 ++ y165 : List ByteArray)).bind fun y169 => (if (wrap64 ((t147.length : Int) - 1)) < (t147.length : Int) then (if 0 < (t150.length : Int) then (if (rdOf ByteArray.empty t147 (wrap64 ((t147.length : Int) - 1))).size + (rdOf ByteArray.empty t150 0).size ≤ 9223372036854775807 then ((some (([(rdOf ByteArray.empty t147 (wrap64 ((t147.length : Int) - 1))) ++ (rdOf ByteArray.empty t150 0)] : List ByteArray) : List ByteArray)).bind fun y174 => (if y169.length + y174.length < 8796093022208 then ((some (y169 ++ y174 : List ByteArray)).bind fun y177 => (if 1 ≤ (t150.length : Int) then ((some (t150.drop 1 : List ByteArray)).bind fun y180 => (if y177.length + y180.length < 8796093022208 then (if a0.size + a1.size ≤ 9223372036854775807 then ((lines_Split.f (a0 ++ a1)).bind fun t187 => ((redlineref01_SameStrings.f kj8 t187 (y177 ++ y180)).bind fun t190 => (some t190))) else (none)) else (none))) else (none))) else (none))) else (none)) else (none)) else (none))) else (none))) else (none)) else (none)) = some r := by first | (rw [hy162]; with_reducible exact H) | (have H2_ := (Option.bind_some _ _).symm.trans H; rw [hy162]; with_reducible exact H2_) | (have H2_ := (Option.bind_some _ _).symm.trans H; with_reducible exact H2_) | with_reducible exact H | (rw [hy162]; exact H) | exact H
              have Ny162 := Aside0.mk hy162
              clear hy162
              obtain ⟨ji26, hji26⟩ : ∃ j_ : Int, (wrap64 ((t147.length : Int) - 1)) = j_ := ⟨_, rfl⟩
              replace H : (if 0 ≤ (ji26) then (if (ji26) ≤ (t147.length : Int) then ((some (t147.take ((ji26) : Int).toNat : List ByteArray)).bind fun y165 => (if y162.length + y165.length < 8796093022208 then ((some (y162 ++ y165 : List ByteArray)).bind fun y169 => (if (ji26) < (t147.length : Int) then (if 0 < (t150.length : Int) then (if (rdOf ByteArray.empty t147 (ji26)).size + (rdOf ByteArray.empty t150 0).size ≤ 9223372036854775807 then ((some (([(rdOf ByteArray.empty t147 (ji26)) ++ (rdOf ByteArray.empty t150 0)] : List ByteArray) : List ByteArray)).bind fun y174 => (if y169.length + y174.length < 8796093022208 then ((some (y169 ++ y174 : List ByteArray)).bind fun y177 => (if 1 ≤ (t150.length : Int) then ((some (t150.drop 1 : List ByteArray)).bind fun y180 => (if y177.length + y180.length < 8796093022208 then (if a0.size + a1.size ≤ 9223372036854775807 then ((lines_Split.f (a0 ++ a1)).bind fun t187 => ((redlineref01_SameStrings.f kj8 t187 (y177 ++ y180)).bind fun t190 => (some t190))) else (none)) else (none))) else (none))) else (none))) else (none)) else (none)) else (none))) else (none))) else (none)) else (none)) = some r := by first | (rw [hji26] at H; exact H) | (simp only [hji26] at H ⊢; exact H)
              have hji26w : (IntKind.i64.wrap ((t147.length : Int) - 1)) = ji26 := (i64_w _).trans hji26
              by_cases c27 : 0 ≤ (ji26)
              · rw [if_pos c27] at H
                have c27b0 := eq_true c27
                have c27b1 : decide (0 ≤ (ji26)) = true := decide_eq_true c27
                clear c27
                by_cases c28 : (ji26) ≤ (t147.length : Int)
                · rw [if_pos c28] at H
                  have c28b0 := eq_true c28
                  have c28b1 : decide ((ji26) ≤ (t147.length : Int)) = true := decide_eq_true c28
                  clear c28
                  obtain ⟨y165, hy165⟩ : ∃ y_ : List ByteArray, y_ = (t147.take ((ji26) : Int).toNat) := ⟨_, rfl⟩
                  replace H : (if y162.length + y165.length < 8796093022208 then ((some (y162 ++ y165 : List ByteArray)).bind fun y169 => (if (ji26) < (t147.length : Int) then (if 0 < (t150.length : Int) then (if (rdOf ByteArray.empty t147 (ji26)).size + (rdOf ByteArray.empty t150 0).size ≤ 9223372036854775807 then ((some (([(rdOf ByteArray.empty t147 (ji26)) ++ (rdOf ByteArray.empty t150 0)] : List ByteArray) : List ByteArray)).bind fun y174 => (if y169.length + y174.length < 8796093022208 then ((some (y169 ++ y174 : List ByteArray)).bind fun y177 => (if 1 ≤ (t150.length : Int) then ((some (t150.drop 1 : List ByteArray)).bind fun y180 => (if y177.length + y180.length < 8796093022208 then (if a0.size + a1.size ≤ 9223372036854775807 then ((lines_Split.f (a0 ++ a1)).bind fun t187 => ((redlineref01_SameStrings.f kj8 t187 (y177 ++ y180)).bind fun t190 => (some t190))) else (none)) else (none))) else (none))) else (none))) else (none)) else (none)) else (none))) else (none)) = some r := by first | (rw [hy165]; with_reducible exact H) | (have H2_ := (Option.bind_some _ _).symm.trans H; rw [hy165]; with_reducible exact H2_) | (have H2_ := (Option.bind_some _ _).symm.trans H; with_reducible exact H2_) | with_reducible exact H | (rw [hy165]; exact H) | exact H
                  have Ny165 := Aside0.mk hy165
                  clear hy165
                  by_cases c29 : y162.length + y165.length < 8796093022208
                  · rw [if_pos c29] at H
                    have LMc29 := Aside0.mk c29
                    clear c29
                    obtain ⟨y169, hy169⟩ : ∃ y_ : List ByteArray, y_ = (y162 ++ y165) := ⟨_, rfl⟩
                    replace H : (if (ji26) < (t147.length : Int) then (if 0 < (t150.length : Int) then (if (rdOf ByteArray.empty t147 (ji26)).size + (rdOf ByteArray.empty t150 0).size ≤ 9223372036854775807 then ((some (([(rdOf ByteArray.empty t147 (ji26)) ++ (rdOf ByteArray.empty t150 0)] : List ByteArray) : List ByteArray)).bind fun y174 => (if y169.length + y174.length < 8796093022208 then ((some (y169 ++ y174 : List ByteArray)).bind fun y177 => (if 1 ≤ (t150.length : Int) then ((some (t150.drop 1 : List ByteArray)).bind fun y180 => (if y177.length + y180.length < 8796093022208 then (if a0.size + a1.size ≤ 9223372036854775807 then ((lines_Split.f (a0 ++ a1)).bind fun t187 => ((redlineref01_SameStrings.f kj8 t187 (y177 ++ y180)).bind fun t190 => (some t190))) else (none)) else (none))) else (none))) else (none))) else (none)) else (none)) else (none)) = some r := by first | (rw [hy169]; with_reducible exact H) | (have H2_ := (Option.bind_some _ _).symm.trans H; rw [hy169]; with_reducible exact H2_) | (have H2_ := (Option.bind_some _ _).symm.trans H; with_reducible exact H2_) | with_reducible exact H | (rw [hy169]; exact H) | exact H
                    have Ny169 := Aside0.mk hy169
                    clear hy169
                    by_cases c30 : (ji26) < (t147.length : Int)
                    · rw [if_pos c30] at H
                      have c30b0 : decide ((ji26) < (t147.length : Int)) = true := decide_eq_true c30
                      clear c30
                      by_cases c31 : 0 < (t150.length : Int)
                      · rw [if_pos c31] at H
                        have c31b0 : decide (0 < (t150.length : Int)) = true := decide_eq_true c31
                        have c31b1 : decide (0 < t150.length) = true := decide_eq_true (by omega)
                        clear c31
                        by_cases c32 : (rdOf ByteArray.empty t147 (ji26)).size + (rdOf ByteArray.empty t150 0).size ≤ 9223372036854775807
                        · rw [if_pos c32] at H
                          have c32b0 := eq_true c32
                          have c32b1 : decide ((rdOf ByteArray.empty t147 (ji26)).size + (rdOf ByteArray.empty t150 0).size ≤ 9223372036854775807) = true := decide_eq_true c32
                          try have c32b2 : (9223372036854775807 < (rdOf ByteArray.empty t147 (ji26)).size + (rdOf ByteArray.empty t150 0).size) = False := eq_false (Nat.not_lt.2 c32)
                          obtain ⟨y174, hy174⟩ : ∃ y_ : List ByteArray, y_ = (([(rdOf ByteArray.empty t147 (ji26)) ++ (rdOf ByteArray.empty t150 0)] : List ByteArray)) := ⟨_, rfl⟩
                          replace H : (if y169.length + y174.length < 8796093022208 then ((some (y169 ++ y174 : List ByteArray)).bind fun y177 => (if 1 ≤ (t150.length : Int) then ((some (t150.drop 1 : List ByteArray)).bind fun y180 => (if y177.length + y180.length < 8796093022208 then (if a0.size + a1.size ≤ 9223372036854775807 then ((lines_Split.f (a0 ++ a1)).bind fun t187 => ((redlineref01_SameStrings.f kj8 t187 (y177 ++ y180)).bind fun t190 => (some t190))) else (none)) else (none))) else (none))) else (none)) = some r := by first | (rw [hy174]; with_reducible exact H) | (have H2_ := (Option.bind_some _ _).symm.trans H; rw [hy174]; with_reducible exact H2_) | (have H2_ := (Option.bind_some _ _).symm.trans H; with_reducible exact H2_) | with_reducible exact H | (rw [hy174]; exact H) | exact H
                          have Ny174 := Aside0.mk hy174
                          clear hy174
                          by_cases c33 : y169.length + y174.length < 8796093022208
                          · rw [if_pos c33] at H
                            have LMc33 := Aside0.mk c33
                            clear c33
                            obtain ⟨y177, hy177⟩ : ∃ y_ : List ByteArray, y_ = (y169 ++ y174) := ⟨_, rfl⟩
                            replace H : (if 1 ≤ (t150.length : Int) then ((some (t150.drop 1 : List ByteArray)).bind fun y180 => (if y177.length + y180.length < 8796093022208 then (if a0.size + a1.size ≤ 9223372036854775807 then ((lines_Split.f (a0 ++ a1)).bind fun t187 => ((redlineref01_SameStrings.f kj8 t187 (y177 ++ y180)).bind fun t190 => (some t190))) else (none)) else (none))) else (none)) = some r := by first | (rw [hy177]; with_reducible exact H) | (have H2_ := (Option.bind_some _ _).symm.trans H; rw [hy177]; with_reducible exact H2_) | (have H2_ := (Option.bind_some _ _).symm.trans H; with_reducible exact H2_) | with_reducible exact H | (rw [hy177]; exact H) | exact H
                            have Ny177 := Aside0.mk hy177
                            clear hy177
                            by_cases c34 : 1 ≤ (t150.length : Int)
                            · rw [if_pos c34] at H
                              have c34b0 := eq_true c34
                              have c34b1 : decide (1 ≤ (t150.length : Int)) = true := decide_eq_true c34
                              clear c34
                              obtain ⟨y180, hy180⟩ : ∃ y_ : List ByteArray, y_ = (t150.drop 1) := ⟨_, rfl⟩
                              replace H : (if y177.length + y180.length < 8796093022208 then (if a0.size + a1.size ≤ 9223372036854775807 then ((lines_Split.f (a0 ++ a1)).bind fun t187 => ((redlineref01_SameStrings.f kj8 t187 (y177 ++ y180)).bind fun t190 => (some t190))) else (none)) else (none)) = some r := by first | (rw [hy180]; with_reducible exact H) | (have H2_ := (Option.bind_some _ _).symm.trans H; rw [hy180]; with_reducible exact H2_) | (have H2_ := (Option.bind_some _ _).symm.trans H; with_reducible exact H2_) | with_reducible exact H | (rw [hy180]; exact H) | exact H
                              have Ny180 := Aside0.mk hy180
                              clear hy180
                              by_cases c35 : y177.length + y180.length < 8796093022208
                              · rw [if_pos c35] at H
                                have LMc35 := Aside0.mk c35
                                clear c35
                                obtain ⟨y184, hy184⟩ : ∃ y_ : List ByteArray, y_ = (y177 ++ y180) := ⟨_, rfl⟩
                                replace H : (if a0.size + a1.size ≤ 9223372036854775807 then ((lines_Split.f (a0 ++ a1)).bind fun t187 => ((redlineref01_SameStrings.f kj8 t187 y184).bind fun t190 => (some t190))) else (none)) = some r := by first | (rw [hy184]; with_reducible exact H) | (have H2_ := (Option.bind_some _ _).symm.trans H; rw [hy184]; with_reducible exact H2_) | (have H2_ := (Option.bind_some _ _).symm.trans H; with_reducible exact H2_) | with_reducible exact H | (rw [hy184]; exact H) | exact H
                                have Ny184 := Aside0.mk hy184
                                clear hy184
                                by_cases c36 : a0.size + a1.size ≤ 9223372036854775807
                                · rw [if_pos c36] at H
                                  have c36b0 := eq_true c36
                                  have c36b1 : decide (a0.size + a1.size ≤ 9223372036854775807) = true := decide_eq_true c36
                                  try have c36b2 : (9223372036854775807 < a0.size + a1.size) = False := eq_false (Nat.not_lt.2 c36)
                                  replace H := Option.bind_eq_some_iff.mp H
                                  obtain ⟨t187, A370, H⟩ := H
                                  replace H : ((redlineref01_SameStrings.f kj8 t187 y184).bind fun t190 => (some t190)) = some r := H
                                  have A37 := Aside0.mk A370
                                  clear A370
                                  replace H := Option.bind_eq_some_iff.mp H
                                  obtain ⟨t190, A380, H⟩ := H
                                  replace H : (some t190) = some r := H
                                  have A38 := Aside0.mk A380
                                  clear A380
                                  obtain rfl := Option.some.inj H
                                  try go_wp2
                                  have n0_ := Aside0.mk (Kd.R_drew HO_5.out)
                                  have n1_ := Aside0.mk (Kd.R_drew HO_6.out)
                                  have n2_ := Aside0.mk (Kd.R_drew HO_7.out)
                                  have n3_ := Aside0.mk (below_drew1 HB.out)
                                  clear HO_5
                                  clear HO_6
                                  clear HO_7
                                  clear HB
                                  have HO_5 := n0_
                                  have HO_6 := n1_
                                  have HO_7 := n2_
                                  have HB := n3_
                                  clear n0_ n1_ n2_ n3_
                                  have q40 : ((ji26) : Int) ≤ ((t147.length : Int) : Int) := of_decide_eq_true (by first | (with_reducible assumption) | assumption)
                                  obtain ⟨i040, hi040, _, hsz40, _⟩ := info_parts info9
                                  have hroom40 : t147.length ≤ co16 := (Kd.R_reads' HO_5.out).2.1
                                  have hC40 : Kd.C Kd.string _ Ao16 t147.length t147 := (Kd.R_reads' HO_5.out).2.2
                                  have hcut40 := cut_to (P := Tryd.prog) 22 9 .i64 Tryd.underlying22 hi040 Ao16 t147.length co16 (ji26) (of_decide_eq_true (by first | (with_reducible assumption) | assumption)) q40 hroom40
                                  have hr40 := Kd.C_take (m := ((ji26) : Int).toNat) hC40 (by omega)
                                  have hy40 : y165.length = ((ji26) : Int).toNat := (by rw [Ny165.out, List.length_take]; omega)
                                  rw [← Ny165.out] at hr40
                                  rw [← hy40] at hcut40
                                  have HR168 := Aside0.mk hr40
                                  have HC168 := Aside0.mk (show y165.length ≤ co16 from by omega)
                                  clear hr40 hC40 hroom40 hi040 hsz40
                                  have KY40 := Aside0.mk hy40
                                  clear hy40
                                  have KL40 := Aside0.mk (show ((ji26) : Int).toNat ≤ t147.length from by omega)
                                  replace q40 := eq_true q40
                                  have p172 : 0 ≤ ((ji26) : Int) := of_decide_eq_true (by first | (with_reducible assumption) | assumption)
                                  have q172 : (ji26) < (t147.length : Int) := of_decide_eq_true (by first | (with_reducible assumption) | assumption)
                                  obtain ⟨ad172, e172, hx172_0⟩ := Kd.at_string (Kd.R_reads' HO_5.out).2.2 (ji26) p172 q172
                                  cases e172
                                  replace p172 := eq_true p172
                                  replace q172 := eq_true q172
                                  have p173 : 0 ≤ (0 : Int) := (by omega)
                                  have q173 : 0 < (t150.length : Int) := of_decide_eq_true (by first | (with_reducible assumption) | assumption)
                                  obtain ⟨ad173, e173, hx173_0⟩ := Kd.at_string (Kd.R_reads' HO_6.out).2.2 0 p173 q173
                                  cases e173
                                  have qi173 : (0 < t150.length) = True := eq_true (by omega)
                                  (try rw [show ((0 : Int)).toNat = 0 from rfl] at hx173_0)
                                  (try rw [Addr.add_zero'] at hx173_0)
                                  replace p173 := eq_true p173
                                  replace q173 := eq_true q173
                                  refine start_ (n := 18) (S := fun w' => w'.cell? (ad172.add ((ji26)).toNat) = some (.string (rdOf ByteArray.empty t147 (ji26))) ∧ w'.cell? ad173 = some (.string (rdOf ByteArray.empty t150 0))) (ds := []) #[false, false, false, false, false, false, false, false, false, false, false, false, false, false, false, false, false, false] (by kernel_rfl) rfl rfl ⟨hx172_0, hx173_0⟩ (fun hHeld => ?_); refine with_tabW redlinelaw02_LinesCat.tab7 redlinelaw02_LinesCat.bits7 (fun HT_ HW_ => ?_)
                                  generalize wc.drew = w39 at HO_5 HO_6 HO_7 HB HR168 hx172_0 hx173_0 hHeld ⊢
                                  refine pure_ (i := 1) (N := some 37) (v := ?_) (a' := ?_) #[false, true, false, false, false, false, false, false, false, false, false, false, false, false, false, false, false, false] rfl rfl (any_of HT_.out (by kernel_rfl)) (fun _ _ _ h => h) (Or.inl ⟨by rfl, ?_⟩) ?_ ?_
                                  rotate_left
                                  · intro w'
                                    go_simp
                                    with_reducible rfl
                                  rotate_left
                                  · simp only [Act.put, List.setIfInBounds_toArray, List.set_cons_zero, List.set_cons_succ, i64_w, i32_w]
                                    rfl
                                  refine pure_ (i := 2) (N := some 38) (v := ?_) (a' := ?_) #[false, true, true, false, false, false, false, false, false, false, false, false, false, false, false, false, false, false] rfl rfl (any_of HT_.out (by kernel_rfl)) (fun _ _ _ h => h) (Or.inl ⟨by rfl, ?_⟩) ?_ ?_
                                  rotate_left
                                  · intro w'
                                    go_simp
                                    with_reducible rfl
                                  rotate_left
                                  · simp only [Act.put, List.setIfInBounds_toArray, List.set_cons_zero, List.set_cons_succ, i64_w, i32_w]
                                    rfl
                                  refine pure_ (i := 3) (N := some 39) (v := ?_) (a' := ?_) #[false, true, true, true, false, false, false, false, false, false, false, false, false, false, false, false, false, false] rfl rfl (any_of HT_.out (by kernel_rfl)) (fun _ _ _ h => h) (Or.inl ⟨by rfl, ?_⟩) ?_ ?_
                                  rotate_left
                                  · intro w'
                                    go_simp
                                    with_reducible rfl
                                  rotate_left
                                  · simp only [Act.put, List.setIfInBounds_toArray, List.set_cons_zero, List.set_cons_succ, i64_w, i32_w]
                                    rfl
                                  refine pure_ (i := 4) (N := some 40) (v := ?_) (a' := ?_) #[false, true, true, true, true, false, false, false, false, false, false, false, false, false, false, false, false, false] rfl rfl (any_of HT_.out (by kernel_rfl)) (fun _ _ _ h => h) (Or.inl ⟨by rfl, ?_⟩) ?_ ?_
                                  rotate_left
                                  · intro w'
                                    go_simp
                                    with_reducible rfl
                                  rotate_left
                                  · simp only [Act.put, List.setIfInBounds_toArray, List.set_cons_zero, List.set_cons_succ, i64_w, i32_w]
                                    rfl
                                  refine pure_ (i := 6) (N := some 42) (v := ?_) (a' := ?_) #[false, true, true, true, true, false, true, false, false, false, false, false, false, false, false, false, false, false] rfl rfl (any_of HT_.out (by kernel_rfl)) (fun _ _ _ h => h) (Or.inl ⟨by rfl, ?_⟩) ?_ ?_
                                  rotate_left
                                  · intro w'
                                    go_simp
                                    with_reducible rfl
                                  rotate_left
                                  · simp only [Act.put, List.setIfInBounds_toArray, List.set_cons_zero, List.set_cons_succ, i64_w, i32_w]
                                    rfl
                                  refine pure_ (i := 7) (N := some 43) (v := ?_) (a' := ?_) #[false, true, true, true, true, false, true, true, false, false, false, false, false, false, false, false, false, false] rfl rfl (any_of HT_.out (by kernel_rfl)) (fun _ _ _ h => h) (Or.inl ⟨by rfl, ?_⟩) ?_ ?_
                                  rotate_left
                                  · intro w'
                                    go_simp
                                    with_reducible rfl
                                  rotate_left
                                  · simp only [Act.put, List.setIfInBounds_toArray, List.set_cons_zero, List.set_cons_succ, i64_w, i32_w]
                                    rfl
                                  refine pure_ (i := 8) (N := some 44) (v := ?_) (a' := ?_) #[false, true, true, true, true, false, true, true, true, false, false, false, false, false, false, false, false, false] rfl rfl (any_of HT_.out (by kernel_rfl)) (fun _ _ _ h => h) (Or.inl ⟨by rfl, ?_⟩) ?_ ?_
                                  rotate_left
                                  · intro w'
                                    go_simp
                                    with_reducible rfl
                                  rotate_left
                                  · simp only [Act.put, List.setIfInBounds_toArray, List.set_cons_zero, List.set_cons_succ, i64_w, i32_w]
                                    rfl
                                  refine pure_ (i := 9) (N := some 45) (v := ?_) (a' := ?_) #[false, true, true, true, true, false, true, true, true, true, false, false, false, false, false, false, false, false] rfl rfl (any_of HT_.out (by kernel_rfl)) (fun _ _ _ h => h) (Or.inl ⟨by rfl, ?_⟩) ?_ ?_
                                  rotate_left
                                  · intro w'
                                    go_simp
                                    with_reducible rfl
                                  rotate_left
                                  · simp only [Act.put, List.setIfInBounds_toArray, List.set_cons_zero, List.set_cons_succ, i64_w, i32_w]
                                    rfl
                                  refine pure_ (i := 11) (N := some 47) (v := ?_) (a' := ?_) #[false, true, true, true, true, false, true, true, true, true, false, true, false, false, false, false, false, false] rfl rfl (any_of HT_.out (by kernel_rfl)) (fun _ _ _ h => h) (Or.inl ⟨by rfl, ?_⟩) ?_ ?_
                                  rotate_left
                                  · intro w'
                                    go_simp
                                    with_reducible rfl
                                  rotate_left
                                  · simp only [Act.put, List.setIfInBounds_toArray, List.set_cons_zero, List.set_cons_succ, i64_w, i32_w]
                                    rfl
                                  refine pure_ (i := 12) (N := some 48) (v := ?_) (a' := ?_) #[false, true, true, true, true, false, true, true, true, true, false, true, true, false, false, false, false, false] rfl rfl (any_of HT_.out (by kernel_rfl)) (fun _ _ _ h => h) (Or.inl ⟨by rfl, ?_⟩) ?_ ?_
                                  rotate_left
                                  · intro w'
                                    go_simp
                                    with_reducible rfl
                                  rotate_left
                                  · simp only [Act.put, List.setIfInBounds_toArray, List.set_cons_zero, List.set_cons_succ, i64_w, i32_w]
                                    rfl
                                  refine take_ (i := 10) (N := some 46) (v := ?_) (a' := ?_) #[false, true, true, true, true, false, true, true, true, true, true, true, true, false, false, false, false, false] rfl rfl (take_ofW HT_.out HW_.out (by kernel_rfl)) (fun _ _ _ h => h) (Or.inl ⟨by rfl, ?_⟩) hHeld ?_ ?_
                                  rotate_left
                                  · rintro w' ⟨s0, s1⟩
                                    go_simp
                                    with_reducible rfl
                                  rotate_left
                                  · simp only [Act.put, List.setIfInBounds_toArray, List.set_cons_zero, List.set_cons_succ, i64_w, i32_w]
                                    rfl
                                  refine take_ (i := 13) (N := some 49) (v := ?_) (a' := ?_) #[false, true, true, true, true, false, true, true, true, true, true, true, true, true, false, false, false, false] rfl rfl (take_ofW HT_.out HW_.out (by kernel_rfl)) (fun _ _ _ h => h) (Or.inl ⟨by rfl, ?_⟩) hHeld ?_ ?_
                                  rotate_left
                                  · rintro w' ⟨s0, s1⟩
                                    go_simp
                                    with_reducible rfl
                                  rotate_left
                                  · simp only [Act.put, List.setIfInBounds_toArray, List.set_cons_zero, List.set_cons_succ, i64_w, i32_w]
                                    rfl
                                  refine pure_ (i := 14) (N := some 50) (v := ?_) (a' := ?_) #[false, true, true, true, true, false, true, true, true, true, true, true, true, true, true, false, false, false] rfl rfl (any_of HT_.out (by kernel_rfl)) (fun _ _ _ h => h) (Or.inl ⟨by rfl, ?_⟩) ?_ ?_
                                  rotate_left
                                  · intro w'
                                    go_simp
                                    with_reducible rfl
                                  rotate_left
                                  · simp only [Act.put, List.setIfInBounds_toArray, List.set_cons_zero, List.set_cons_succ, i64_w, i32_w]
                                    rfl
                                  refine join_ (σ := Value × Value × Value) 2 #[true, true, true, true, true, true, true, true, true, true, true, true, true, true, true, true, false, false] (fun s_ => [(36, s_.1), (41, s_.2.1), (51, s_.2.2)]) (fun s_ w' => (w'.cell? (ad172.add ((ji26)).toNat) = some (.string (rdOf ByteArray.empty t147 (ji26))) ∧ w'.cell? ad173 = some (.string (rdOf ByteArray.empty t150 0))) ∧ (Kd.R Kd.string 9 w' w.heap.size (fun k_ => some k_ ≠ (s_.2.2 : Value).ownBlock ∧ some k_ ≠ (.slice (some ad172) t147.length co16 : Value).ownBlock ∧ some k_ ≠ (.slice (some ad173) t150.length co18 : Value).ownBlock ∧ some k_ ≠ (v160 : Value).ownBlock) s_.2.1 y169) ∧ (Kd.R Kd.string 9 w' w.heap.size (fun k_ => some k_ ≠ (s_.2.1 : Value).ownBlock ∧ some k_ ≠ (.slice (some ad172) t147.length co16 : Value).ownBlock ∧ some k_ ≠ (.slice (some ad173) t150.length co18 : Value).ownBlock ∧ some k_ ≠ (v160 : Value).ownBlock) s_.2.2 y174) ∧ (Kd.R Kd.string 9 w' w.heap.size (fun k_ => some k_ ≠ (s_.2.1 : Value).ownBlock ∧ some k_ ≠ (s_.2.2 : Value).ownBlock ∧ some k_ ≠ (.slice (some ad173) t150.length co18 : Value).ownBlock ∧ some k_ ≠ (v160 : Value).ownBlock) (.slice (some ad172) t147.length co16) t147) ∧ (Kd.R Kd.string 9 w' w.heap.size (fun k_ => some k_ ≠ (s_.2.1 : Value).ownBlock ∧ some k_ ≠ (s_.2.2 : Value).ownBlock ∧ some k_ ≠ (.slice (some ad172) t147.length co16 : Value).ownBlock ∧ some k_ ≠ (v160 : Value).ownBlock) (.slice (some ad173) t150.length co18) t150) ∧ (Kd.R Kd.string 9 w' w.heap.size (fun k_ => some k_ ≠ (s_.2.1 : Value).ownBlock ∧ some k_ ≠ (s_.2.2 : Value).ownBlock ∧ some k_ ≠ (.slice (some ad172) t147.length co16 : Value).ownBlock ∧ some k_ ≠ (.slice (some ad173) t150.length co18 : Value).ownBlock) v160 y159) ∧ (Below w.heap.size w w')) ?_ ?_
                                  rotate_left
                                  · intro hCont
                                    refine two_ (i := 0) (j := 15) (Ni := some 36) (Nj := some 51) #[true, true, true, true, true, false, true, true, true, true, true, true, true, true, true, false, false, false] #[false, true, true, true, true, false, true, true, true, true, true, true, true, true, true, true, false, false] rfl rfl rfl rfl (two_of HT_.out (by kernel_rfl)) (by decide) (by decide) (fun K hK => ?_) (fun K hK => ?_)
                                    · skip
                                      refine Kd.R_lit_step Kd.string _ 9 ?hg (N := 36) ?hd (xs := ([] : List ByteArray)) (inner := []) (ok := fun _ => True) (okp := fun _ => True) ?hr ?hp (fun _ hk => hk) trivial (Below.refl _ _) (Nat.le_refl _) (by simp) ?_; (case hd => rfl); (case hg => rfl); (case hr => first | (go_simp; done) | (go_simp; rfl)); (case hp => exact (Reps.none _ _))
                                      intro v163 w41 ho42 hb hg_ hnew_
                                      have HS0_ := (hb.cell (World.block_lt_of_cell? _ _ (hHeld.1))).trans (hHeld.1)
                                      have HS1_ := (hb.cell (World.block_lt_of_cell? _ _ (hHeld.2))).trans (hHeld.2)
                                      clear hg_ hnew_
                                      (first | rw [← Ny162.out] at ho42 | (simp only [Int.reduceToNat] at ho42; rw [← Ny162.out] at ho42))
                                      have n0_ := Aside0.mk (Kd.R_elder' (by (with_reducible repeat (first | apply Kd.R_alloc | apply Kd.R_drewN | apply Kd.R_drew)); exact HO_5.out) (Kd.R_base ho42) hb)
                                      have n1_ := Aside0.mk (Kd.R_elder' (by (with_reducible repeat (first | apply Kd.R_alloc | apply Kd.R_drewN | apply Kd.R_drew)); exact HO_6.out) (Kd.R_base ho42) hb)
                                      have n2_ := Aside0.mk (Kd.R_elder' (by (with_reducible repeat (first | apply Kd.R_alloc | apply Kd.R_drewN | apply Kd.R_drew)); exact HO_7.out) (Kd.R_base ho42) hb)
                                      have n3_ := Aside0.mk (Kd.R_lower (Kd.R_new' (Kd.R_new' (Kd.R_new' ho42 (Kd.R_lt (by (with_reducible repeat (first | apply Kd.R_alloc | apply Kd.R_drewN | apply Kd.R_drew)); exact HO_5.out))) (Kd.R_lt (by (with_reducible repeat (first | apply Kd.R_alloc | apply Kd.R_drewN | apply Kd.R_drew)); exact HO_6.out))) (Kd.R_lt (by (with_reducible repeat (first | apply Kd.R_alloc | apply Kd.R_drewN | apply Kd.R_drew)); exact HO_7.out))) (below_size (by repeat (first | (with_reducible first | exact HB.out | apply below_alloc | apply pw_below_drewN | apply below_drew1) | exact HB.out))))
                                      have n4_ := Aside0.mk (Kd.C_below (by repeat (first | (with_reducible exact HR168.out) | (with_reducible refine Kd.C_alloc ?_ _) | (with_reducible refine Kd.C_drewN ?_ _) | (with_reducible refine Kd.C_drew ?_) | exact HR168.out)) hb)
                                      have n5_ := Aside0.mk (below_step (by repeat (first | (with_reducible first | exact HB.out | apply below_alloc | apply pw_below_drewN | apply below_drew1) | exact HB.out)) hb)
                                      clear HO_5
                                      clear HO_6
                                      clear HO_7
                                      clear HR168
                                      clear HB
                                      have HO_5 := n0_
                                      have HO_6 := n1_
                                      have HO_7 := n2_
                                      have HO164 := n3_
                                      have HR168 := n4_
                                      have HB := n5_
                                      clear n0_ n1_ n2_ n3_ n4_ n5_
                                      clear hb ho42
                                      refine hK.out _ _ ⟨HS0_, HS1_⟩ (fun hHeld => ?_)
                                      clear hK K
                                      refine norm_ (a' := ?_) ?_ ?_
                                      rotate_left
                                      · show Act.put _ (some 36) _ = _
                                        simp only [Act.put, List.setIfInBounds_toArray, List.set_cons_zero, List.set_cons_succ, i64_w, i32_w]
                                        rfl
                                      refine two_ (i := 5) (j := 15) (Ni := some 41) (Nj := some 51) #[true, true, true, true, true, true, true, true, true, true, true, true, true, true, true, false, false, false] #[true, true, true, true, true, false, true, true, true, true, true, true, true, true, true, true, false, false] rfl rfl rfl rfl (two_of HT_.out (by kernel_rfl)) (by decide) (by decide) (fun K hK => ?_) (fun K hK => ?_)
                                      · skip
                                        refine Kd.R_append_rows_step Kd.string (w0 := w) w.heap.size (by rfl) (.tmp 36) (.tmp 40) 22 9 (.string ⟨#[]⟩) 16 rfl Tryd.underlying22 info9 rfl (by decide) (by omega) v163 y162 y165 _ _ _ (fun k_ => some k_ ≠ (.slice (some ad172) t147.length co16 : Value).ownBlock ∧ some k_ ≠ (.slice (some ad173) t150.length co18 : Value).ownBlock ∧ some k_ ≠ (v160 : Value).ownBlock) (fun _ => False) rfl rfl ?aO ?aR (fun _ _ h => h) (fun _ h => h.elim) ?aF ?aB ?aS ?aL ?_
                                        (case aR => repeat (first | exact (by repeat (first | (with_reducible exact HR168.out) | (with_reducible refine Kd.C_alloc ?_ _) | (with_reducible refine Kd.C_drewN ?_ _) | (with_reducible refine Kd.C_drew ?_) | exact HR168.out)) | (with_reducible refine Kd.C_alloc ?_ _) | (with_reducible refine Kd.C_drewN ?_ _) | (with_reducible refine Kd.C_drew ?_)))
                                        (case aB => exact (by repeat (first | (with_reducible first | exact HB.out | apply below_alloc | apply pw_below_drewN | apply below_drew1) | exact HB.out)))
                                        (case aF => exact (fun k_ hk => ⟨Kd.fresh' (Kd.R_lt (by (with_reducible repeat (first | apply Kd.R_alloc | apply Kd.R_drewN | apply Kd.R_drew)); exact HO_5.out)) k_ hk, Kd.fresh' (Kd.R_lt (by (with_reducible repeat (first | apply Kd.R_alloc | apply Kd.R_drewN | apply Kd.R_drew)); exact HO_6.out)) k_ hk, Kd.fresh' (Kd.R_lt (by (with_reducible repeat (first | apply Kd.R_alloc | apply Kd.R_drewN | apply Kd.R_drew)); exact HO_7.out)) k_ hk⟩))
                                        (case aO => exact (by (with_reducible repeat (first | apply Kd.R_alloc | apply Kd.R_drewN | apply Kd.R_drew)); exact Kd.R_mono HO164.out (fun _ hk => ⟨hk.1.1.2, ⟨hk.1.2, hk.2⟩⟩)))
                                        (case aS => exact (below_size (by repeat (first | (with_reducible first | exact HB.out | apply below_alloc | apply pw_below_drewN | apply below_drew1) | exact HB.out))))
                                        (case aL => have := LMc29.out; omega)
                                        intro v170 w43 ho hb hg hat
                                        (have HS0_ := cell_grown hg (hHeld.1) (by first | (rw [add_block]; exact (fun e_ => by have h_ := HO164.out.1 _ e_.symm; first | exact h_ rfl | exact h_.1 rfl | exact h_.2 rfl | exact h_.1.1 rfl | exact h_.1.2 rfl | exact h_.2.1 rfl | exact h_.2.2 rfl | exact h_.1.1.1 rfl | exact h_.1.1.2 rfl | exact h_.1.2.1 rfl | exact h_.1.2.2 rfl | exact h_.2.1.1 rfl | exact h_.2.1.2 rfl | exact h_.2.2.1 rfl | exact h_.2.2.2 rfl | exact h_.1.1.1.1 rfl | exact h_.1.1.1.2 rfl | exact h_.1.1.2.1 rfl | exact h_.1.1.2.2 rfl | exact h_.1.2.1.1 rfl | exact h_.1.2.1.2 rfl | exact h_.1.2.2.1 rfl | exact h_.1.2.2.2 rfl | exact h_.2.1.1.1 rfl | exact h_.2.1.1.2 rfl | exact h_.2.1.2.1 rfl | exact h_.2.1.2.2 rfl | exact h_.2.2.1.1 rfl | exact h_.2.2.1.2 rfl | exact h_.2.2.2.1 rfl | exact h_.2.2.2.2 rfl | exact h_.1.1.1.1.1 rfl | exact h_.1.1.1.1.2 rfl | exact h_.1.1.1.2.1 rfl | exact h_.1.1.1.2.2 rfl | exact h_.1.1.2.1.1 rfl | exact h_.1.1.2.1.2 rfl | exact h_.1.1.2.2.1 rfl | exact h_.1.1.2.2.2 rfl | exact h_.1.2.1.1.1 rfl | exact h_.1.2.1.1.2 rfl | exact h_.1.2.1.2.1 rfl | exact h_.1.2.1.2.2 rfl | exact h_.1.2.2.1.1 rfl | exact h_.1.2.2.1.2 rfl | exact h_.1.2.2.2.1 rfl | exact h_.1.2.2.2.2 rfl | exact h_.2.1.1.1.1 rfl | exact h_.2.1.1.1.2 rfl | exact h_.2.1.1.2.1 rfl | exact h_.2.1.1.2.2 rfl | exact h_.2.1.2.1.1 rfl | exact h_.2.1.2.1.2 rfl | exact h_.2.1.2.2.1 rfl | exact h_.2.1.2.2.2 rfl | exact h_.2.2.1.1.1 rfl | exact h_.2.2.1.1.2 rfl | exact h_.2.2.1.2.1 rfl | exact h_.2.2.1.2.2 rfl | exact h_.2.2.2.1.1 rfl | exact h_.2.2.2.1.2 rfl | exact h_.2.2.2.2.1 rfl | exact h_.2.2.2.2.2 rfl)) | (show some (Addr.add _ _).block ≠ _; rw [add_block]; exact (fun e_ => by have h_ := HO164.out.1 _ e_.symm; first | exact h_ rfl | exact h_.1 rfl | exact h_.2 rfl | exact h_.1.1 rfl | exact h_.1.2 rfl | exact h_.2.1 rfl | exact h_.2.2 rfl | exact h_.1.1.1 rfl | exact h_.1.1.2 rfl | exact h_.1.2.1 rfl | exact h_.1.2.2 rfl | exact h_.2.1.1 rfl | exact h_.2.1.2 rfl | exact h_.2.2.1 rfl | exact h_.2.2.2 rfl | exact h_.1.1.1.1 rfl | exact h_.1.1.1.2 rfl | exact h_.1.1.2.1 rfl | exact h_.1.1.2.2 rfl | exact h_.1.2.1.1 rfl | exact h_.1.2.1.2 rfl | exact h_.1.2.2.1 rfl | exact h_.1.2.2.2 rfl | exact h_.2.1.1.1 rfl | exact h_.2.1.1.2 rfl | exact h_.2.1.2.1 rfl | exact h_.2.1.2.2 rfl | exact h_.2.2.1.1 rfl | exact h_.2.2.1.2 rfl | exact h_.2.2.2.1 rfl | exact h_.2.2.2.2 rfl | exact h_.1.1.1.1.1 rfl | exact h_.1.1.1.1.2 rfl | exact h_.1.1.1.2.1 rfl | exact h_.1.1.1.2.2 rfl | exact h_.1.1.2.1.1 rfl | exact h_.1.1.2.1.2 rfl | exact h_.1.1.2.2.1 rfl | exact h_.1.1.2.2.2 rfl | exact h_.1.2.1.1.1 rfl | exact h_.1.2.1.1.2 rfl | exact h_.1.2.1.2.1 rfl | exact h_.1.2.1.2.2 rfl | exact h_.1.2.2.1.1 rfl | exact h_.1.2.2.1.2 rfl | exact h_.1.2.2.2.1 rfl | exact h_.1.2.2.2.2 rfl | exact h_.2.1.1.1.1 rfl | exact h_.2.1.1.1.2 rfl | exact h_.2.1.1.2.1 rfl | exact h_.2.1.1.2.2 rfl | exact h_.2.1.2.1.1 rfl | exact h_.2.1.2.1.2 rfl | exact h_.2.1.2.2.1 rfl | exact h_.2.1.2.2.2 rfl | exact h_.2.2.1.1.1 rfl | exact h_.2.2.1.1.2 rfl | exact h_.2.2.1.2.1 rfl | exact h_.2.2.1.2.2 rfl | exact h_.2.2.2.1.1 rfl | exact h_.2.2.2.1.2 rfl | exact h_.2.2.2.2.1 rfl | exact h_.2.2.2.2.2 rfl)) | exact (fun e_ => by have h_ := HO164.out.1 _ e_.symm; first | exact h_ rfl | exact h_.1 rfl | exact h_.2 rfl | exact h_.1.1 rfl | exact h_.1.2 rfl | exact h_.2.1 rfl | exact h_.2.2 rfl | exact h_.1.1.1 rfl | exact h_.1.1.2 rfl | exact h_.1.2.1 rfl | exact h_.1.2.2 rfl | exact h_.2.1.1 rfl | exact h_.2.1.2 rfl | exact h_.2.2.1 rfl | exact h_.2.2.2 rfl | exact h_.1.1.1.1 rfl | exact h_.1.1.1.2 rfl | exact h_.1.1.2.1 rfl | exact h_.1.1.2.2 rfl | exact h_.1.2.1.1 rfl | exact h_.1.2.1.2 rfl | exact h_.1.2.2.1 rfl | exact h_.1.2.2.2 rfl | exact h_.2.1.1.1 rfl | exact h_.2.1.1.2 rfl | exact h_.2.1.2.1 rfl | exact h_.2.1.2.2 rfl | exact h_.2.2.1.1 rfl | exact h_.2.2.1.2 rfl | exact h_.2.2.2.1 rfl | exact h_.2.2.2.2 rfl | exact h_.1.1.1.1.1 rfl | exact h_.1.1.1.1.2 rfl | exact h_.1.1.1.2.1 rfl | exact h_.1.1.1.2.2 rfl | exact h_.1.1.2.1.1 rfl | exact h_.1.1.2.1.2 rfl | exact h_.1.1.2.2.1 rfl | exact h_.1.1.2.2.2 rfl | exact h_.1.2.1.1.1 rfl | exact h_.1.2.1.1.2 rfl | exact h_.1.2.1.2.1 rfl | exact h_.1.2.1.2.2 rfl | exact h_.1.2.2.1.1 rfl | exact h_.1.2.2.1.2 rfl | exact h_.1.2.2.2.1 rfl | exact h_.1.2.2.2.2 rfl | exact h_.2.1.1.1.1 rfl | exact h_.2.1.1.1.2 rfl | exact h_.2.1.1.2.1 rfl | exact h_.2.1.1.2.2 rfl | exact h_.2.1.2.1.1 rfl | exact h_.2.1.2.1.2 rfl | exact h_.2.1.2.2.1 rfl | exact h_.2.1.2.2.2 rfl | exact h_.2.2.1.1.1 rfl | exact h_.2.2.1.1.2 rfl | exact h_.2.2.1.2.1 rfl | exact h_.2.2.1.2.2 rfl | exact h_.2.2.2.1.1 rfl | exact h_.2.2.2.1.2 rfl | exact h_.2.2.2.2.1 rfl | exact h_.2.2.2.2.2 rfl)))
                                        (have HS1_ := cell_grown hg (hHeld.2) (by first | (rw [add_block]; exact (fun e_ => by have h_ := HO164.out.1 _ e_.symm; first | exact h_ rfl | exact h_.1 rfl | exact h_.2 rfl | exact h_.1.1 rfl | exact h_.1.2 rfl | exact h_.2.1 rfl | exact h_.2.2 rfl | exact h_.1.1.1 rfl | exact h_.1.1.2 rfl | exact h_.1.2.1 rfl | exact h_.1.2.2 rfl | exact h_.2.1.1 rfl | exact h_.2.1.2 rfl | exact h_.2.2.1 rfl | exact h_.2.2.2 rfl | exact h_.1.1.1.1 rfl | exact h_.1.1.1.2 rfl | exact h_.1.1.2.1 rfl | exact h_.1.1.2.2 rfl | exact h_.1.2.1.1 rfl | exact h_.1.2.1.2 rfl | exact h_.1.2.2.1 rfl | exact h_.1.2.2.2 rfl | exact h_.2.1.1.1 rfl | exact h_.2.1.1.2 rfl | exact h_.2.1.2.1 rfl | exact h_.2.1.2.2 rfl | exact h_.2.2.1.1 rfl | exact h_.2.2.1.2 rfl | exact h_.2.2.2.1 rfl | exact h_.2.2.2.2 rfl | exact h_.1.1.1.1.1 rfl | exact h_.1.1.1.1.2 rfl | exact h_.1.1.1.2.1 rfl | exact h_.1.1.1.2.2 rfl | exact h_.1.1.2.1.1 rfl | exact h_.1.1.2.1.2 rfl | exact h_.1.1.2.2.1 rfl | exact h_.1.1.2.2.2 rfl | exact h_.1.2.1.1.1 rfl | exact h_.1.2.1.1.2 rfl | exact h_.1.2.1.2.1 rfl | exact h_.1.2.1.2.2 rfl | exact h_.1.2.2.1.1 rfl | exact h_.1.2.2.1.2 rfl | exact h_.1.2.2.2.1 rfl | exact h_.1.2.2.2.2 rfl | exact h_.2.1.1.1.1 rfl | exact h_.2.1.1.1.2 rfl | exact h_.2.1.1.2.1 rfl | exact h_.2.1.1.2.2 rfl | exact h_.2.1.2.1.1 rfl | exact h_.2.1.2.1.2 rfl | exact h_.2.1.2.2.1 rfl | exact h_.2.1.2.2.2 rfl | exact h_.2.2.1.1.1 rfl | exact h_.2.2.1.1.2 rfl | exact h_.2.2.1.2.1 rfl | exact h_.2.2.1.2.2 rfl | exact h_.2.2.2.1.1 rfl | exact h_.2.2.2.1.2 rfl | exact h_.2.2.2.2.1 rfl | exact h_.2.2.2.2.2 rfl)) | (show some (Addr.add _ _).block ≠ _; rw [add_block]; exact (fun e_ => by have h_ := HO164.out.1 _ e_.symm; first | exact h_ rfl | exact h_.1 rfl | exact h_.2 rfl | exact h_.1.1 rfl | exact h_.1.2 rfl | exact h_.2.1 rfl | exact h_.2.2 rfl | exact h_.1.1.1 rfl | exact h_.1.1.2 rfl | exact h_.1.2.1 rfl | exact h_.1.2.2 rfl | exact h_.2.1.1 rfl | exact h_.2.1.2 rfl | exact h_.2.2.1 rfl | exact h_.2.2.2 rfl | exact h_.1.1.1.1 rfl | exact h_.1.1.1.2 rfl | exact h_.1.1.2.1 rfl | exact h_.1.1.2.2 rfl | exact h_.1.2.1.1 rfl | exact h_.1.2.1.2 rfl | exact h_.1.2.2.1 rfl | exact h_.1.2.2.2 rfl | exact h_.2.1.1.1 rfl | exact h_.2.1.1.2 rfl | exact h_.2.1.2.1 rfl | exact h_.2.1.2.2 rfl | exact h_.2.2.1.1 rfl | exact h_.2.2.1.2 rfl | exact h_.2.2.2.1 rfl | exact h_.2.2.2.2 rfl | exact h_.1.1.1.1.1 rfl | exact h_.1.1.1.1.2 rfl | exact h_.1.1.1.2.1 rfl | exact h_.1.1.1.2.2 rfl | exact h_.1.1.2.1.1 rfl | exact h_.1.1.2.1.2 rfl | exact h_.1.1.2.2.1 rfl | exact h_.1.1.2.2.2 rfl | exact h_.1.2.1.1.1 rfl | exact h_.1.2.1.1.2 rfl | exact h_.1.2.1.2.1 rfl | exact h_.1.2.1.2.2 rfl | exact h_.1.2.2.1.1 rfl | exact h_.1.2.2.1.2 rfl | exact h_.1.2.2.2.1 rfl | exact h_.1.2.2.2.2 rfl | exact h_.2.1.1.1.1 rfl | exact h_.2.1.1.1.2 rfl | exact h_.2.1.1.2.1 rfl | exact h_.2.1.1.2.2 rfl | exact h_.2.1.2.1.1 rfl | exact h_.2.1.2.1.2 rfl | exact h_.2.1.2.2.1 rfl | exact h_.2.1.2.2.2 rfl | exact h_.2.2.1.1.1 rfl | exact h_.2.2.1.1.2 rfl | exact h_.2.2.1.2.1 rfl | exact h_.2.2.1.2.2 rfl | exact h_.2.2.2.1.1 rfl | exact h_.2.2.2.1.2 rfl | exact h_.2.2.2.2.1 rfl | exact h_.2.2.2.2.2 rfl)) | exact (fun e_ => by have h_ := HO164.out.1 _ e_.symm; first | exact h_ rfl | exact h_.1 rfl | exact h_.2 rfl | exact h_.1.1 rfl | exact h_.1.2 rfl | exact h_.2.1 rfl | exact h_.2.2 rfl | exact h_.1.1.1 rfl | exact h_.1.1.2 rfl | exact h_.1.2.1 rfl | exact h_.1.2.2 rfl | exact h_.2.1.1 rfl | exact h_.2.1.2 rfl | exact h_.2.2.1 rfl | exact h_.2.2.2 rfl | exact h_.1.1.1.1 rfl | exact h_.1.1.1.2 rfl | exact h_.1.1.2.1 rfl | exact h_.1.1.2.2 rfl | exact h_.1.2.1.1 rfl | exact h_.1.2.1.2 rfl | exact h_.1.2.2.1 rfl | exact h_.1.2.2.2 rfl | exact h_.2.1.1.1 rfl | exact h_.2.1.1.2 rfl | exact h_.2.1.2.1 rfl | exact h_.2.1.2.2 rfl | exact h_.2.2.1.1 rfl | exact h_.2.2.1.2 rfl | exact h_.2.2.2.1 rfl | exact h_.2.2.2.2 rfl | exact h_.1.1.1.1.1 rfl | exact h_.1.1.1.1.2 rfl | exact h_.1.1.1.2.1 rfl | exact h_.1.1.1.2.2 rfl | exact h_.1.1.2.1.1 rfl | exact h_.1.1.2.1.2 rfl | exact h_.1.1.2.2.1 rfl | exact h_.1.1.2.2.2 rfl | exact h_.1.2.1.1.1 rfl | exact h_.1.2.1.1.2 rfl | exact h_.1.2.1.2.1 rfl | exact h_.1.2.1.2.2 rfl | exact h_.1.2.2.1.1 rfl | exact h_.1.2.2.1.2 rfl | exact h_.1.2.2.2.1 rfl | exact h_.1.2.2.2.2 rfl | exact h_.2.1.1.1.1 rfl | exact h_.2.1.1.1.2 rfl | exact h_.2.1.1.2.1 rfl | exact h_.2.1.1.2.2 rfl | exact h_.2.1.2.1.1 rfl | exact h_.2.1.2.1.2 rfl | exact h_.2.1.2.2.1 rfl | exact h_.2.1.2.2.2 rfl | exact h_.2.2.1.1.1 rfl | exact h_.2.2.1.1.2 rfl | exact h_.2.2.1.2.1 rfl | exact h_.2.2.1.2.2 rfl | exact h_.2.2.2.1.1 rfl | exact h_.2.2.2.1.2 rfl | exact h_.2.2.2.2.1 rfl | exact h_.2.2.2.2.2 rfl)))
                                        rw [← Ny169.out] at ho
                                        have n0_ := Aside0.mk (Kd.R_after (ok := (fun k_ => some k_ ≠ (.slice (some ad173) t150.length co18 : Value).ownBlock ∧ some k_ ≠ (v160 : Value).ownBlock)) (by (with_reducible repeat (first | apply Kd.R_alloc | apply Kd.R_drewN | apply Kd.R_drew)); exact HO_5.out) hg hat)
                                        have n1_ := Aside0.mk (Kd.R_after (ok := (fun k_ => some k_ ≠ (.slice (some ad172) t147.length co16 : Value).ownBlock ∧ some k_ ≠ (v160 : Value).ownBlock)) (by (with_reducible repeat (first | apply Kd.R_alloc | apply Kd.R_drewN | apply Kd.R_drew)); exact HO_6.out) hg hat)
                                        have n2_ := Aside0.mk (Kd.R_after (ok := (fun k_ => some k_ ≠ (.slice (some ad172) t147.length co16 : Value).ownBlock ∧ some k_ ≠ (.slice (some ad173) t150.length co18 : Value).ownBlock)) (by (with_reducible repeat (first | apply Kd.R_alloc | apply Kd.R_drewN | apply Kd.R_drew)); exact HO_7.out) hg hat)
                                        have n3_ := Aside0.mk (hb)
                                        have n4_ := Aside0.mk ((show Kd.C Kd.string w43 (some ad172) y165.length y165 from by rw [Ny165.out]; exact Kd.C_take (m := ((ji26) : Int).toNat) ((Kd.R_reads' (Kd.R_after (ok := (fun k_ => some k_ ≠ (.slice (some ad173) t150.length co18 : Value).ownBlock ∧ some k_ ≠ (v160 : Value).ownBlock)) (by (with_reducible repeat (first | apply Kd.R_alloc | apply Kd.R_drewN | apply Kd.R_drew)); exact HO_5.out) hg hat)).2.2) KL40.out))
                                        have n5_ := Aside0.mk (ho)
                                        clear HO_5
                                        clear HO_6
                                        clear HO_7
                                        clear HB
                                        clear HR168
                                        clear HO164
                                        have HO_5 := n0_
                                        have HO_6 := n1_
                                        have HO_7 := n2_
                                        have HB := n3_
                                        have HR168 := n4_
                                        have HO171 := n5_
                                        clear n0_ n1_ n2_ n3_ n4_ n5_
                                        clear ho hb hg hat
                                        refine hK.out _ _ ⟨HS0_, HS1_⟩ (fun hHeld => ?_)
                                        clear hK K
                                        refine norm_ (a' := ?_) ?_ ?_
                                        rotate_left
                                        · show Act.put _ (some 41) _ = _
                                          simp only [Act.put, List.setIfInBounds_toArray, List.set_cons_zero, List.set_cons_succ, i64_w, i32_w]
                                          rfl
                                        refine one_ (i := 15) (N := some 51) #[true, true, true, true, true, true, true, true, true, true, true, true, true, true, true, true, false, false] rfl rfl (one_of HT_.out (by kernel_rfl)) (by decide) (fun K hK => ?_)
                                        refine Kd.R_lit_step Kd.string _ 9 ?hg (N := 51) ?hd (xs := ([(rdOf ByteArray.empty t147 (ji26)) ++ (rdOf ByteArray.empty t150 0)] : List ByteArray)) (inner := [.string ((rdOf ByteArray.empty t147 (ji26)) ++ (rdOf ByteArray.empty t150 0))]) (ok := fun _ => True) (okp := fun _ => True) ?hr ?hp (fun _ hk => hk) trivial (Below.refl _ _) (Nat.le_refl _) (by simp) ?_; (case hd => rfl); (case hg => rfl); (case hr => first | (go_simp; done) | (go_simp; rfl)); (case hp => exact (Reps.one (show Kd.M Kd.string _ _ _ ((rdOf ByteArray.empty t147 (ji26)) ++ (rdOf ByteArray.empty t150 0)) [.string ((rdOf ByteArray.empty t147 (ji26)) ++ (rdOf ByteArray.empty t150 0))] from rfl) (Reps.none _ _)))
                                        intro v175 w44 ho45 hb hg_ hnew_
                                        have HS0_ := (hb.cell (World.block_lt_of_cell? _ _ (hHeld.1))).trans (hHeld.1)
                                        have HS1_ := (hb.cell (World.block_lt_of_cell? _ _ (hHeld.2))).trans (hHeld.2)
                                        clear hg_ hnew_
                                        (first | rw [← Ny174.out] at ho45 | (simp only [Int.reduceToNat] at ho45; rw [← Ny174.out] at ho45))
                                        have n0_ := Aside0.mk (Kd.R_elder' (by (with_reducible repeat (first | apply Kd.R_alloc | apply Kd.R_drewN | apply Kd.R_drew)); exact HO_5.out) (Kd.R_base ho45) hb)
                                        have n1_ := Aside0.mk (Kd.R_elder' (by (with_reducible repeat (first | apply Kd.R_alloc | apply Kd.R_drewN | apply Kd.R_drew)); exact HO_6.out) (Kd.R_base ho45) hb)
                                        have n2_ := Aside0.mk (Kd.R_elder' (by (with_reducible repeat (first | apply Kd.R_alloc | apply Kd.R_drewN | apply Kd.R_drew)); exact HO_7.out) (Kd.R_base ho45) hb)
                                        have n3_ := Aside0.mk (Kd.R_elder' (by (with_reducible repeat (first | apply Kd.R_alloc | apply Kd.R_drewN | apply Kd.R_drew)); exact HO171.out) (Kd.R_base ho45) hb)
                                        have n4_ := Aside0.mk (Kd.R_lower (Kd.R_new' (Kd.R_new' (Kd.R_new' (Kd.R_new' ho45 (Kd.R_lt (by (with_reducible repeat (first | apply Kd.R_alloc | apply Kd.R_drewN | apply Kd.R_drew)); exact HO_5.out))) (Kd.R_lt (by (with_reducible repeat (first | apply Kd.R_alloc | apply Kd.R_drewN | apply Kd.R_drew)); exact HO_6.out))) (Kd.R_lt (by (with_reducible repeat (first | apply Kd.R_alloc | apply Kd.R_drewN | apply Kd.R_drew)); exact HO_7.out))) (Kd.R_lt (by (with_reducible repeat (first | apply Kd.R_alloc | apply Kd.R_drewN | apply Kd.R_drew)); exact HO171.out))) (below_size (by repeat (first | (with_reducible first | exact HB.out | apply below_alloc | apply pw_below_drewN | apply below_drew1) | exact HB.out))))
                                        have n5_ := Aside0.mk (Kd.C_below (by repeat (first | (with_reducible exact HR168.out) | (with_reducible refine Kd.C_alloc ?_ _) | (with_reducible refine Kd.C_drewN ?_ _) | (with_reducible refine Kd.C_drew ?_) | exact HR168.out)) hb)
                                        have n6_ := Aside0.mk (below_step (by repeat (first | (with_reducible first | exact HB.out | apply below_alloc | apply pw_below_drewN | apply below_drew1) | exact HB.out)) hb)
                                        clear HO_5
                                        clear HO_6
                                        clear HO_7
                                        clear HO171
                                        clear HR168
                                        clear HB
                                        have HO_5 := n0_
                                        have HO_6 := n1_
                                        have HO_7 := n2_
                                        have HO171 := n3_
                                        have HO176 := n4_
                                        have HR168 := n5_
                                        have HB := n6_
                                        clear n0_ n1_ n2_ n3_ n4_ n5_ n6_
                                        clear hb ho45
                                        refine hK.out _ _ ⟨HS0_, HS1_⟩ (fun hHeld => ?_)
                                        clear hK K
                                        refine norm_ (a' := ?_) ?_ ?_
                                        rotate_left
                                        · show Act.put _ (some 51) _ = _
                                          simp only [Act.put, List.setIfInBounds_toArray, List.set_cons_zero, List.set_cons_succ, i64_w, i32_w]
                                          rfl
                                        exact norm_ (by simp only [putAll, Act.put, List.setIfInBounds_toArray, List.set_cons_zero, List.set_cons_succ]) (hCont (v163, v170, v175) _ ⟨hHeld, (by (with_reducible repeat (first | apply Kd.R_alloc | apply Kd.R_drewN | apply Kd.R_drew)); exact Kd.R_mono HO171.out (fun _ hk => ⟨hk.2, ⟨hk.1.1, ⟨hk.1.2.1, hk.1.2.2⟩⟩⟩)), (by (with_reducible repeat (first | apply Kd.R_alloc | apply Kd.R_drewN | apply Kd.R_drew)); exact Kd.R_mono HO176.out (fun _ hk => ⟨hk.2, ⟨hk.1.1.1.2, ⟨hk.1.1.2, hk.1.2⟩⟩⟩)), (by (with_reducible repeat (first | apply Kd.R_alloc | apply Kd.R_drewN | apply Kd.R_drew)); exact Kd.R_mono HO_5.out (fun _ hk => ⟨hk.1.2, ⟨hk.2, ⟨hk.1.1.1, hk.1.1.2⟩⟩⟩)), (by (with_reducible repeat (first | apply Kd.R_alloc | apply Kd.R_drewN | apply Kd.R_drew)); exact Kd.R_mono HO_6.out (fun _ hk => ⟨hk.1.2, ⟨hk.2, ⟨hk.1.1.1, hk.1.1.2⟩⟩⟩)), (by (with_reducible repeat (first | apply Kd.R_alloc | apply Kd.R_drewN | apply Kd.R_drew)); exact Kd.R_mono HO_7.out (fun _ hk => ⟨hk.1.2, ⟨hk.2, ⟨hk.1.1.1, hk.1.1.2⟩⟩⟩)), (by repeat (first | (with_reducible first | exact HB.out | apply below_alloc | apply pw_below_drewN | apply below_drew1) | exact HB.out))⟩)
                                      · skip
                                        refine Kd.R_lit_step Kd.string _ 9 ?hg (N := 51) ?hd (xs := ([(rdOf ByteArray.empty t147 (ji26)) ++ (rdOf ByteArray.empty t150 0)] : List ByteArray)) (inner := [.string ((rdOf ByteArray.empty t147 (ji26)) ++ (rdOf ByteArray.empty t150 0))]) (ok := fun _ => True) (okp := fun _ => True) ?hr ?hp (fun _ hk => hk) trivial (Below.refl _ _) (Nat.le_refl _) (by simp) ?_; (case hd => rfl); (case hg => rfl); (case hr => first | (go_simp; done) | (go_simp; rfl)); (case hp => exact (Reps.one (show Kd.M Kd.string _ _ _ ((rdOf ByteArray.empty t147 (ji26)) ++ (rdOf ByteArray.empty t150 0)) [.string ((rdOf ByteArray.empty t147 (ji26)) ++ (rdOf ByteArray.empty t150 0))] from rfl) (Reps.none _ _)))
                                        intro v175 w43 ho44 hb hg_ hnew_
                                        have HS0_ := (hb.cell (World.block_lt_of_cell? _ _ (hHeld.1))).trans (hHeld.1)
                                        have HS1_ := (hb.cell (World.block_lt_of_cell? _ _ (hHeld.2))).trans (hHeld.2)
                                        clear hg_ hnew_
                                        (first | rw [← Ny174.out] at ho44 | (simp only [Int.reduceToNat] at ho44; rw [← Ny174.out] at ho44))
                                        have n0_ := Aside0.mk (Kd.R_elder' (by (with_reducible repeat (first | apply Kd.R_alloc | apply Kd.R_drewN | apply Kd.R_drew)); exact HO_5.out) (Kd.R_base ho44) hb)
                                        have n1_ := Aside0.mk (Kd.R_elder' (by (with_reducible repeat (first | apply Kd.R_alloc | apply Kd.R_drewN | apply Kd.R_drew)); exact HO_6.out) (Kd.R_base ho44) hb)
                                        have n2_ := Aside0.mk (Kd.R_elder' (by (with_reducible repeat (first | apply Kd.R_alloc | apply Kd.R_drewN | apply Kd.R_drew)); exact HO_7.out) (Kd.R_base ho44) hb)
                                        have n3_ := Aside0.mk (Kd.R_elder' (by (with_reducible repeat (first | apply Kd.R_alloc | apply Kd.R_drewN | apply Kd.R_drew)); exact HO164.out) (Kd.R_base ho44) hb)
                                        have n4_ := Aside0.mk (Kd.R_lower (Kd.R_new' (Kd.R_new' (Kd.R_new' (Kd.R_new' ho44 (Kd.R_lt (by (with_reducible repeat (first | apply Kd.R_alloc | apply Kd.R_drewN | apply Kd.R_drew)); exact HO_5.out))) (Kd.R_lt (by (with_reducible repeat (first | apply Kd.R_alloc | apply Kd.R_drewN | apply Kd.R_drew)); exact HO_6.out))) (Kd.R_lt (by (with_reducible repeat (first | apply Kd.R_alloc | apply Kd.R_drewN | apply Kd.R_drew)); exact HO_7.out))) (Kd.R_lt (by (with_reducible repeat (first | apply Kd.R_alloc | apply Kd.R_drewN | apply Kd.R_drew)); exact HO164.out))) (below_size (by repeat (first | (with_reducible first | exact HB.out | apply below_alloc | apply pw_below_drewN | apply below_drew1) | exact HB.out))))
                                        have n5_ := Aside0.mk (Kd.C_below (by repeat (first | (with_reducible exact HR168.out) | (with_reducible refine Kd.C_alloc ?_ _) | (with_reducible refine Kd.C_drewN ?_ _) | (with_reducible refine Kd.C_drew ?_) | exact HR168.out)) hb)
                                        have n6_ := Aside0.mk (below_step (by repeat (first | (with_reducible first | exact HB.out | apply below_alloc | apply pw_below_drewN | apply below_drew1) | exact HB.out)) hb)
                                        clear HO_5
                                        clear HO_6
                                        clear HO_7
                                        clear HO164
                                        clear HR168
                                        clear HB
                                        have HO_5 := n0_
                                        have HO_6 := n1_
                                        have HO_7 := n2_
                                        have HO164 := n3_
                                        have HO176 := n4_
                                        have HR168 := n5_
                                        have HB := n6_
                                        clear n0_ n1_ n2_ n3_ n4_ n5_ n6_
                                        clear hb ho44
                                        refine hK.out _ _ ⟨HS0_, HS1_⟩ (fun hHeld => ?_)
                                        clear hK K
                                        refine norm_ (a' := ?_) ?_ ?_
                                        rotate_left
                                        · show Act.put _ (some 51) _ = _
                                          simp only [Act.put, List.setIfInBounds_toArray, List.set_cons_zero, List.set_cons_succ, i64_w, i32_w]
                                          rfl
                                        refine one_ (i := 5) (N := some 41) #[true, true, true, true, true, true, true, true, true, true, true, true, true, true, true, true, false, false] rfl rfl (one_of HT_.out (by kernel_rfl)) (by decide) (fun K hK => ?_)
                                        refine Kd.R_append_rows_step Kd.string (w0 := w) w.heap.size (by rfl) (.tmp 36) (.tmp 40) 22 9 (.string ⟨#[]⟩) 16 rfl Tryd.underlying22 info9 rfl (by decide) (by omega) v163 y162 y165 _ _ _ (fun k_ => some k_ ≠ (.slice (some ad172) t147.length co16 : Value).ownBlock ∧ some k_ ≠ (.slice (some ad173) t150.length co18 : Value).ownBlock ∧ some k_ ≠ (v160 : Value).ownBlock ∧ some k_ ≠ (v175 : Value).ownBlock) (fun _ => False) rfl rfl ?aO ?aR (fun _ _ h => h) (fun _ h => h.elim) ?aF ?aB ?aS ?aL ?_
                                        (case aR => repeat (first | exact (by repeat (first | (with_reducible exact HR168.out) | (with_reducible refine Kd.C_alloc ?_ _) | (with_reducible refine Kd.C_drewN ?_ _) | (with_reducible refine Kd.C_drew ?_) | exact HR168.out)) | (with_reducible refine Kd.C_alloc ?_ _) | (with_reducible refine Kd.C_drewN ?_ _) | (with_reducible refine Kd.C_drew ?_)))
                                        (case aB => exact (by repeat (first | (with_reducible first | exact HB.out | apply below_alloc | apply pw_below_drewN | apply below_drew1) | exact HB.out)))
                                        (case aF => exact (fun k_ hk => ⟨Kd.fresh' (Kd.R_lt (by (with_reducible repeat (first | apply Kd.R_alloc | apply Kd.R_drewN | apply Kd.R_drew)); exact HO_5.out)) k_ hk, Kd.fresh' (Kd.R_lt (by (with_reducible repeat (first | apply Kd.R_alloc | apply Kd.R_drewN | apply Kd.R_drew)); exact HO_6.out)) k_ hk, Kd.fresh' (Kd.R_lt (by (with_reducible repeat (first | apply Kd.R_alloc | apply Kd.R_drewN | apply Kd.R_drew)); exact HO_7.out)) k_ hk, Kd.fresh' (Kd.R_lt (by (with_reducible repeat (first | apply Kd.R_alloc | apply Kd.R_drewN | apply Kd.R_drew)); exact HO176.out)) k_ hk⟩))
                                        (case aO => exact (by (with_reducible repeat (first | apply Kd.R_alloc | apply Kd.R_drewN | apply Kd.R_drew)); exact Kd.R_mono HO164.out (fun _ hk => ⟨hk.1.1.1.2, ⟨hk.1.1.2, ⟨hk.1.2, hk.2⟩⟩⟩)))
                                        (case aS => exact (below_size (by repeat (first | (with_reducible first | exact HB.out | apply below_alloc | apply pw_below_drewN | apply below_drew1) | exact HB.out))))
                                        (case aL => have := LMc29.out; omega)
                                        intro v170 w45 ho hb hg hat
                                        (have HS0_ := cell_grown hg (hHeld.1) (by first | (rw [add_block]; exact (fun e_ => by have h_ := HO164.out.1 _ e_.symm; first | exact h_ rfl | exact h_.1 rfl | exact h_.2 rfl | exact h_.1.1 rfl | exact h_.1.2 rfl | exact h_.2.1 rfl | exact h_.2.2 rfl | exact h_.1.1.1 rfl | exact h_.1.1.2 rfl | exact h_.1.2.1 rfl | exact h_.1.2.2 rfl | exact h_.2.1.1 rfl | exact h_.2.1.2 rfl | exact h_.2.2.1 rfl | exact h_.2.2.2 rfl | exact h_.1.1.1.1 rfl | exact h_.1.1.1.2 rfl | exact h_.1.1.2.1 rfl | exact h_.1.1.2.2 rfl | exact h_.1.2.1.1 rfl | exact h_.1.2.1.2 rfl | exact h_.1.2.2.1 rfl | exact h_.1.2.2.2 rfl | exact h_.2.1.1.1 rfl | exact h_.2.1.1.2 rfl | exact h_.2.1.2.1 rfl | exact h_.2.1.2.2 rfl | exact h_.2.2.1.1 rfl | exact h_.2.2.1.2 rfl | exact h_.2.2.2.1 rfl | exact h_.2.2.2.2 rfl | exact h_.1.1.1.1.1 rfl | exact h_.1.1.1.1.2 rfl | exact h_.1.1.1.2.1 rfl | exact h_.1.1.1.2.2 rfl | exact h_.1.1.2.1.1 rfl | exact h_.1.1.2.1.2 rfl | exact h_.1.1.2.2.1 rfl | exact h_.1.1.2.2.2 rfl | exact h_.1.2.1.1.1 rfl | exact h_.1.2.1.1.2 rfl | exact h_.1.2.1.2.1 rfl | exact h_.1.2.1.2.2 rfl | exact h_.1.2.2.1.1 rfl | exact h_.1.2.2.1.2 rfl | exact h_.1.2.2.2.1 rfl | exact h_.1.2.2.2.2 rfl | exact h_.2.1.1.1.1 rfl | exact h_.2.1.1.1.2 rfl | exact h_.2.1.1.2.1 rfl | exact h_.2.1.1.2.2 rfl | exact h_.2.1.2.1.1 rfl | exact h_.2.1.2.1.2 rfl | exact h_.2.1.2.2.1 rfl | exact h_.2.1.2.2.2 rfl | exact h_.2.2.1.1.1 rfl | exact h_.2.2.1.1.2 rfl | exact h_.2.2.1.2.1 rfl | exact h_.2.2.1.2.2 rfl | exact h_.2.2.2.1.1 rfl | exact h_.2.2.2.1.2 rfl | exact h_.2.2.2.2.1 rfl | exact h_.2.2.2.2.2 rfl)) | (show some (Addr.add _ _).block ≠ _; rw [add_block]; exact (fun e_ => by have h_ := HO164.out.1 _ e_.symm; first | exact h_ rfl | exact h_.1 rfl | exact h_.2 rfl | exact h_.1.1 rfl | exact h_.1.2 rfl | exact h_.2.1 rfl | exact h_.2.2 rfl | exact h_.1.1.1 rfl | exact h_.1.1.2 rfl | exact h_.1.2.1 rfl | exact h_.1.2.2 rfl | exact h_.2.1.1 rfl | exact h_.2.1.2 rfl | exact h_.2.2.1 rfl | exact h_.2.2.2 rfl | exact h_.1.1.1.1 rfl | exact h_.1.1.1.2 rfl | exact h_.1.1.2.1 rfl | exact h_.1.1.2.2 rfl | exact h_.1.2.1.1 rfl | exact h_.1.2.1.2 rfl | exact h_.1.2.2.1 rfl | exact h_.1.2.2.2 rfl | exact h_.2.1.1.1 rfl | exact h_.2.1.1.2 rfl | exact h_.2.1.2.1 rfl | exact h_.2.1.2.2 rfl | exact h_.2.2.1.1 rfl | exact h_.2.2.1.2 rfl | exact h_.2.2.2.1 rfl | exact h_.2.2.2.2 rfl | exact h_.1.1.1.1.1 rfl | exact h_.1.1.1.1.2 rfl | exact h_.1.1.1.2.1 rfl | exact h_.1.1.1.2.2 rfl | exact h_.1.1.2.1.1 rfl | exact h_.1.1.2.1.2 rfl | exact h_.1.1.2.2.1 rfl | exact h_.1.1.2.2.2 rfl | exact h_.1.2.1.1.1 rfl | exact h_.1.2.1.1.2 rfl | exact h_.1.2.1.2.1 rfl | exact h_.1.2.1.2.2 rfl | exact h_.1.2.2.1.1 rfl | exact h_.1.2.2.1.2 rfl | exact h_.1.2.2.2.1 rfl | exact h_.1.2.2.2.2 rfl | exact h_.2.1.1.1.1 rfl | exact h_.2.1.1.1.2 rfl | exact h_.2.1.1.2.1 rfl | exact h_.2.1.1.2.2 rfl | exact h_.2.1.2.1.1 rfl | exact h_.2.1.2.1.2 rfl | exact h_.2.1.2.2.1 rfl | exact h_.2.1.2.2.2 rfl | exact h_.2.2.1.1.1 rfl | exact h_.2.2.1.1.2 rfl | exact h_.2.2.1.2.1 rfl | exact h_.2.2.1.2.2 rfl | exact h_.2.2.2.1.1 rfl | exact h_.2.2.2.1.2 rfl | exact h_.2.2.2.2.1 rfl | exact h_.2.2.2.2.2 rfl)) | exact (fun e_ => by have h_ := HO164.out.1 _ e_.symm; first | exact h_ rfl | exact h_.1 rfl | exact h_.2 rfl | exact h_.1.1 rfl | exact h_.1.2 rfl | exact h_.2.1 rfl | exact h_.2.2 rfl | exact h_.1.1.1 rfl | exact h_.1.1.2 rfl | exact h_.1.2.1 rfl | exact h_.1.2.2 rfl | exact h_.2.1.1 rfl | exact h_.2.1.2 rfl | exact h_.2.2.1 rfl | exact h_.2.2.2 rfl | exact h_.1.1.1.1 rfl | exact h_.1.1.1.2 rfl | exact h_.1.1.2.1 rfl | exact h_.1.1.2.2 rfl | exact h_.1.2.1.1 rfl | exact h_.1.2.1.2 rfl | exact h_.1.2.2.1 rfl | exact h_.1.2.2.2 rfl | exact h_.2.1.1.1 rfl | exact h_.2.1.1.2 rfl | exact h_.2.1.2.1 rfl | exact h_.2.1.2.2 rfl | exact h_.2.2.1.1 rfl | exact h_.2.2.1.2 rfl | exact h_.2.2.2.1 rfl | exact h_.2.2.2.2 rfl | exact h_.1.1.1.1.1 rfl | exact h_.1.1.1.1.2 rfl | exact h_.1.1.1.2.1 rfl | exact h_.1.1.1.2.2 rfl | exact h_.1.1.2.1.1 rfl | exact h_.1.1.2.1.2 rfl | exact h_.1.1.2.2.1 rfl | exact h_.1.1.2.2.2 rfl | exact h_.1.2.1.1.1 rfl | exact h_.1.2.1.1.2 rfl | exact h_.1.2.1.2.1 rfl | exact h_.1.2.1.2.2 rfl | exact h_.1.2.2.1.1 rfl | exact h_.1.2.2.1.2 rfl | exact h_.1.2.2.2.1 rfl | exact h_.1.2.2.2.2 rfl | exact h_.2.1.1.1.1 rfl | exact h_.2.1.1.1.2 rfl | exact h_.2.1.1.2.1 rfl | exact h_.2.1.1.2.2 rfl | exact h_.2.1.2.1.1 rfl | exact h_.2.1.2.1.2 rfl | exact h_.2.1.2.2.1 rfl | exact h_.2.1.2.2.2 rfl | exact h_.2.2.1.1.1 rfl | exact h_.2.2.1.1.2 rfl | exact h_.2.2.1.2.1 rfl | exact h_.2.2.1.2.2 rfl | exact h_.2.2.2.1.1 rfl | exact h_.2.2.2.1.2 rfl | exact h_.2.2.2.2.1 rfl | exact h_.2.2.2.2.2 rfl)))
                                        (have HS1_ := cell_grown hg (hHeld.2) (by first | (rw [add_block]; exact (fun e_ => by have h_ := HO164.out.1 _ e_.symm; first | exact h_ rfl | exact h_.1 rfl | exact h_.2 rfl | exact h_.1.1 rfl | exact h_.1.2 rfl | exact h_.2.1 rfl | exact h_.2.2 rfl | exact h_.1.1.1 rfl | exact h_.1.1.2 rfl | exact h_.1.2.1 rfl | exact h_.1.2.2 rfl | exact h_.2.1.1 rfl | exact h_.2.1.2 rfl | exact h_.2.2.1 rfl | exact h_.2.2.2 rfl | exact h_.1.1.1.1 rfl | exact h_.1.1.1.2 rfl | exact h_.1.1.2.1 rfl | exact h_.1.1.2.2 rfl | exact h_.1.2.1.1 rfl | exact h_.1.2.1.2 rfl | exact h_.1.2.2.1 rfl | exact h_.1.2.2.2 rfl | exact h_.2.1.1.1 rfl | exact h_.2.1.1.2 rfl | exact h_.2.1.2.1 rfl | exact h_.2.1.2.2 rfl | exact h_.2.2.1.1 rfl | exact h_.2.2.1.2 rfl | exact h_.2.2.2.1 rfl | exact h_.2.2.2.2 rfl | exact h_.1.1.1.1.1 rfl | exact h_.1.1.1.1.2 rfl | exact h_.1.1.1.2.1 rfl | exact h_.1.1.1.2.2 rfl | exact h_.1.1.2.1.1 rfl | exact h_.1.1.2.1.2 rfl | exact h_.1.1.2.2.1 rfl | exact h_.1.1.2.2.2 rfl | exact h_.1.2.1.1.1 rfl | exact h_.1.2.1.1.2 rfl | exact h_.1.2.1.2.1 rfl | exact h_.1.2.1.2.2 rfl | exact h_.1.2.2.1.1 rfl | exact h_.1.2.2.1.2 rfl | exact h_.1.2.2.2.1 rfl | exact h_.1.2.2.2.2 rfl | exact h_.2.1.1.1.1 rfl | exact h_.2.1.1.1.2 rfl | exact h_.2.1.1.2.1 rfl | exact h_.2.1.1.2.2 rfl | exact h_.2.1.2.1.1 rfl | exact h_.2.1.2.1.2 rfl | exact h_.2.1.2.2.1 rfl | exact h_.2.1.2.2.2 rfl | exact h_.2.2.1.1.1 rfl | exact h_.2.2.1.1.2 rfl | exact h_.2.2.1.2.1 rfl | exact h_.2.2.1.2.2 rfl | exact h_.2.2.2.1.1 rfl | exact h_.2.2.2.1.2 rfl | exact h_.2.2.2.2.1 rfl | exact h_.2.2.2.2.2 rfl)) | (show some (Addr.add _ _).block ≠ _; rw [add_block]; exact (fun e_ => by have h_ := HO164.out.1 _ e_.symm; first | exact h_ rfl | exact h_.1 rfl | exact h_.2 rfl | exact h_.1.1 rfl | exact h_.1.2 rfl | exact h_.2.1 rfl | exact h_.2.2 rfl | exact h_.1.1.1 rfl | exact h_.1.1.2 rfl | exact h_.1.2.1 rfl | exact h_.1.2.2 rfl | exact h_.2.1.1 rfl | exact h_.2.1.2 rfl | exact h_.2.2.1 rfl | exact h_.2.2.2 rfl | exact h_.1.1.1.1 rfl | exact h_.1.1.1.2 rfl | exact h_.1.1.2.1 rfl | exact h_.1.1.2.2 rfl | exact h_.1.2.1.1 rfl | exact h_.1.2.1.2 rfl | exact h_.1.2.2.1 rfl | exact h_.1.2.2.2 rfl | exact h_.2.1.1.1 rfl | exact h_.2.1.1.2 rfl | exact h_.2.1.2.1 rfl | exact h_.2.1.2.2 rfl | exact h_.2.2.1.1 rfl | exact h_.2.2.1.2 rfl | exact h_.2.2.2.1 rfl | exact h_.2.2.2.2 rfl | exact h_.1.1.1.1.1 rfl | exact h_.1.1.1.1.2 rfl | exact h_.1.1.1.2.1 rfl | exact h_.1.1.1.2.2 rfl | exact h_.1.1.2.1.1 rfl | exact h_.1.1.2.1.2 rfl | exact h_.1.1.2.2.1 rfl | exact h_.1.1.2.2.2 rfl | exact h_.1.2.1.1.1 rfl | exact h_.1.2.1.1.2 rfl | exact h_.1.2.1.2.1 rfl | exact h_.1.2.1.2.2 rfl | exact h_.1.2.2.1.1 rfl | exact h_.1.2.2.1.2 rfl | exact h_.1.2.2.2.1 rfl | exact h_.1.2.2.2.2 rfl | exact h_.2.1.1.1.1 rfl | exact h_.2.1.1.1.2 rfl | exact h_.2.1.1.2.1 rfl | exact h_.2.1.1.2.2 rfl | exact h_.2.1.2.1.1 rfl | exact h_.2.1.2.1.2 rfl | exact h_.2.1.2.2.1 rfl | exact h_.2.1.2.2.2 rfl | exact h_.2.2.1.1.1 rfl | exact h_.2.2.1.1.2 rfl | exact h_.2.2.1.2.1 rfl | exact h_.2.2.1.2.2 rfl | exact h_.2.2.2.1.1 rfl | exact h_.2.2.2.1.2 rfl | exact h_.2.2.2.2.1 rfl | exact h_.2.2.2.2.2 rfl)) | exact (fun e_ => by have h_ := HO164.out.1 _ e_.symm; first | exact h_ rfl | exact h_.1 rfl | exact h_.2 rfl | exact h_.1.1 rfl | exact h_.1.2 rfl | exact h_.2.1 rfl | exact h_.2.2 rfl | exact h_.1.1.1 rfl | exact h_.1.1.2 rfl | exact h_.1.2.1 rfl | exact h_.1.2.2 rfl | exact h_.2.1.1 rfl | exact h_.2.1.2 rfl | exact h_.2.2.1 rfl | exact h_.2.2.2 rfl | exact h_.1.1.1.1 rfl | exact h_.1.1.1.2 rfl | exact h_.1.1.2.1 rfl | exact h_.1.1.2.2 rfl | exact h_.1.2.1.1 rfl | exact h_.1.2.1.2 rfl | exact h_.1.2.2.1 rfl | exact h_.1.2.2.2 rfl | exact h_.2.1.1.1 rfl | exact h_.2.1.1.2 rfl | exact h_.2.1.2.1 rfl | exact h_.2.1.2.2 rfl | exact h_.2.2.1.1 rfl | exact h_.2.2.1.2 rfl | exact h_.2.2.2.1 rfl | exact h_.2.2.2.2 rfl | exact h_.1.1.1.1.1 rfl | exact h_.1.1.1.1.2 rfl | exact h_.1.1.1.2.1 rfl | exact h_.1.1.1.2.2 rfl | exact h_.1.1.2.1.1 rfl | exact h_.1.1.2.1.2 rfl | exact h_.1.1.2.2.1 rfl | exact h_.1.1.2.2.2 rfl | exact h_.1.2.1.1.1 rfl | exact h_.1.2.1.1.2 rfl | exact h_.1.2.1.2.1 rfl | exact h_.1.2.1.2.2 rfl | exact h_.1.2.2.1.1 rfl | exact h_.1.2.2.1.2 rfl | exact h_.1.2.2.2.1 rfl | exact h_.1.2.2.2.2 rfl | exact h_.2.1.1.1.1 rfl | exact h_.2.1.1.1.2 rfl | exact h_.2.1.1.2.1 rfl | exact h_.2.1.1.2.2 rfl | exact h_.2.1.2.1.1 rfl | exact h_.2.1.2.1.2 rfl | exact h_.2.1.2.2.1 rfl | exact h_.2.1.2.2.2 rfl | exact h_.2.2.1.1.1 rfl | exact h_.2.2.1.1.2 rfl | exact h_.2.2.1.2.1 rfl | exact h_.2.2.1.2.2 rfl | exact h_.2.2.2.1.1 rfl | exact h_.2.2.2.1.2 rfl | exact h_.2.2.2.2.1 rfl | exact h_.2.2.2.2.2 rfl)))
                                        rw [← Ny169.out] at ho
                                        have n0_ := Aside0.mk (Kd.R_after (ok := (fun k_ => some k_ ≠ (.slice (some ad173) t150.length co18 : Value).ownBlock ∧ some k_ ≠ (v160 : Value).ownBlock ∧ some k_ ≠ (v175 : Value).ownBlock)) (by (with_reducible repeat (first | apply Kd.R_alloc | apply Kd.R_drewN | apply Kd.R_drew)); exact Kd.R_mono HO_5.out (fun _ hk => ⟨⟨hk.1.1.1, ⟨hk.1.1.2, hk.2⟩⟩, hk.1.2⟩)) hg hat)
                                        have n1_ := Aside0.mk (Kd.R_after (ok := (fun k_ => some k_ ≠ (.slice (some ad172) t147.length co16 : Value).ownBlock ∧ some k_ ≠ (v160 : Value).ownBlock ∧ some k_ ≠ (v175 : Value).ownBlock)) (by (with_reducible repeat (first | apply Kd.R_alloc | apply Kd.R_drewN | apply Kd.R_drew)); exact Kd.R_mono HO_6.out (fun _ hk => ⟨⟨hk.1.1.1, ⟨hk.1.1.2, hk.2⟩⟩, hk.1.2⟩)) hg hat)
                                        have n2_ := Aside0.mk (Kd.R_after (ok := (fun k_ => some k_ ≠ (.slice (some ad172) t147.length co16 : Value).ownBlock ∧ some k_ ≠ (.slice (some ad173) t150.length co18 : Value).ownBlock ∧ some k_ ≠ (v175 : Value).ownBlock)) (by (with_reducible repeat (first | apply Kd.R_alloc | apply Kd.R_drewN | apply Kd.R_drew)); exact Kd.R_mono HO_7.out (fun _ hk => ⟨⟨hk.1.1.1, ⟨hk.1.1.2, hk.2⟩⟩, hk.1.2⟩)) hg hat)
                                        have n3_ := Aside0.mk (Kd.R_after (ok := (fun k_ => some k_ ≠ (.slice (some ad172) t147.length co16 : Value).ownBlock ∧ some k_ ≠ (.slice (some ad173) t150.length co18 : Value).ownBlock ∧ some k_ ≠ (v160 : Value).ownBlock)) (by (with_reducible repeat (first | apply Kd.R_alloc | apply Kd.R_drewN | apply Kd.R_drew)); exact Kd.R_mono HO176.out (fun _ hk => ⟨⟨hk.1.1.1.2, ⟨hk.1.1.2, hk.1.2⟩⟩, hk.2⟩)) hg hat)
                                        have n4_ := Aside0.mk (hb)
                                        have n5_ := Aside0.mk ((show Kd.C Kd.string w45 (some ad172) y165.length y165 from by rw [Ny165.out]; exact Kd.C_take (m := ((ji26) : Int).toNat) ((Kd.R_reads' (Kd.R_after (ok := (fun k_ => some k_ ≠ (.slice (some ad173) t150.length co18 : Value).ownBlock ∧ some k_ ≠ (v160 : Value).ownBlock ∧ some k_ ≠ (v175 : Value).ownBlock)) (by (with_reducible repeat (first | apply Kd.R_alloc | apply Kd.R_drewN | apply Kd.R_drew)); exact Kd.R_mono HO_5.out (fun _ hk => ⟨⟨hk.1.1.1, ⟨hk.1.1.2, hk.2⟩⟩, hk.1.2⟩)) hg hat)).2.2) KL40.out))
                                        have n6_ := Aside0.mk (ho)
                                        clear HO_5
                                        clear HO_6
                                        clear HO_7
                                        clear HO176
                                        clear HB
                                        clear HR168
                                        clear HO164
                                        have HO_5 := n0_
                                        have HO_6 := n1_
                                        have HO_7 := n2_
                                        have HO176 := n3_
                                        have HB := n4_
                                        have HR168 := n5_
                                        have HO171 := n6_
                                        clear n0_ n1_ n2_ n3_ n4_ n5_ n6_
                                        clear ho hb hg hat
                                        refine hK.out _ _ ⟨HS0_, HS1_⟩ (fun hHeld => ?_)
                                        clear hK K
                                        refine norm_ (a' := ?_) ?_ ?_
                                        rotate_left
                                        · show Act.put _ (some 41) _ = _
                                          simp only [Act.put, List.setIfInBounds_toArray, List.set_cons_zero, List.set_cons_succ, i64_w, i32_w]
                                          rfl
                                        exact norm_ (by simp only [putAll, Act.put, List.setIfInBounds_toArray, List.set_cons_zero, List.set_cons_succ]) (hCont (v163, v170, v175) _ ⟨hHeld, (by (with_reducible repeat (first | apply Kd.R_alloc | apply Kd.R_drewN | apply Kd.R_drew)); exact Kd.R_mono HO171.out (fun _ hk => ⟨hk.2.2.2, ⟨hk.1, ⟨hk.2.1, hk.2.2.1⟩⟩⟩)), (by (with_reducible repeat (first | apply Kd.R_alloc | apply Kd.R_drewN | apply Kd.R_drew)); exact Kd.R_mono HO176.out (fun _ hk => ⟨hk.2, ⟨hk.1.1, ⟨hk.1.2.1, hk.1.2.2⟩⟩⟩)), (by (with_reducible repeat (first | apply Kd.R_alloc | apply Kd.R_drewN | apply Kd.R_drew)); exact Kd.R_mono HO_5.out (fun _ hk => ⟨hk.2, ⟨hk.1.2.2, ⟨hk.1.1, hk.1.2.1⟩⟩⟩)), (by (with_reducible repeat (first | apply Kd.R_alloc | apply Kd.R_drewN | apply Kd.R_drew)); exact Kd.R_mono HO_6.out (fun _ hk => ⟨hk.2, ⟨hk.1.2.2, ⟨hk.1.1, hk.1.2.1⟩⟩⟩)), (by (with_reducible repeat (first | apply Kd.R_alloc | apply Kd.R_drewN | apply Kd.R_drew)); exact Kd.R_mono HO_7.out (fun _ hk => ⟨hk.2, ⟨hk.1.2.2, ⟨hk.1.1, hk.1.2.1⟩⟩⟩)), (by repeat (first | (with_reducible first | exact HB.out | apply below_alloc | apply pw_below_drewN | apply below_drew1) | exact HB.out))⟩)
                                    · skip
                                      refine Kd.R_lit_step Kd.string _ 9 ?hg (N := 51) ?hd (xs := ([(rdOf ByteArray.empty t147 (ji26)) ++ (rdOf ByteArray.empty t150 0)] : List ByteArray)) (inner := [.string ((rdOf ByteArray.empty t147 (ji26)) ++ (rdOf ByteArray.empty t150 0))]) (ok := fun _ => True) (okp := fun _ => True) ?hr ?hp (fun _ hk => hk) trivial (Below.refl _ _) (Nat.le_refl _) (by simp) ?_; (case hd => rfl); (case hg => rfl); (case hr => first | (go_simp; done) | (go_simp; rfl)); (case hp => exact (Reps.one (show Kd.M Kd.string _ _ _ ((rdOf ByteArray.empty t147 (ji26)) ++ (rdOf ByteArray.empty t150 0)) [.string ((rdOf ByteArray.empty t147 (ji26)) ++ (rdOf ByteArray.empty t150 0))] from rfl) (Reps.none _ _)))
                                      intro v175 w41 ho42 hb hg_ hnew_
                                      have HS0_ := (hb.cell (World.block_lt_of_cell? _ _ (hHeld.1))).trans (hHeld.1)
                                      have HS1_ := (hb.cell (World.block_lt_of_cell? _ _ (hHeld.2))).trans (hHeld.2)
                                      clear hg_ hnew_
                                      (first | rw [← Ny174.out] at ho42 | (simp only [Int.reduceToNat] at ho42; rw [← Ny174.out] at ho42))
                                      have n0_ := Aside0.mk (Kd.R_elder' (by (with_reducible repeat (first | apply Kd.R_alloc | apply Kd.R_drewN | apply Kd.R_drew)); exact HO_5.out) (Kd.R_base ho42) hb)
                                      have n1_ := Aside0.mk (Kd.R_elder' (by (with_reducible repeat (first | apply Kd.R_alloc | apply Kd.R_drewN | apply Kd.R_drew)); exact HO_6.out) (Kd.R_base ho42) hb)
                                      have n2_ := Aside0.mk (Kd.R_elder' (by (with_reducible repeat (first | apply Kd.R_alloc | apply Kd.R_drewN | apply Kd.R_drew)); exact HO_7.out) (Kd.R_base ho42) hb)
                                      have n3_ := Aside0.mk (Kd.R_lower (Kd.R_new' (Kd.R_new' (Kd.R_new' ho42 (Kd.R_lt (by (with_reducible repeat (first | apply Kd.R_alloc | apply Kd.R_drewN | apply Kd.R_drew)); exact HO_5.out))) (Kd.R_lt (by (with_reducible repeat (first | apply Kd.R_alloc | apply Kd.R_drewN | apply Kd.R_drew)); exact HO_6.out))) (Kd.R_lt (by (with_reducible repeat (first | apply Kd.R_alloc | apply Kd.R_drewN | apply Kd.R_drew)); exact HO_7.out))) (below_size (by repeat (first | (with_reducible first | exact HB.out | apply below_alloc | apply pw_below_drewN | apply below_drew1) | exact HB.out))))
                                      have n4_ := Aside0.mk (Kd.C_below (by repeat (first | (with_reducible exact HR168.out) | (with_reducible refine Kd.C_alloc ?_ _) | (with_reducible refine Kd.C_drewN ?_ _) | (with_reducible refine Kd.C_drew ?_) | exact HR168.out)) hb)
                                      have n5_ := Aside0.mk (below_step (by repeat (first | (with_reducible first | exact HB.out | apply below_alloc | apply pw_below_drewN | apply below_drew1) | exact HB.out)) hb)
                                      clear HO_5
                                      clear HO_6
                                      clear HO_7
                                      clear HR168
                                      clear HB
                                      have HO_5 := n0_
                                      have HO_6 := n1_
                                      have HO_7 := n2_
                                      have HO176 := n3_
                                      have HR168 := n4_
                                      have HB := n5_
                                      clear n0_ n1_ n2_ n3_ n4_ n5_
                                      clear hb ho42
                                      refine hK.out _ _ ⟨HS0_, HS1_⟩ (fun hHeld => ?_)
                                      clear hK K
                                      refine norm_ (a' := ?_) ?_ ?_
                                      rotate_left
                                      · show Act.put _ (some 51) _ = _
                                        simp only [Act.put, List.setIfInBounds_toArray, List.set_cons_zero, List.set_cons_succ, i64_w, i32_w]
                                        rfl
                                      refine one_ (i := 0) (N := some 36) #[true, true, true, true, true, false, true, true, true, true, true, true, true, true, true, true, false, false] rfl rfl (one_of HT_.out (by kernel_rfl)) (by decide) (fun K hK => ?_)
                                      refine Kd.R_lit_step Kd.string _ 9 ?hg (N := 36) ?hd (xs := ([] : List ByteArray)) (inner := []) (ok := fun _ => True) (okp := fun _ => True) ?hr ?hp (fun _ hk => hk) trivial (Below.refl _ _) (Nat.le_refl _) (by simp) ?_; (case hd => rfl); (case hg => rfl); (case hr => first | (go_simp; done) | (go_simp; rfl)); (case hp => exact (Reps.none _ _))
                                      intro v163 w43 ho44 hb hg_ hnew_
                                      have HS0_ := (hb.cell (World.block_lt_of_cell? _ _ (hHeld.1))).trans (hHeld.1)
                                      have HS1_ := (hb.cell (World.block_lt_of_cell? _ _ (hHeld.2))).trans (hHeld.2)
                                      clear hg_ hnew_
                                      (first | rw [← Ny162.out] at ho44 | (simp only [Int.reduceToNat] at ho44; rw [← Ny162.out] at ho44))
                                      have n0_ := Aside0.mk (Kd.R_elder' (by (with_reducible repeat (first | apply Kd.R_alloc | apply Kd.R_drewN | apply Kd.R_drew)); exact HO_5.out) (Kd.R_base ho44) hb)
                                      have n1_ := Aside0.mk (Kd.R_elder' (by (with_reducible repeat (first | apply Kd.R_alloc | apply Kd.R_drewN | apply Kd.R_drew)); exact HO_6.out) (Kd.R_base ho44) hb)
                                      have n2_ := Aside0.mk (Kd.R_elder' (by (with_reducible repeat (first | apply Kd.R_alloc | apply Kd.R_drewN | apply Kd.R_drew)); exact HO_7.out) (Kd.R_base ho44) hb)
                                      have n3_ := Aside0.mk (Kd.R_elder' (by (with_reducible repeat (first | apply Kd.R_alloc | apply Kd.R_drewN | apply Kd.R_drew)); exact HO176.out) (Kd.R_base ho44) hb)
                                      have n4_ := Aside0.mk (Kd.R_lower (Kd.R_new' (Kd.R_new' (Kd.R_new' (Kd.R_new' ho44 (Kd.R_lt (by (with_reducible repeat (first | apply Kd.R_alloc | apply Kd.R_drewN | apply Kd.R_drew)); exact HO_5.out))) (Kd.R_lt (by (with_reducible repeat (first | apply Kd.R_alloc | apply Kd.R_drewN | apply Kd.R_drew)); exact HO_6.out))) (Kd.R_lt (by (with_reducible repeat (first | apply Kd.R_alloc | apply Kd.R_drewN | apply Kd.R_drew)); exact HO_7.out))) (Kd.R_lt (by (with_reducible repeat (first | apply Kd.R_alloc | apply Kd.R_drewN | apply Kd.R_drew)); exact HO176.out))) (below_size (by repeat (first | (with_reducible first | exact HB.out | apply below_alloc | apply pw_below_drewN | apply below_drew1) | exact HB.out))))
                                      have n5_ := Aside0.mk (Kd.C_below (by repeat (first | (with_reducible exact HR168.out) | (with_reducible refine Kd.C_alloc ?_ _) | (with_reducible refine Kd.C_drewN ?_ _) | (with_reducible refine Kd.C_drew ?_) | exact HR168.out)) hb)
                                      have n6_ := Aside0.mk (below_step (by repeat (first | (with_reducible first | exact HB.out | apply below_alloc | apply pw_below_drewN | apply below_drew1) | exact HB.out)) hb)
                                      clear HO_5
                                      clear HO_6
                                      clear HO_7
                                      clear HO176
                                      clear HR168
                                      clear HB
                                      have HO_5 := n0_
                                      have HO_6 := n1_
                                      have HO_7 := n2_
                                      have HO176 := n3_
                                      have HO164 := n4_
                                      have HR168 := n5_
                                      have HB := n6_
                                      clear n0_ n1_ n2_ n3_ n4_ n5_ n6_
                                      clear hb ho44
                                      refine hK.out _ _ ⟨HS0_, HS1_⟩ (fun hHeld => ?_)
                                      clear hK K
                                      refine norm_ (a' := ?_) ?_ ?_
                                      rotate_left
                                      · show Act.put _ (some 36) _ = _
                                        simp only [Act.put, List.setIfInBounds_toArray, List.set_cons_zero, List.set_cons_succ, i64_w, i32_w]
                                        rfl
                                      refine one_ (i := 5) (N := some 41) #[true, true, true, true, true, true, true, true, true, true, true, true, true, true, true, true, false, false] rfl rfl (one_of HT_.out (by kernel_rfl)) (by decide) (fun K hK => ?_)
                                      refine Kd.R_append_rows_step Kd.string (w0 := w) w.heap.size (by rfl) (.tmp 36) (.tmp 40) 22 9 (.string ⟨#[]⟩) 16 rfl Tryd.underlying22 info9 rfl (by decide) (by omega) v163 y162 y165 _ _ _ (fun k_ => some k_ ≠ (.slice (some ad172) t147.length co16 : Value).ownBlock ∧ some k_ ≠ (.slice (some ad173) t150.length co18 : Value).ownBlock ∧ some k_ ≠ (v160 : Value).ownBlock ∧ some k_ ≠ (v175 : Value).ownBlock) (fun _ => False) rfl rfl ?aO ?aR (fun _ _ h => h) (fun _ h => h.elim) ?aF ?aB ?aS ?aL ?_
                                      (case aR => repeat (first | exact (by repeat (first | (with_reducible exact HR168.out) | (with_reducible refine Kd.C_alloc ?_ _) | (with_reducible refine Kd.C_drewN ?_ _) | (with_reducible refine Kd.C_drew ?_) | exact HR168.out)) | (with_reducible refine Kd.C_alloc ?_ _) | (with_reducible refine Kd.C_drewN ?_ _) | (with_reducible refine Kd.C_drew ?_)))
                                      (case aB => exact (by repeat (first | (with_reducible first | exact HB.out | apply below_alloc | apply pw_below_drewN | apply below_drew1) | exact HB.out)))
                                      (case aF => exact (fun k_ hk => ⟨Kd.fresh' (Kd.R_lt (by (with_reducible repeat (first | apply Kd.R_alloc | apply Kd.R_drewN | apply Kd.R_drew)); exact HO_5.out)) k_ hk, Kd.fresh' (Kd.R_lt (by (with_reducible repeat (first | apply Kd.R_alloc | apply Kd.R_drewN | apply Kd.R_drew)); exact HO_6.out)) k_ hk, Kd.fresh' (Kd.R_lt (by (with_reducible repeat (first | apply Kd.R_alloc | apply Kd.R_drewN | apply Kd.R_drew)); exact HO_7.out)) k_ hk, Kd.fresh' (Kd.R_lt (by (with_reducible repeat (first | apply Kd.R_alloc | apply Kd.R_drewN | apply Kd.R_drew)); exact HO176.out)) k_ hk⟩))
                                      (case aO => exact (by (with_reducible repeat (first | apply Kd.R_alloc | apply Kd.R_drewN | apply Kd.R_drew)); exact Kd.R_mono HO164.out (fun _ hk => ⟨hk.1.1.1.2, ⟨hk.1.1.2, ⟨hk.1.2, hk.2⟩⟩⟩)))
                                      (case aS => exact (below_size (by repeat (first | (with_reducible first | exact HB.out | apply below_alloc | apply pw_below_drewN | apply below_drew1) | exact HB.out))))
                                      (case aL => have := LMc29.out; omega)
                                      intro v170 w45 ho hb hg hat
                                      (have HS0_ := cell_grown hg (hHeld.1) (by first | (rw [add_block]; exact (fun e_ => by have h_ := HO164.out.1 _ e_.symm; first | exact h_ rfl | exact h_.1 rfl | exact h_.2 rfl | exact h_.1.1 rfl | exact h_.1.2 rfl | exact h_.2.1 rfl | exact h_.2.2 rfl | exact h_.1.1.1 rfl | exact h_.1.1.2 rfl | exact h_.1.2.1 rfl | exact h_.1.2.2 rfl | exact h_.2.1.1 rfl | exact h_.2.1.2 rfl | exact h_.2.2.1 rfl | exact h_.2.2.2 rfl | exact h_.1.1.1.1 rfl | exact h_.1.1.1.2 rfl | exact h_.1.1.2.1 rfl | exact h_.1.1.2.2 rfl | exact h_.1.2.1.1 rfl | exact h_.1.2.1.2 rfl | exact h_.1.2.2.1 rfl | exact h_.1.2.2.2 rfl | exact h_.2.1.1.1 rfl | exact h_.2.1.1.2 rfl | exact h_.2.1.2.1 rfl | exact h_.2.1.2.2 rfl | exact h_.2.2.1.1 rfl | exact h_.2.2.1.2 rfl | exact h_.2.2.2.1 rfl | exact h_.2.2.2.2 rfl | exact h_.1.1.1.1.1 rfl | exact h_.1.1.1.1.2 rfl | exact h_.1.1.1.2.1 rfl | exact h_.1.1.1.2.2 rfl | exact h_.1.1.2.1.1 rfl | exact h_.1.1.2.1.2 rfl | exact h_.1.1.2.2.1 rfl | exact h_.1.1.2.2.2 rfl | exact h_.1.2.1.1.1 rfl | exact h_.1.2.1.1.2 rfl | exact h_.1.2.1.2.1 rfl | exact h_.1.2.1.2.2 rfl | exact h_.1.2.2.1.1 rfl | exact h_.1.2.2.1.2 rfl | exact h_.1.2.2.2.1 rfl | exact h_.1.2.2.2.2 rfl | exact h_.2.1.1.1.1 rfl | exact h_.2.1.1.1.2 rfl | exact h_.2.1.1.2.1 rfl | exact h_.2.1.1.2.2 rfl | exact h_.2.1.2.1.1 rfl | exact h_.2.1.2.1.2 rfl | exact h_.2.1.2.2.1 rfl | exact h_.2.1.2.2.2 rfl | exact h_.2.2.1.1.1 rfl | exact h_.2.2.1.1.2 rfl | exact h_.2.2.1.2.1 rfl | exact h_.2.2.1.2.2 rfl | exact h_.2.2.2.1.1 rfl | exact h_.2.2.2.1.2 rfl | exact h_.2.2.2.2.1 rfl | exact h_.2.2.2.2.2 rfl)) | (show some (Addr.add _ _).block ≠ _; rw [add_block]; exact (fun e_ => by have h_ := HO164.out.1 _ e_.symm; first | exact h_ rfl | exact h_.1 rfl | exact h_.2 rfl | exact h_.1.1 rfl | exact h_.1.2 rfl | exact h_.2.1 rfl | exact h_.2.2 rfl | exact h_.1.1.1 rfl | exact h_.1.1.2 rfl | exact h_.1.2.1 rfl | exact h_.1.2.2 rfl | exact h_.2.1.1 rfl | exact h_.2.1.2 rfl | exact h_.2.2.1 rfl | exact h_.2.2.2 rfl | exact h_.1.1.1.1 rfl | exact h_.1.1.1.2 rfl | exact h_.1.1.2.1 rfl | exact h_.1.1.2.2 rfl | exact h_.1.2.1.1 rfl | exact h_.1.2.1.2 rfl | exact h_.1.2.2.1 rfl | exact h_.1.2.2.2 rfl | exact h_.2.1.1.1 rfl | exact h_.2.1.1.2 rfl | exact h_.2.1.2.1 rfl | exact h_.2.1.2.2 rfl | exact h_.2.2.1.1 rfl | exact h_.2.2.1.2 rfl | exact h_.2.2.2.1 rfl | exact h_.2.2.2.2 rfl | exact h_.1.1.1.1.1 rfl | exact h_.1.1.1.1.2 rfl | exact h_.1.1.1.2.1 rfl | exact h_.1.1.1.2.2 rfl | exact h_.1.1.2.1.1 rfl | exact h_.1.1.2.1.2 rfl | exact h_.1.1.2.2.1 rfl | exact h_.1.1.2.2.2 rfl | exact h_.1.2.1.1.1 rfl | exact h_.1.2.1.1.2 rfl | exact h_.1.2.1.2.1 rfl | exact h_.1.2.1.2.2 rfl | exact h_.1.2.2.1.1 rfl | exact h_.1.2.2.1.2 rfl | exact h_.1.2.2.2.1 rfl | exact h_.1.2.2.2.2 rfl | exact h_.2.1.1.1.1 rfl | exact h_.2.1.1.1.2 rfl | exact h_.2.1.1.2.1 rfl | exact h_.2.1.1.2.2 rfl | exact h_.2.1.2.1.1 rfl | exact h_.2.1.2.1.2 rfl | exact h_.2.1.2.2.1 rfl | exact h_.2.1.2.2.2 rfl | exact h_.2.2.1.1.1 rfl | exact h_.2.2.1.1.2 rfl | exact h_.2.2.1.2.1 rfl | exact h_.2.2.1.2.2 rfl | exact h_.2.2.2.1.1 rfl | exact h_.2.2.2.1.2 rfl | exact h_.2.2.2.2.1 rfl | exact h_.2.2.2.2.2 rfl)) | exact (fun e_ => by have h_ := HO164.out.1 _ e_.symm; first | exact h_ rfl | exact h_.1 rfl | exact h_.2 rfl | exact h_.1.1 rfl | exact h_.1.2 rfl | exact h_.2.1 rfl | exact h_.2.2 rfl | exact h_.1.1.1 rfl | exact h_.1.1.2 rfl | exact h_.1.2.1 rfl | exact h_.1.2.2 rfl | exact h_.2.1.1 rfl | exact h_.2.1.2 rfl | exact h_.2.2.1 rfl | exact h_.2.2.2 rfl | exact h_.1.1.1.1 rfl | exact h_.1.1.1.2 rfl | exact h_.1.1.2.1 rfl | exact h_.1.1.2.2 rfl | exact h_.1.2.1.1 rfl | exact h_.1.2.1.2 rfl | exact h_.1.2.2.1 rfl | exact h_.1.2.2.2 rfl | exact h_.2.1.1.1 rfl | exact h_.2.1.1.2 rfl | exact h_.2.1.2.1 rfl | exact h_.2.1.2.2 rfl | exact h_.2.2.1.1 rfl | exact h_.2.2.1.2 rfl | exact h_.2.2.2.1 rfl | exact h_.2.2.2.2 rfl | exact h_.1.1.1.1.1 rfl | exact h_.1.1.1.1.2 rfl | exact h_.1.1.1.2.1 rfl | exact h_.1.1.1.2.2 rfl | exact h_.1.1.2.1.1 rfl | exact h_.1.1.2.1.2 rfl | exact h_.1.1.2.2.1 rfl | exact h_.1.1.2.2.2 rfl | exact h_.1.2.1.1.1 rfl | exact h_.1.2.1.1.2 rfl | exact h_.1.2.1.2.1 rfl | exact h_.1.2.1.2.2 rfl | exact h_.1.2.2.1.1 rfl | exact h_.1.2.2.1.2 rfl | exact h_.1.2.2.2.1 rfl | exact h_.1.2.2.2.2 rfl | exact h_.2.1.1.1.1 rfl | exact h_.2.1.1.1.2 rfl | exact h_.2.1.1.2.1 rfl | exact h_.2.1.1.2.2 rfl | exact h_.2.1.2.1.1 rfl | exact h_.2.1.2.1.2 rfl | exact h_.2.1.2.2.1 rfl | exact h_.2.1.2.2.2 rfl | exact h_.2.2.1.1.1 rfl | exact h_.2.2.1.1.2 rfl | exact h_.2.2.1.2.1 rfl | exact h_.2.2.1.2.2 rfl | exact h_.2.2.2.1.1 rfl | exact h_.2.2.2.1.2 rfl | exact h_.2.2.2.2.1 rfl | exact h_.2.2.2.2.2 rfl)))
                                      (have HS1_ := cell_grown hg (hHeld.2) (by first | (rw [add_block]; exact (fun e_ => by have h_ := HO164.out.1 _ e_.symm; first | exact h_ rfl | exact h_.1 rfl | exact h_.2 rfl | exact h_.1.1 rfl | exact h_.1.2 rfl | exact h_.2.1 rfl | exact h_.2.2 rfl | exact h_.1.1.1 rfl | exact h_.1.1.2 rfl | exact h_.1.2.1 rfl | exact h_.1.2.2 rfl | exact h_.2.1.1 rfl | exact h_.2.1.2 rfl | exact h_.2.2.1 rfl | exact h_.2.2.2 rfl | exact h_.1.1.1.1 rfl | exact h_.1.1.1.2 rfl | exact h_.1.1.2.1 rfl | exact h_.1.1.2.2 rfl | exact h_.1.2.1.1 rfl | exact h_.1.2.1.2 rfl | exact h_.1.2.2.1 rfl | exact h_.1.2.2.2 rfl | exact h_.2.1.1.1 rfl | exact h_.2.1.1.2 rfl | exact h_.2.1.2.1 rfl | exact h_.2.1.2.2 rfl | exact h_.2.2.1.1 rfl | exact h_.2.2.1.2 rfl | exact h_.2.2.2.1 rfl | exact h_.2.2.2.2 rfl | exact h_.1.1.1.1.1 rfl | exact h_.1.1.1.1.2 rfl | exact h_.1.1.1.2.1 rfl | exact h_.1.1.1.2.2 rfl | exact h_.1.1.2.1.1 rfl | exact h_.1.1.2.1.2 rfl | exact h_.1.1.2.2.1 rfl | exact h_.1.1.2.2.2 rfl | exact h_.1.2.1.1.1 rfl | exact h_.1.2.1.1.2 rfl | exact h_.1.2.1.2.1 rfl | exact h_.1.2.1.2.2 rfl | exact h_.1.2.2.1.1 rfl | exact h_.1.2.2.1.2 rfl | exact h_.1.2.2.2.1 rfl | exact h_.1.2.2.2.2 rfl | exact h_.2.1.1.1.1 rfl | exact h_.2.1.1.1.2 rfl | exact h_.2.1.1.2.1 rfl | exact h_.2.1.1.2.2 rfl | exact h_.2.1.2.1.1 rfl | exact h_.2.1.2.1.2 rfl | exact h_.2.1.2.2.1 rfl | exact h_.2.1.2.2.2 rfl | exact h_.2.2.1.1.1 rfl | exact h_.2.2.1.1.2 rfl | exact h_.2.2.1.2.1 rfl | exact h_.2.2.1.2.2 rfl | exact h_.2.2.2.1.1 rfl | exact h_.2.2.2.1.2 rfl | exact h_.2.2.2.2.1 rfl | exact h_.2.2.2.2.2 rfl)) | (show some (Addr.add _ _).block ≠ _; rw [add_block]; exact (fun e_ => by have h_ := HO164.out.1 _ e_.symm; first | exact h_ rfl | exact h_.1 rfl | exact h_.2 rfl | exact h_.1.1 rfl | exact h_.1.2 rfl | exact h_.2.1 rfl | exact h_.2.2 rfl | exact h_.1.1.1 rfl | exact h_.1.1.2 rfl | exact h_.1.2.1 rfl | exact h_.1.2.2 rfl | exact h_.2.1.1 rfl | exact h_.2.1.2 rfl | exact h_.2.2.1 rfl | exact h_.2.2.2 rfl | exact h_.1.1.1.1 rfl | exact h_.1.1.1.2 rfl | exact h_.1.1.2.1 rfl | exact h_.1.1.2.2 rfl | exact h_.1.2.1.1 rfl | exact h_.1.2.1.2 rfl | exact h_.1.2.2.1 rfl | exact h_.1.2.2.2 rfl | exact h_.2.1.1.1 rfl | exact h_.2.1.1.2 rfl | exact h_.2.1.2.1 rfl | exact h_.2.1.2.2 rfl | exact h_.2.2.1.1 rfl | exact h_.2.2.1.2 rfl | exact h_.2.2.2.1 rfl | exact h_.2.2.2.2 rfl | exact h_.1.1.1.1.1 rfl | exact h_.1.1.1.1.2 rfl | exact h_.1.1.1.2.1 rfl | exact h_.1.1.1.2.2 rfl | exact h_.1.1.2.1.1 rfl | exact h_.1.1.2.1.2 rfl | exact h_.1.1.2.2.1 rfl | exact h_.1.1.2.2.2 rfl | exact h_.1.2.1.1.1 rfl | exact h_.1.2.1.1.2 rfl | exact h_.1.2.1.2.1 rfl | exact h_.1.2.1.2.2 rfl | exact h_.1.2.2.1.1 rfl | exact h_.1.2.2.1.2 rfl | exact h_.1.2.2.2.1 rfl | exact h_.1.2.2.2.2 rfl | exact h_.2.1.1.1.1 rfl | exact h_.2.1.1.1.2 rfl | exact h_.2.1.1.2.1 rfl | exact h_.2.1.1.2.2 rfl | exact h_.2.1.2.1.1 rfl | exact h_.2.1.2.1.2 rfl | exact h_.2.1.2.2.1 rfl | exact h_.2.1.2.2.2 rfl | exact h_.2.2.1.1.1 rfl | exact h_.2.2.1.1.2 rfl | exact h_.2.2.1.2.1 rfl | exact h_.2.2.1.2.2 rfl | exact h_.2.2.2.1.1 rfl | exact h_.2.2.2.1.2 rfl | exact h_.2.2.2.2.1 rfl | exact h_.2.2.2.2.2 rfl)) | exact (fun e_ => by have h_ := HO164.out.1 _ e_.symm; first | exact h_ rfl | exact h_.1 rfl | exact h_.2 rfl | exact h_.1.1 rfl | exact h_.1.2 rfl | exact h_.2.1 rfl | exact h_.2.2 rfl | exact h_.1.1.1 rfl | exact h_.1.1.2 rfl | exact h_.1.2.1 rfl | exact h_.1.2.2 rfl | exact h_.2.1.1 rfl | exact h_.2.1.2 rfl | exact h_.2.2.1 rfl | exact h_.2.2.2 rfl | exact h_.1.1.1.1 rfl | exact h_.1.1.1.2 rfl | exact h_.1.1.2.1 rfl | exact h_.1.1.2.2 rfl | exact h_.1.2.1.1 rfl | exact h_.1.2.1.2 rfl | exact h_.1.2.2.1 rfl | exact h_.1.2.2.2 rfl | exact h_.2.1.1.1 rfl | exact h_.2.1.1.2 rfl | exact h_.2.1.2.1 rfl | exact h_.2.1.2.2 rfl | exact h_.2.2.1.1 rfl | exact h_.2.2.1.2 rfl | exact h_.2.2.2.1 rfl | exact h_.2.2.2.2 rfl | exact h_.1.1.1.1.1 rfl | exact h_.1.1.1.1.2 rfl | exact h_.1.1.1.2.1 rfl | exact h_.1.1.1.2.2 rfl | exact h_.1.1.2.1.1 rfl | exact h_.1.1.2.1.2 rfl | exact h_.1.1.2.2.1 rfl | exact h_.1.1.2.2.2 rfl | exact h_.1.2.1.1.1 rfl | exact h_.1.2.1.1.2 rfl | exact h_.1.2.1.2.1 rfl | exact h_.1.2.1.2.2 rfl | exact h_.1.2.2.1.1 rfl | exact h_.1.2.2.1.2 rfl | exact h_.1.2.2.2.1 rfl | exact h_.1.2.2.2.2 rfl | exact h_.2.1.1.1.1 rfl | exact h_.2.1.1.1.2 rfl | exact h_.2.1.1.2.1 rfl | exact h_.2.1.1.2.2 rfl | exact h_.2.1.2.1.1 rfl | exact h_.2.1.2.1.2 rfl | exact h_.2.1.2.2.1 rfl | exact h_.2.1.2.2.2 rfl | exact h_.2.2.1.1.1 rfl | exact h_.2.2.1.1.2 rfl | exact h_.2.2.1.2.1 rfl | exact h_.2.2.1.2.2 rfl | exact h_.2.2.2.1.1 rfl | exact h_.2.2.2.1.2 rfl | exact h_.2.2.2.2.1 rfl | exact h_.2.2.2.2.2 rfl)))
                                      rw [← Ny169.out] at ho
                                      have n0_ := Aside0.mk (Kd.R_after (ok := (fun k_ => some k_ ≠ (.slice (some ad173) t150.length co18 : Value).ownBlock ∧ some k_ ≠ (v160 : Value).ownBlock ∧ some k_ ≠ (v175 : Value).ownBlock)) (by (with_reducible repeat (first | apply Kd.R_alloc | apply Kd.R_drewN | apply Kd.R_drew)); exact Kd.R_mono HO_5.out (fun _ hk => ⟨⟨hk.1.1.1, ⟨hk.1.1.2, hk.1.2⟩⟩, hk.2⟩)) hg hat)
                                      have n1_ := Aside0.mk (Kd.R_after (ok := (fun k_ => some k_ ≠ (.slice (some ad172) t147.length co16 : Value).ownBlock ∧ some k_ ≠ (v160 : Value).ownBlock ∧ some k_ ≠ (v175 : Value).ownBlock)) (by (with_reducible repeat (first | apply Kd.R_alloc | apply Kd.R_drewN | apply Kd.R_drew)); exact Kd.R_mono HO_6.out (fun _ hk => ⟨⟨hk.1.1.1, ⟨hk.1.1.2, hk.1.2⟩⟩, hk.2⟩)) hg hat)
                                      have n2_ := Aside0.mk (Kd.R_after (ok := (fun k_ => some k_ ≠ (.slice (some ad172) t147.length co16 : Value).ownBlock ∧ some k_ ≠ (.slice (some ad173) t150.length co18 : Value).ownBlock ∧ some k_ ≠ (v175 : Value).ownBlock)) (by (with_reducible repeat (first | apply Kd.R_alloc | apply Kd.R_drewN | apply Kd.R_drew)); exact Kd.R_mono HO_7.out (fun _ hk => ⟨⟨hk.1.1.1, ⟨hk.1.1.2, hk.1.2⟩⟩, hk.2⟩)) hg hat)
                                      have n3_ := Aside0.mk (Kd.R_after (ok := (fun k_ => some k_ ≠ (.slice (some ad172) t147.length co16 : Value).ownBlock ∧ some k_ ≠ (.slice (some ad173) t150.length co18 : Value).ownBlock ∧ some k_ ≠ (v160 : Value).ownBlock)) (by (with_reducible repeat (first | apply Kd.R_alloc | apply Kd.R_drewN | apply Kd.R_drew)); exact Kd.R_mono HO176.out (fun _ hk => ⟨⟨hk.1.1.1.2, ⟨hk.1.1.2, hk.1.2⟩⟩, hk.2⟩)) hg hat)
                                      have n4_ := Aside0.mk (hb)
                                      have n5_ := Aside0.mk ((show Kd.C Kd.string w45 (some ad172) y165.length y165 from by rw [Ny165.out]; exact Kd.C_take (m := ((ji26) : Int).toNat) ((Kd.R_reads' (Kd.R_after (ok := (fun k_ => some k_ ≠ (.slice (some ad173) t150.length co18 : Value).ownBlock ∧ some k_ ≠ (v160 : Value).ownBlock ∧ some k_ ≠ (v175 : Value).ownBlock)) (by (with_reducible repeat (first | apply Kd.R_alloc | apply Kd.R_drewN | apply Kd.R_drew)); exact Kd.R_mono HO_5.out (fun _ hk => ⟨⟨hk.1.1.1, ⟨hk.1.1.2, hk.1.2⟩⟩, hk.2⟩)) hg hat)).2.2) KL40.out))
                                      have n6_ := Aside0.mk (ho)
                                      clear HO_5
                                      clear HO_6
                                      clear HO_7
                                      clear HO176
                                      clear HB
                                      clear HR168
                                      clear HO164
                                      have HO_5 := n0_
                                      have HO_6 := n1_
                                      have HO_7 := n2_
                                      have HO176 := n3_
                                      have HB := n4_
                                      have HR168 := n5_
                                      have HO171 := n6_
                                      clear n0_ n1_ n2_ n3_ n4_ n5_ n6_
                                      clear ho hb hg hat
                                      refine hK.out _ _ ⟨HS0_, HS1_⟩ (fun hHeld => ?_)
                                      clear hK K
                                      refine norm_ (a' := ?_) ?_ ?_
                                      rotate_left
                                      · show Act.put _ (some 41) _ = _
                                        simp only [Act.put, List.setIfInBounds_toArray, List.set_cons_zero, List.set_cons_succ, i64_w, i32_w]
                                        rfl
                                      exact norm_ (by simp only [putAll, Act.put, List.setIfInBounds_toArray, List.set_cons_zero, List.set_cons_succ]) (hCont (v163, v170, v175) _ ⟨hHeld, (by (with_reducible repeat (first | apply Kd.R_alloc | apply Kd.R_drewN | apply Kd.R_drew)); exact Kd.R_mono HO171.out (fun _ hk => ⟨hk.2.2.2, ⟨hk.1, ⟨hk.2.1, hk.2.2.1⟩⟩⟩)), (by (with_reducible repeat (first | apply Kd.R_alloc | apply Kd.R_drewN | apply Kd.R_drew)); exact Kd.R_mono HO176.out (fun _ hk => ⟨hk.2, ⟨hk.1.1, ⟨hk.1.2.1, hk.1.2.2⟩⟩⟩)), (by (with_reducible repeat (first | apply Kd.R_alloc | apply Kd.R_drewN | apply Kd.R_drew)); exact Kd.R_mono HO_5.out (fun _ hk => ⟨hk.2, ⟨hk.1.2.2, ⟨hk.1.1, hk.1.2.1⟩⟩⟩)), (by (with_reducible repeat (first | apply Kd.R_alloc | apply Kd.R_drewN | apply Kd.R_drew)); exact Kd.R_mono HO_6.out (fun _ hk => ⟨hk.2, ⟨hk.1.2.2, ⟨hk.1.1, hk.1.2.1⟩⟩⟩)), (by (with_reducible repeat (first | apply Kd.R_alloc | apply Kd.R_drewN | apply Kd.R_drew)); exact Kd.R_mono HO_7.out (fun _ hk => ⟨hk.2, ⟨hk.1.2.2, ⟨hk.1.1, hk.1.2.1⟩⟩⟩)), (by repeat (first | (with_reducible first | exact HB.out | apply below_alloc | apply pw_below_drewN | apply below_drew1) | exact HB.out))⟩)
                                  rintro ⟨v163, v170, v175⟩ w46 ⟨hS_, h0_, h1_, h2_, h3_, h4_, h5_⟩
                                  have n0_ : Aside0 (Kd.R Kd.string 9 w46 w.heap.size (fun k_ => some k_ ≠ (v175 : Value).ownBlock ∧ some k_ ≠ (.slice (some ad172) t147.length co16 : Value).ownBlock ∧ some k_ ≠ (.slice (some ad173) t150.length co18 : Value).ownBlock ∧ some k_ ≠ (v160 : Value).ownBlock) v170 y169) := ⟨h0_⟩
                                  have n1_ : Aside0 (Kd.R Kd.string 9 w46 w.heap.size (fun k_ => some k_ ≠ (v170 : Value).ownBlock ∧ some k_ ≠ (.slice (some ad172) t147.length co16 : Value).ownBlock ∧ some k_ ≠ (.slice (some ad173) t150.length co18 : Value).ownBlock ∧ some k_ ≠ (v160 : Value).ownBlock) v175 y174) := ⟨h1_⟩
                                  have n2_ : Aside0 (Kd.R Kd.string 9 w46 w.heap.size (fun k_ => some k_ ≠ (v170 : Value).ownBlock ∧ some k_ ≠ (v175 : Value).ownBlock ∧ some k_ ≠ (.slice (some ad173) t150.length co18 : Value).ownBlock ∧ some k_ ≠ (v160 : Value).ownBlock) (.slice (some ad172) t147.length co16) t147) := ⟨h2_⟩
                                  have n3_ : Aside0 (Kd.R Kd.string 9 w46 w.heap.size (fun k_ => some k_ ≠ (v170 : Value).ownBlock ∧ some k_ ≠ (v175 : Value).ownBlock ∧ some k_ ≠ (.slice (some ad172) t147.length co16 : Value).ownBlock ∧ some k_ ≠ (v160 : Value).ownBlock) (.slice (some ad173) t150.length co18) t150) := ⟨h3_⟩
                                  have n4_ : Aside0 (Kd.R Kd.string 9 w46 w.heap.size (fun k_ => some k_ ≠ (v170 : Value).ownBlock ∧ some k_ ≠ (v175 : Value).ownBlock ∧ some k_ ≠ (.slice (some ad172) t147.length co16 : Value).ownBlock ∧ some k_ ≠ (.slice (some ad173) t150.length co18 : Value).ownBlock) v160 y159) := ⟨h4_⟩
                                  have n5_ : Aside0 (Below w.heap.size w w46) := ⟨h5_⟩
                                  clear HO_5
                                  clear HO_6
                                  clear HO_7
                                  clear HB
                                  clear h0_ h1_ h2_ h3_ h4_ h5_
                                  have HO171 := n0_
                                  have HO176 := n1_
                                  have HO_5 := n2_
                                  have HO_6 := n3_
                                  have HO_7 := n4_
                                  have HB := n5_
                                  clear n0_ n1_ n2_ n3_ n4_ n5_
                                  have hHeld : w46.cell? (ad172.add ((ji26)).toNat) = some (.string (rdOf ByteArray.empty t147 (ji26))) ∧ w46.cell? ad173 = some (.string (rdOf ByteArray.empty t150 0)) := hS_
                                  obtain ⟨Ao48, co48, eo48⟩ := Kd.R_slice HO176.out
                                  (first | subst eo48 | (injection eo48 with f1_ f2_ f3_; have f4_ := f1_.symm; have f5_ := f3_.symm; clear f1_ f2_ f3_; subst f4_; subst f5_))
                                  refine norm_ (a' := ?_) ?_ ?_
                                  rotate_left
                                  · simp only [putAll, Act.put, List.setIfInBounds_toArray, List.set_cons_zero, List.set_cons_succ]
                                    rfl
                                  refine one_ (i := 16) (N := some 52) #[true, true, true, true, true, true, true, true, true, true, true, true, true, true, true, true, true, false] rfl rfl (one_of HT_.out (by kernel_rfl)) (by decide) (fun K hK => ?_)
                                  refine Kd.R_append_rows_step Kd.string (w0 := w) w.heap.size (by rfl) (.tmp 41) (.tmp 51) 22 9 (.string ⟨#[]⟩) 16 rfl Tryd.underlying22 info9 rfl (by decide) (by omega) v170 y169 y174 _ _ _ (fun k_ => some k_ ≠ (.slice (some ad172) t147.length co16 : Value).ownBlock ∧ some k_ ≠ (.slice (some ad173) t150.length co18 : Value).ownBlock ∧ some k_ ≠ (v160 : Value).ownBlock ∧ some k_ ≠ (.slice Ao48 y174.length co48 : Value).ownBlock) (fun _ => False) rfl rfl ?aO ?aR (fun _ _ h => h) (fun _ h => h.elim) ?aF ?aB ?aS ?aL ?_
                                  (case aR => repeat (first | exact (Kd.R_reads' HO176.out).2.2 | (with_reducible refine Kd.C_alloc ?_ _) | (with_reducible refine Kd.C_drewN ?_ _) | (with_reducible refine Kd.C_drew ?_)))
                                  (case aB => exact (by repeat (first | (with_reducible first | exact HB.out | apply below_alloc | apply pw_below_drewN | apply below_drew1) | exact HB.out)))
                                  (case aF => exact (fun k_ hk => ⟨Kd.fresh' (Kd.R_lt (by (with_reducible repeat (first | apply Kd.R_alloc | apply Kd.R_drewN | apply Kd.R_drew)); exact HO_5.out)) k_ hk, Kd.fresh' (Kd.R_lt (by (with_reducible repeat (first | apply Kd.R_alloc | apply Kd.R_drewN | apply Kd.R_drew)); exact HO_6.out)) k_ hk, Kd.fresh' (Kd.R_lt (by (with_reducible repeat (first | apply Kd.R_alloc | apply Kd.R_drewN | apply Kd.R_drew)); exact HO_7.out)) k_ hk, Kd.fresh' (Kd.R_lt (by (with_reducible repeat (first | apply Kd.R_alloc | apply Kd.R_drewN | apply Kd.R_drew)); exact HO176.out)) k_ hk⟩))
                                  (case aO => exact (by (with_reducible repeat (first | apply Kd.R_alloc | apply Kd.R_drewN | apply Kd.R_drew)); exact Kd.R_mono HO171.out (fun _ hk => ⟨hk.2.1, ⟨hk.2.2.1, ⟨hk.2.2.2, hk.1⟩⟩⟩)))
                                  (case aS => exact (below_size (by repeat (first | (with_reducible first | exact HB.out | apply below_alloc | apply pw_below_drewN | apply below_drew1) | exact HB.out))))
                                  (case aL => have := LMc33.out; omega)
                                  intro v178 w47 ho hb hg hat
                                  (have HS0_ := cell_grown hg (hHeld.1) (by first | (rw [add_block]; exact (fun e_ => by have h_ := HO171.out.1 _ e_.symm; first | exact h_ rfl | exact h_.1 rfl | exact h_.2 rfl | exact h_.1.1 rfl | exact h_.1.2 rfl | exact h_.2.1 rfl | exact h_.2.2 rfl | exact h_.1.1.1 rfl | exact h_.1.1.2 rfl | exact h_.1.2.1 rfl | exact h_.1.2.2 rfl | exact h_.2.1.1 rfl | exact h_.2.1.2 rfl | exact h_.2.2.1 rfl | exact h_.2.2.2 rfl | exact h_.1.1.1.1 rfl | exact h_.1.1.1.2 rfl | exact h_.1.1.2.1 rfl | exact h_.1.1.2.2 rfl | exact h_.1.2.1.1 rfl | exact h_.1.2.1.2 rfl | exact h_.1.2.2.1 rfl | exact h_.1.2.2.2 rfl | exact h_.2.1.1.1 rfl | exact h_.2.1.1.2 rfl | exact h_.2.1.2.1 rfl | exact h_.2.1.2.2 rfl | exact h_.2.2.1.1 rfl | exact h_.2.2.1.2 rfl | exact h_.2.2.2.1 rfl | exact h_.2.2.2.2 rfl | exact h_.1.1.1.1.1 rfl | exact h_.1.1.1.1.2 rfl | exact h_.1.1.1.2.1 rfl | exact h_.1.1.1.2.2 rfl | exact h_.1.1.2.1.1 rfl | exact h_.1.1.2.1.2 rfl | exact h_.1.1.2.2.1 rfl | exact h_.1.1.2.2.2 rfl | exact h_.1.2.1.1.1 rfl | exact h_.1.2.1.1.2 rfl | exact h_.1.2.1.2.1 rfl | exact h_.1.2.1.2.2 rfl | exact h_.1.2.2.1.1 rfl | exact h_.1.2.2.1.2 rfl | exact h_.1.2.2.2.1 rfl | exact h_.1.2.2.2.2 rfl | exact h_.2.1.1.1.1 rfl | exact h_.2.1.1.1.2 rfl | exact h_.2.1.1.2.1 rfl | exact h_.2.1.1.2.2 rfl | exact h_.2.1.2.1.1 rfl | exact h_.2.1.2.1.2 rfl | exact h_.2.1.2.2.1 rfl | exact h_.2.1.2.2.2 rfl | exact h_.2.2.1.1.1 rfl | exact h_.2.2.1.1.2 rfl | exact h_.2.2.1.2.1 rfl | exact h_.2.2.1.2.2 rfl | exact h_.2.2.2.1.1 rfl | exact h_.2.2.2.1.2 rfl | exact h_.2.2.2.2.1 rfl | exact h_.2.2.2.2.2 rfl)) | (show some (Addr.add _ _).block ≠ _; rw [add_block]; exact (fun e_ => by have h_ := HO171.out.1 _ e_.symm; first | exact h_ rfl | exact h_.1 rfl | exact h_.2 rfl | exact h_.1.1 rfl | exact h_.1.2 rfl | exact h_.2.1 rfl | exact h_.2.2 rfl | exact h_.1.1.1 rfl | exact h_.1.1.2 rfl | exact h_.1.2.1 rfl | exact h_.1.2.2 rfl | exact h_.2.1.1 rfl | exact h_.2.1.2 rfl | exact h_.2.2.1 rfl | exact h_.2.2.2 rfl | exact h_.1.1.1.1 rfl | exact h_.1.1.1.2 rfl | exact h_.1.1.2.1 rfl | exact h_.1.1.2.2 rfl | exact h_.1.2.1.1 rfl | exact h_.1.2.1.2 rfl | exact h_.1.2.2.1 rfl | exact h_.1.2.2.2 rfl | exact h_.2.1.1.1 rfl | exact h_.2.1.1.2 rfl | exact h_.2.1.2.1 rfl | exact h_.2.1.2.2 rfl | exact h_.2.2.1.1 rfl | exact h_.2.2.1.2 rfl | exact h_.2.2.2.1 rfl | exact h_.2.2.2.2 rfl | exact h_.1.1.1.1.1 rfl | exact h_.1.1.1.1.2 rfl | exact h_.1.1.1.2.1 rfl | exact h_.1.1.1.2.2 rfl | exact h_.1.1.2.1.1 rfl | exact h_.1.1.2.1.2 rfl | exact h_.1.1.2.2.1 rfl | exact h_.1.1.2.2.2 rfl | exact h_.1.2.1.1.1 rfl | exact h_.1.2.1.1.2 rfl | exact h_.1.2.1.2.1 rfl | exact h_.1.2.1.2.2 rfl | exact h_.1.2.2.1.1 rfl | exact h_.1.2.2.1.2 rfl | exact h_.1.2.2.2.1 rfl | exact h_.1.2.2.2.2 rfl | exact h_.2.1.1.1.1 rfl | exact h_.2.1.1.1.2 rfl | exact h_.2.1.1.2.1 rfl | exact h_.2.1.1.2.2 rfl | exact h_.2.1.2.1.1 rfl | exact h_.2.1.2.1.2 rfl | exact h_.2.1.2.2.1 rfl | exact h_.2.1.2.2.2 rfl | exact h_.2.2.1.1.1 rfl | exact h_.2.2.1.1.2 rfl | exact h_.2.2.1.2.1 rfl | exact h_.2.2.1.2.2 rfl | exact h_.2.2.2.1.1 rfl | exact h_.2.2.2.1.2 rfl | exact h_.2.2.2.2.1 rfl | exact h_.2.2.2.2.2 rfl)) | exact (fun e_ => by have h_ := HO171.out.1 _ e_.symm; first | exact h_ rfl | exact h_.1 rfl | exact h_.2 rfl | exact h_.1.1 rfl | exact h_.1.2 rfl | exact h_.2.1 rfl | exact h_.2.2 rfl | exact h_.1.1.1 rfl | exact h_.1.1.2 rfl | exact h_.1.2.1 rfl | exact h_.1.2.2 rfl | exact h_.2.1.1 rfl | exact h_.2.1.2 rfl | exact h_.2.2.1 rfl | exact h_.2.2.2 rfl | exact h_.1.1.1.1 rfl | exact h_.1.1.1.2 rfl | exact h_.1.1.2.1 rfl | exact h_.1.1.2.2 rfl | exact h_.1.2.1.1 rfl | exact h_.1.2.1.2 rfl | exact h_.1.2.2.1 rfl | exact h_.1.2.2.2 rfl | exact h_.2.1.1.1 rfl | exact h_.2.1.1.2 rfl | exact h_.2.1.2.1 rfl | exact h_.2.1.2.2 rfl | exact h_.2.2.1.1 rfl | exact h_.2.2.1.2 rfl | exact h_.2.2.2.1 rfl | exact h_.2.2.2.2 rfl | exact h_.1.1.1.1.1 rfl | exact h_.1.1.1.1.2 rfl | exact h_.1.1.1.2.1 rfl | exact h_.1.1.1.2.2 rfl | exact h_.1.1.2.1.1 rfl | exact h_.1.1.2.1.2 rfl | exact h_.1.1.2.2.1 rfl | exact h_.1.1.2.2.2 rfl | exact h_.1.2.1.1.1 rfl | exact h_.1.2.1.1.2 rfl | exact h_.1.2.1.2.1 rfl | exact h_.1.2.1.2.2 rfl | exact h_.1.2.2.1.1 rfl | exact h_.1.2.2.1.2 rfl | exact h_.1.2.2.2.1 rfl | exact h_.1.2.2.2.2 rfl | exact h_.2.1.1.1.1 rfl | exact h_.2.1.1.1.2 rfl | exact h_.2.1.1.2.1 rfl | exact h_.2.1.1.2.2 rfl | exact h_.2.1.2.1.1 rfl | exact h_.2.1.2.1.2 rfl | exact h_.2.1.2.2.1 rfl | exact h_.2.1.2.2.2 rfl | exact h_.2.2.1.1.1 rfl | exact h_.2.2.1.1.2 rfl | exact h_.2.2.1.2.1 rfl | exact h_.2.2.1.2.2 rfl | exact h_.2.2.2.1.1 rfl | exact h_.2.2.2.1.2 rfl | exact h_.2.2.2.2.1 rfl | exact h_.2.2.2.2.2 rfl)))
                                  (have HS1_ := cell_grown hg (hHeld.2) (by first | (rw [add_block]; exact (fun e_ => by have h_ := HO171.out.1 _ e_.symm; first | exact h_ rfl | exact h_.1 rfl | exact h_.2 rfl | exact h_.1.1 rfl | exact h_.1.2 rfl | exact h_.2.1 rfl | exact h_.2.2 rfl | exact h_.1.1.1 rfl | exact h_.1.1.2 rfl | exact h_.1.2.1 rfl | exact h_.1.2.2 rfl | exact h_.2.1.1 rfl | exact h_.2.1.2 rfl | exact h_.2.2.1 rfl | exact h_.2.2.2 rfl | exact h_.1.1.1.1 rfl | exact h_.1.1.1.2 rfl | exact h_.1.1.2.1 rfl | exact h_.1.1.2.2 rfl | exact h_.1.2.1.1 rfl | exact h_.1.2.1.2 rfl | exact h_.1.2.2.1 rfl | exact h_.1.2.2.2 rfl | exact h_.2.1.1.1 rfl | exact h_.2.1.1.2 rfl | exact h_.2.1.2.1 rfl | exact h_.2.1.2.2 rfl | exact h_.2.2.1.1 rfl | exact h_.2.2.1.2 rfl | exact h_.2.2.2.1 rfl | exact h_.2.2.2.2 rfl | exact h_.1.1.1.1.1 rfl | exact h_.1.1.1.1.2 rfl | exact h_.1.1.1.2.1 rfl | exact h_.1.1.1.2.2 rfl | exact h_.1.1.2.1.1 rfl | exact h_.1.1.2.1.2 rfl | exact h_.1.1.2.2.1 rfl | exact h_.1.1.2.2.2 rfl | exact h_.1.2.1.1.1 rfl | exact h_.1.2.1.1.2 rfl | exact h_.1.2.1.2.1 rfl | exact h_.1.2.1.2.2 rfl | exact h_.1.2.2.1.1 rfl | exact h_.1.2.2.1.2 rfl | exact h_.1.2.2.2.1 rfl | exact h_.1.2.2.2.2 rfl | exact h_.2.1.1.1.1 rfl | exact h_.2.1.1.1.2 rfl | exact h_.2.1.1.2.1 rfl | exact h_.2.1.1.2.2 rfl | exact h_.2.1.2.1.1 rfl | exact h_.2.1.2.1.2 rfl | exact h_.2.1.2.2.1 rfl | exact h_.2.1.2.2.2 rfl | exact h_.2.2.1.1.1 rfl | exact h_.2.2.1.1.2 rfl | exact h_.2.2.1.2.1 rfl | exact h_.2.2.1.2.2 rfl | exact h_.2.2.2.1.1 rfl | exact h_.2.2.2.1.2 rfl | exact h_.2.2.2.2.1 rfl | exact h_.2.2.2.2.2 rfl)) | (show some (Addr.add _ _).block ≠ _; rw [add_block]; exact (fun e_ => by have h_ := HO171.out.1 _ e_.symm; first | exact h_ rfl | exact h_.1 rfl | exact h_.2 rfl | exact h_.1.1 rfl | exact h_.1.2 rfl | exact h_.2.1 rfl | exact h_.2.2 rfl | exact h_.1.1.1 rfl | exact h_.1.1.2 rfl | exact h_.1.2.1 rfl | exact h_.1.2.2 rfl | exact h_.2.1.1 rfl | exact h_.2.1.2 rfl | exact h_.2.2.1 rfl | exact h_.2.2.2 rfl | exact h_.1.1.1.1 rfl | exact h_.1.1.1.2 rfl | exact h_.1.1.2.1 rfl | exact h_.1.1.2.2 rfl | exact h_.1.2.1.1 rfl | exact h_.1.2.1.2 rfl | exact h_.1.2.2.1 rfl | exact h_.1.2.2.2 rfl | exact h_.2.1.1.1 rfl | exact h_.2.1.1.2 rfl | exact h_.2.1.2.1 rfl | exact h_.2.1.2.2 rfl | exact h_.2.2.1.1 rfl | exact h_.2.2.1.2 rfl | exact h_.2.2.2.1 rfl | exact h_.2.2.2.2 rfl | exact h_.1.1.1.1.1 rfl | exact h_.1.1.1.1.2 rfl | exact h_.1.1.1.2.1 rfl | exact h_.1.1.1.2.2 rfl | exact h_.1.1.2.1.1 rfl | exact h_.1.1.2.1.2 rfl | exact h_.1.1.2.2.1 rfl | exact h_.1.1.2.2.2 rfl | exact h_.1.2.1.1.1 rfl | exact h_.1.2.1.1.2 rfl | exact h_.1.2.1.2.1 rfl | exact h_.1.2.1.2.2 rfl | exact h_.1.2.2.1.1 rfl | exact h_.1.2.2.1.2 rfl | exact h_.1.2.2.2.1 rfl | exact h_.1.2.2.2.2 rfl | exact h_.2.1.1.1.1 rfl | exact h_.2.1.1.1.2 rfl | exact h_.2.1.1.2.1 rfl | exact h_.2.1.1.2.2 rfl | exact h_.2.1.2.1.1 rfl | exact h_.2.1.2.1.2 rfl | exact h_.2.1.2.2.1 rfl | exact h_.2.1.2.2.2 rfl | exact h_.2.2.1.1.1 rfl | exact h_.2.2.1.1.2 rfl | exact h_.2.2.1.2.1 rfl | exact h_.2.2.1.2.2 rfl | exact h_.2.2.2.1.1 rfl | exact h_.2.2.2.1.2 rfl | exact h_.2.2.2.2.1 rfl | exact h_.2.2.2.2.2 rfl)) | exact (fun e_ => by have h_ := HO171.out.1 _ e_.symm; first | exact h_ rfl | exact h_.1 rfl | exact h_.2 rfl | exact h_.1.1 rfl | exact h_.1.2 rfl | exact h_.2.1 rfl | exact h_.2.2 rfl | exact h_.1.1.1 rfl | exact h_.1.1.2 rfl | exact h_.1.2.1 rfl | exact h_.1.2.2 rfl | exact h_.2.1.1 rfl | exact h_.2.1.2 rfl | exact h_.2.2.1 rfl | exact h_.2.2.2 rfl | exact h_.1.1.1.1 rfl | exact h_.1.1.1.2 rfl | exact h_.1.1.2.1 rfl | exact h_.1.1.2.2 rfl | exact h_.1.2.1.1 rfl | exact h_.1.2.1.2 rfl | exact h_.1.2.2.1 rfl | exact h_.1.2.2.2 rfl | exact h_.2.1.1.1 rfl | exact h_.2.1.1.2 rfl | exact h_.2.1.2.1 rfl | exact h_.2.1.2.2 rfl | exact h_.2.2.1.1 rfl | exact h_.2.2.1.2 rfl | exact h_.2.2.2.1 rfl | exact h_.2.2.2.2 rfl | exact h_.1.1.1.1.1 rfl | exact h_.1.1.1.1.2 rfl | exact h_.1.1.1.2.1 rfl | exact h_.1.1.1.2.2 rfl | exact h_.1.1.2.1.1 rfl | exact h_.1.1.2.1.2 rfl | exact h_.1.1.2.2.1 rfl | exact h_.1.1.2.2.2 rfl | exact h_.1.2.1.1.1 rfl | exact h_.1.2.1.1.2 rfl | exact h_.1.2.1.2.1 rfl | exact h_.1.2.1.2.2 rfl | exact h_.1.2.2.1.1 rfl | exact h_.1.2.2.1.2 rfl | exact h_.1.2.2.2.1 rfl | exact h_.1.2.2.2.2 rfl | exact h_.2.1.1.1.1 rfl | exact h_.2.1.1.1.2 rfl | exact h_.2.1.1.2.1 rfl | exact h_.2.1.1.2.2 rfl | exact h_.2.1.2.1.1 rfl | exact h_.2.1.2.1.2 rfl | exact h_.2.1.2.2.1 rfl | exact h_.2.1.2.2.2 rfl | exact h_.2.2.1.1.1 rfl | exact h_.2.2.1.1.2 rfl | exact h_.2.2.1.2.1 rfl | exact h_.2.2.1.2.2 rfl | exact h_.2.2.2.1.1 rfl | exact h_.2.2.2.1.2 rfl | exact h_.2.2.2.2.1 rfl | exact h_.2.2.2.2.2 rfl)))
                                  rw [← Ny177.out] at ho
                                  have n0_ := Aside0.mk (Kd.R_after (ok := (fun k_ => some k_ ≠ (.slice (some ad173) t150.length co18 : Value).ownBlock ∧ some k_ ≠ (v160 : Value).ownBlock ∧ some k_ ≠ (.slice Ao48 y174.length co48 : Value).ownBlock)) (by (with_reducible repeat (first | apply Kd.R_alloc | apply Kd.R_drewN | apply Kd.R_drew)); exact Kd.R_mono HO_5.out (fun _ hk => ⟨⟨hk.2.2.1, ⟨hk.2.2.2, hk.2.1⟩⟩, hk.1⟩)) hg hat)
                                  have n1_ := Aside0.mk (Kd.R_after (ok := (fun k_ => some k_ ≠ (.slice (some ad172) t147.length co16 : Value).ownBlock ∧ some k_ ≠ (v160 : Value).ownBlock ∧ some k_ ≠ (.slice Ao48 y174.length co48 : Value).ownBlock)) (by (with_reducible repeat (first | apply Kd.R_alloc | apply Kd.R_drewN | apply Kd.R_drew)); exact Kd.R_mono HO_6.out (fun _ hk => ⟨⟨hk.2.2.1, ⟨hk.2.2.2, hk.2.1⟩⟩, hk.1⟩)) hg hat)
                                  have n2_ := Aside0.mk (Kd.R_after (ok := (fun k_ => some k_ ≠ (.slice (some ad172) t147.length co16 : Value).ownBlock ∧ some k_ ≠ (.slice (some ad173) t150.length co18 : Value).ownBlock ∧ some k_ ≠ (.slice Ao48 y174.length co48 : Value).ownBlock)) (by (with_reducible repeat (first | apply Kd.R_alloc | apply Kd.R_drewN | apply Kd.R_drew)); exact Kd.R_mono HO_7.out (fun _ hk => ⟨⟨hk.2.2.1, ⟨hk.2.2.2, hk.2.1⟩⟩, hk.1⟩)) hg hat)
                                  have n3_ := Aside0.mk (Kd.R_after (ok := (fun k_ => some k_ ≠ (.slice (some ad172) t147.length co16 : Value).ownBlock ∧ some k_ ≠ (.slice (some ad173) t150.length co18 : Value).ownBlock ∧ some k_ ≠ (v160 : Value).ownBlock)) (by (with_reducible repeat (first | apply Kd.R_alloc | apply Kd.R_drewN | apply Kd.R_drew)); exact Kd.R_mono HO176.out (fun _ hk => ⟨⟨hk.2.1, ⟨hk.2.2.1, hk.2.2.2⟩⟩, hk.1⟩)) hg hat)
                                  have n4_ := Aside0.mk (hb)
                                  have n5_ := Aside0.mk (ho)
                                  clear HO_5
                                  clear HO_6
                                  clear HO_7
                                  clear HO176
                                  clear HB
                                  clear HO171
                                  have HO_5 := n0_
                                  have HO_6 := n1_
                                  have HO_7 := n2_
                                  have HO176 := n3_
                                  have HB := n4_
                                  have HO179 := n5_
                                  clear n0_ n1_ n2_ n3_ n4_ n5_
                                  clear ho hb hg hat
                                  refine hK.out _ _ ⟨HS0_, HS1_⟩ (fun hHeld => ?_)
                                  clear hK K
                                  refine norm_ (a' := ?_) ?_ ?_
                                  rotate_left
                                  · show Act.put _ (some 52) _ = _
                                    simp only [Act.put, List.setIfInBounds_toArray, List.set_cons_zero, List.set_cons_succ, i64_w, i32_w]
                                    rfl
                                  refine pure_ (i := 17) (N := some 7) (v := ?_) (a' := ?_) #[true, true, true, true, true, true, true, true, true, true, true, true, true, true, true, true, true, true] rfl rfl (any_of HT_.out (by kernel_rfl)) (fun _ _ _ h => h) (Or.inl ⟨by rfl, ?_⟩) ?_ ?_
                                  rotate_left
                                  · intro w'
                                    go_simp
                                    with_reducible rfl
                                  rotate_left
                                  · simp only [Act.put, List.setIfInBounds_toArray, List.set_cons_zero, List.set_cons_succ, i64_w, i32_w]
                                    rfl
                                  refine done_ (done_of HT_.out (by kernel_rfl)) ?_
                                  have q49 : (1 : Int) ≤ ((t150.length : Int) : Int) := of_decide_eq_true (by first | (with_reducible assumption) | assumption)
                                  obtain ⟨i049, hi049, _, hsz49, _⟩ := info_parts info9
                                  have hroom49 : t150.length ≤ co18 := (Kd.R_reads' HO_6.out).2.1
                                  have hC49 : Kd.C Kd.string _ (some ad173) t150.length t150 := (Kd.R_reads' HO_6.out).2.2
                                  have hcut49 := cut_from (P := Tryd.prog) 22 9 .i64 Tryd.underlying22 hi049 1 hsz49 (some ad173) t150.length co18 1 (by omega) q49
                                  have hr49 := Kd.C_drop (m := (1 : Int).toNat) (c := co18) hC49 (by omega) hroom49
                                  obtain ⟨A49, hA49⟩ : ∃ A1, A1 = (if co18 = (1 : Int).toNat then (some ad173) else ((some ad173) : Option Addr).map (·.add ((1 : Int).toNat * 1))) := ⟨_, rfl⟩
                                  obtain ⟨c49, hc49⟩ : ∃ c1, c1 = co18 - (1 : Int).toNat := ⟨_, rfl⟩
                                  have hy49 : y180.length = t150.length - (1 : Int).toNat := (by rw [Ny180.out, List.length_drop] <;> omega)
                                  rw [show (t150).drop (1 : Int).toNat = y180 from Ny180.out.symm] at hr49
                                  replace hr49 : Kd.C Kd.string _ A49 y180.length y180 := (by rw [hA49]; exact hr49)
                                  rw [← hy49, ← hA49, ← hc49] at hcut49
                                  have HR183 := Aside0.mk hr49
                                  have HC183 := Aside0.mk (show y180.length ≤ c49 from by rw [hy49, hc49]; exact Nat.sub_le_sub_right hroom49 _)
                                  clear hr49 hC49 hroom49 hi049 hsz49 hc49
                                  have KY49 := Aside0.mk hy49
                                  have KA49 := Aside0.mk hA49
                                  clear hy49 hA49
                                  have KL49 := Aside0.mk (show 1 ≤ t150.length from by omega)
                                  replace q49 := eq_true q49
                                  try go_wp2_with (first | ((with_reducible refine gate_builtin (b := .append) (xs := #[.tmp 53, .tmp 55]) rfl ?_); (try (refine gate_guard (by rfl) ?_; dsimp only)); at_builtin; refine Kd.R_append_rows Kd.string (w0 := w) w.heap.size rfl (.tmp 53) (.tmp 55) 22 9 (.string ⟨#[]⟩) 16 rfl Tryd.underlying22 info9 rfl (by decide) (by omega) v178 y177 y180 _ _ _ (fun k_ => some k_ ≠ (.slice (some ad172) t147.length co16 : Value).ownBlock ∧ some k_ ≠ (.slice (some ad173) t150.length co18 : Value).ownBlock ∧ some k_ ≠ (v160 : Value).ownBlock ∧ some k_ ≠ (.slice Ao48 y174.length co48 : Value).ownBlock) (fun _ => False) rfl rfl ?aO ?aR (fun _ _ h => h) (fun _ h => h.elim) ?aF ?aB ?aS ?aL ?_; (case aR => repeat (first | exact (by repeat (first | (with_reducible exact HR183.out) | (with_reducible refine Kd.C_alloc ?_ _) | (with_reducible refine Kd.C_drewN ?_ _) | (with_reducible refine Kd.C_drew ?_) | exact HR183.out)) | (with_reducible refine Kd.C_alloc ?_ _) | (with_reducible refine Kd.C_drewN ?_ _) | (with_reducible refine Kd.C_drew ?_))); (case aB => exact (by repeat (first | (with_reducible first | exact HB.out | apply below_alloc | apply pw_below_drewN | apply below_drew1) | exact HB.out))); (case aF => exact (fun k_ hk => ⟨Kd.fresh' (Kd.R_lt (by (with_reducible repeat (first | apply Kd.R_alloc | apply Kd.R_drewN | apply Kd.R_drew)); exact HO_5.out)) k_ hk, Kd.fresh' (Kd.R_lt (by (with_reducible repeat (first | apply Kd.R_alloc | apply Kd.R_drewN | apply Kd.R_drew)); exact HO_6.out)) k_ hk, Kd.fresh' (Kd.R_lt (by (with_reducible repeat (first | apply Kd.R_alloc | apply Kd.R_drewN | apply Kd.R_drew)); exact HO_7.out)) k_ hk, Kd.fresh' (Kd.R_lt (by (with_reducible repeat (first | apply Kd.R_alloc | apply Kd.R_drewN | apply Kd.R_drew)); exact HO176.out)) k_ hk⟩)); (case aO => exact (by (with_reducible repeat (first | apply Kd.R_alloc | apply Kd.R_drewN | apply Kd.R_drew)); exact HO179.out)); (case aS => exact (below_size (by repeat (first | (with_reducible first | exact HB.out | apply below_alloc | apply pw_below_drewN | apply below_drew1) | exact HB.out)))); (case aL => have := LMc35.out; omega); intro v185 w50 ho hb hg hat; rw [← Ny184.out] at ho; have n0_ := Aside0.mk (Kd.R_after (ok := (fun k_ => some k_ ≠ (.slice (some ad173) t150.length co18 : Value).ownBlock ∧ some k_ ≠ (v160 : Value).ownBlock ∧ some k_ ≠ (.slice Ao48 y174.length co48 : Value).ownBlock)) (by (with_reducible repeat (first | apply Kd.R_alloc | apply Kd.R_drewN | apply Kd.R_drew)); exact HO_5.out) hg hat); have n1_ := Aside0.mk (Kd.R_after (ok := (fun k_ => some k_ ≠ (.slice (some ad172) t147.length co16 : Value).ownBlock ∧ some k_ ≠ (v160 : Value).ownBlock ∧ some k_ ≠ (.slice Ao48 y174.length co48 : Value).ownBlock)) (by (with_reducible repeat (first | apply Kd.R_alloc | apply Kd.R_drewN | apply Kd.R_drew)); exact HO_6.out) hg hat); have n2_ := Aside0.mk (Kd.R_after (ok := (fun k_ => some k_ ≠ (.slice (some ad172) t147.length co16 : Value).ownBlock ∧ some k_ ≠ (.slice (some ad173) t150.length co18 : Value).ownBlock ∧ some k_ ≠ (.slice Ao48 y174.length co48 : Value).ownBlock)) (by (with_reducible repeat (first | apply Kd.R_alloc | apply Kd.R_drewN | apply Kd.R_drew)); exact HO_7.out) hg hat); have n3_ := Aside0.mk (Kd.R_after (ok := (fun k_ => some k_ ≠ (.slice (some ad172) t147.length co16 : Value).ownBlock ∧ some k_ ≠ (.slice (some ad173) t150.length co18 : Value).ownBlock ∧ some k_ ≠ (v160 : Value).ownBlock)) (by (with_reducible repeat (first | apply Kd.R_alloc | apply Kd.R_drewN | apply Kd.R_drew)); exact HO176.out) hg hat); have n4_ := Aside0.mk (hb); have n5_ := Aside0.mk ((show Kd.C Kd.string w50 A49 y180.length y180 from by rw [Ny180.out, KA49.out]; exact Kd.C_drop (m := 1) (c := co18) ((Kd.R_reads' (Kd.R_after (ok := (fun k_ => some k_ ≠ (.slice (some ad172) t147.length co16 : Value).ownBlock ∧ some k_ ≠ (v160 : Value).ownBlock ∧ some k_ ≠ (.slice Ao48 y174.length co48 : Value).ownBlock)) (by (with_reducible repeat (first | apply Kd.R_alloc | apply Kd.R_drewN | apply Kd.R_drew)); exact HO_6.out) hg hat)).2.2) KL49.out ((Kd.R_reads' (Kd.R_after (ok := (fun k_ => some k_ ≠ (.slice (some ad172) t147.length co16 : Value).ownBlock ∧ some k_ ≠ (v160 : Value).ownBlock ∧ some k_ ≠ (.slice Ao48 y174.length co48 : Value).ownBlock)) (by (with_reducible repeat (first | apply Kd.R_alloc | apply Kd.R_drewN | apply Kd.R_drew)); exact HO_6.out) hg hat)).2.1))); have n6_ := Aside0.mk (ho); clear HO_5; clear HO_6; clear HO_7; clear HO176; clear HB; clear HR183; clear HO179; have HO_5 := n0_; have HO_6 := n1_; have HO_7 := n2_; have HO176 := n3_; have HB := n4_; have HR183 := n5_; have HO186 := n6_; clear n0_ n1_ n2_ n3_ n4_ n5_ n6_; clear ho hb hg hat) | ((with_reducible refine gate_callee (f := 7) rfl ?_); refine goesL_ (some 60) rfl rfl Tryd.func7 (by kernel_rfl) rfl #[.string (a0 ++ a1)] rfl (by (try simp only [List.map_toArray, List.map_cons, List.map_nil]); first | done | rfl | (simp only [List.length_drop, List.length_take]; rfl)) ?_; (with_reducible refine (lines_Split.calls (a0 ++ a1) t187 _ A37.out).mono ?_); rintro e w51 ⟨v188, rfl, ho0, hb⟩; refine ⟨_, rfl, ?_⟩; have n0_ := Aside0.mk (Kd.R_elder' (by (with_reducible repeat (first | apply Kd.R_alloc | apply Kd.R_drewN | apply Kd.R_drew)); exact HO_5.out) (Kd.R_base ho0) hb); have n1_ := Aside0.mk (Kd.R_elder' (by (with_reducible repeat (first | apply Kd.R_alloc | apply Kd.R_drewN | apply Kd.R_drew)); exact HO_6.out) (Kd.R_base ho0) hb); have n2_ := Aside0.mk (Kd.R_elder' (by (with_reducible repeat (first | apply Kd.R_alloc | apply Kd.R_drewN | apply Kd.R_drew)); exact HO_7.out) (Kd.R_base ho0) hb); have n3_ := Aside0.mk (Kd.R_elder' (by (with_reducible repeat (first | apply Kd.R_alloc | apply Kd.R_drewN | apply Kd.R_drew)); exact HO176.out) (Kd.R_base ho0) hb); have n4_ := Aside0.mk (Kd.R_elder' (by (with_reducible repeat (first | apply Kd.R_alloc | apply Kd.R_drewN | apply Kd.R_drew)); exact HO186.out) (Kd.R_base ho0) hb); have n5_ := Aside0.mk (Kd.R_lower (Kd.R_new' (Kd.R_new' (Kd.R_new' (Kd.R_new' (Kd.R_new' ho0 (Kd.R_lt (by (with_reducible repeat (first | apply Kd.R_alloc | apply Kd.R_drewN | apply Kd.R_drew)); exact HO_5.out))) (Kd.R_lt (by (with_reducible repeat (first | apply Kd.R_alloc | apply Kd.R_drewN | apply Kd.R_drew)); exact HO_6.out))) (Kd.R_lt (by (with_reducible repeat (first | apply Kd.R_alloc | apply Kd.R_drewN | apply Kd.R_drew)); exact HO_7.out))) (Kd.R_lt (by (with_reducible repeat (first | apply Kd.R_alloc | apply Kd.R_drewN | apply Kd.R_drew)); exact HO176.out))) (Kd.R_lt (by (with_reducible repeat (first | apply Kd.R_alloc | apply Kd.R_drewN | apply Kd.R_drew)); exact HO186.out))) (below_size (by repeat (first | (with_reducible first | exact HB.out | apply below_alloc | apply pw_below_drewN | apply below_drew1) | exact HB.out)))); have n6_ := Aside0.mk (Kd.C_below (by repeat (first | (with_reducible exact HR183.out) | (with_reducible refine Kd.C_alloc ?_ _) | (with_reducible refine Kd.C_drewN ?_ _) | (with_reducible refine Kd.C_drew ?_) | exact HR183.out)) hb); have n7_ := Aside0.mk (below_step (by repeat (first | (with_reducible first | exact HB.out | apply below_alloc | apply pw_below_drewN | apply below_drew1) | exact HB.out)) hb); clear HO_5; clear HO_6; clear HO_7; clear HO176; clear HO186; clear HR183; clear HB; have HO_5 := n0_; have HO_6 := n1_; have HO_7 := n2_; have HO176 := n3_; have HO186 := n4_; have HO189 := n5_; have HR183 := n6_; have HB := n7_; clear n0_ n1_ n2_ n3_ n4_ n5_ n6_ n7_; (try clear hb); (try clear hb2); (try clear hk); (try clear hi); (try clear ho0); obtain ⟨Ao52, co52, eo52⟩ := Kd.R_slice HO189.out; subst eo52; obtain ⟨Ao53, co53, eo53⟩ := Kd.R_slice HO186.out; subst eo53) | ((with_reducible refine gate_callee (f := 8) rfl ?_); refine goesL_ (some 62) rfl rfl Tryd.func8 (by kernel_rfl) rfl #[.slice Ao52 t187.length co52, .slice Ao53 y184.length co53] rfl (by (try simp only [List.map_toArray, List.map_cons, List.map_nil]); first | done | rfl | (simp only [List.length_drop, List.length_take]; rfl)) ?_; (with_reducible refine (redlineref01_SameStrings.calls kj8 _ _ t187 _ _ y184 t190 _ ?side1 ?side2 ?side3 ?side4 A38.out).mono ?_); (case side1 => repeat (first | exact (Kd.R_reads' HO189.out).2.2 | (with_reducible refine Kd.C_alloc ?_ _) | (with_reducible refine Kd.C_drewN ?_ _) | (with_reducible refine Kd.C_drew ?_))); (case side2 => exact (Kd.R_reads' HO189.out).2.1); (case side3 => repeat (first | exact (Kd.R_reads' HO186.out).2.2 | (with_reducible refine Kd.C_alloc ?_ _) | (with_reducible refine Kd.C_drewN ?_ _) | (with_reducible refine Kd.C_drew ?_))); (case side4 => exact (Kd.R_reads' HO186.out).2.1); rintro e w' ⟨rfl, ⟨nd, rfl⟩⟩; refine ⟨_, rfl, ?_⟩))
                                  go_ret
                                  exact ⟨by first | rfl | (simp [errW_none, errW_some] <;> rfl) | (simp only [← hji26]; first | rfl | (simp [errW_none, errW_some] <;> rfl)) | (simp [*, errW_none, errW_some] <;> rfl), by repeat (first | (with_reducible first | exact HB.out | apply below_alloc | apply pw_below_drewN | apply below_drew1) | exact HB.out)⟩
                                · rw [if_neg c36] at H
                                  exact absurd H (by simp)
                              · rw [if_neg c35] at H
                                exact absurd H (by simp)
                            · rw [if_neg c34] at H
                              exact absurd H (by simp)
                          · rw [if_neg c33] at H
                            exact absurd H (by simp)
                        · rw [if_neg c32] at H
                          exact absurd H (by simp)
                      · rw [if_neg c31] at H
                        exact absurd H (by simp)
                    · rw [if_neg c30] at H
                      exact absurd H (by simp)
                  · rw [if_neg c29] at H
                    exact absurd H (by simp)
                · rw [if_neg c28] at H
                  exact absurd H (by simp)
              · rw [if_neg c27] at H
                exact absurd H (by simp)
            · replace c25 := Bool.eq_false_iff.mpr c25
              subst c25
              have H1 : (if a0.size + a1.size ≤ 9223372036854775807 then ((lines_Split.f (a0 ++ a1)).bind fun t191 => ((redlineref01_SameStrings.f kj8 t191 y159).bind fun t194 => (some t194))) else (none)) = some r := by rw [if_neg (show ¬ (false = true) by decide)] at H; exact H
              clear H
              have H := H1
              clear H1
              by_cases c54 : a0.size + a1.size ≤ 9223372036854775807
              · rw [if_pos c54] at H
                have c54b0 := eq_true c54
                have c54b1 : decide (a0.size + a1.size ≤ 9223372036854775807) = true := decide_eq_true c54
                try have c54b2 : (9223372036854775807 < a0.size + a1.size) = False := eq_false (Nat.not_lt.2 c54)
                replace H := Option.bind_eq_some_iff.mp H
                obtain ⟨t191, A550, H⟩ := H
                replace H : ((redlineref01_SameStrings.f kj8 t191 y159).bind fun t194 => (some t194)) = some r := H
                have A55 := Aside0.mk A550
                clear A550
                replace H := Option.bind_eq_some_iff.mp H
                obtain ⟨t194, A560, H⟩ := H
                replace H : (some t194) = some r := H
                have A56 := Aside0.mk A560
                clear A560
                obtain rfl := Option.some.inj H
                go_wp2_with (first | ((with_reducible refine gate_callee (f := 7) rfl ?_); refine goesL_ (some 60) rfl rfl Tryd.func7 (by kernel_rfl) rfl #[.string (a0 ++ a1)] rfl (by (try simp only [List.map_toArray, List.map_cons, List.map_nil]); first | done | rfl | (simp only [List.length_drop, List.length_take]; rfl)) ?_; (with_reducible refine (lines_Split.calls (a0 ++ a1) t191 _ A55.out).mono ?_); rintro e w57 ⟨v192, rfl, ho0, hb⟩; refine ⟨_, rfl, ?_⟩; have n0_ := Aside0.mk (Kd.R_elder' (by (with_reducible repeat (first | apply Kd.R_alloc | apply Kd.R_drewN | apply Kd.R_drew)); exact HO_5.out) (Kd.R_base ho0) hb); have n1_ := Aside0.mk (Kd.R_elder' (by (with_reducible repeat (first | apply Kd.R_alloc | apply Kd.R_drewN | apply Kd.R_drew)); exact HO_6.out) (Kd.R_base ho0) hb); have n2_ := Aside0.mk (Kd.R_elder' (by (with_reducible repeat (first | apply Kd.R_alloc | apply Kd.R_drewN | apply Kd.R_drew)); exact HO_7.out) (Kd.R_base ho0) hb); have n3_ := Aside0.mk (Kd.R_lower (Kd.R_new' (Kd.R_new' (Kd.R_new' ho0 (Kd.R_lt (by (with_reducible repeat (first | apply Kd.R_alloc | apply Kd.R_drewN | apply Kd.R_drew)); exact HO_5.out))) (Kd.R_lt (by (with_reducible repeat (first | apply Kd.R_alloc | apply Kd.R_drewN | apply Kd.R_drew)); exact HO_6.out))) (Kd.R_lt (by (with_reducible repeat (first | apply Kd.R_alloc | apply Kd.R_drewN | apply Kd.R_drew)); exact HO_7.out))) (below_size (by repeat (first | (with_reducible first | exact HB.out | apply below_alloc | apply pw_below_drewN | apply below_drew1) | exact HB.out)))); have n4_ := Aside0.mk (below_step (by repeat (first | (with_reducible first | exact HB.out | apply below_alloc | apply pw_below_drewN | apply below_drew1) | exact HB.out)) hb); clear HO_5; clear HO_6; clear HO_7; clear HB; have HO_5 := n0_; have HO_6 := n1_; have HO_7 := n2_; have HO193 := n3_; have HB := n4_; clear n0_ n1_ n2_ n3_ n4_; (try clear hb); (try clear hb2); (try clear hk); (try clear hi); (try clear ho0); obtain ⟨Ao58, co58, eo58⟩ := Kd.R_slice HO193.out; subst eo58; obtain ⟨Ao59, co59, eo59⟩ := Kd.R_slice HO_7.out; subst eo59) | ((with_reducible refine gate_callee (f := 8) rfl ?_); refine goesL_ (some 62) rfl rfl Tryd.func8 (by kernel_rfl) rfl #[.slice Ao58 t191.length co58, .slice Ao59 y159.length co59] rfl (by (try simp only [List.map_toArray, List.map_cons, List.map_nil]); first | done | rfl | (simp only [List.length_drop, List.length_take]; rfl)) ?_; (with_reducible refine (redlineref01_SameStrings.calls kj8 _ _ t191 _ _ y159 t194 _ ?side1 ?side2 ?side3 ?side4 A56.out).mono ?_); (case side1 => repeat (first | exact (Kd.R_reads' HO193.out).2.2 | (with_reducible refine Kd.C_alloc ?_ _) | (with_reducible refine Kd.C_drewN ?_ _) | (with_reducible refine Kd.C_drew ?_))); (case side2 => exact (Kd.R_reads' HO193.out).2.1); (case side3 => repeat (first | exact (Kd.R_reads' HO_7.out).2.2 | (with_reducible refine Kd.C_alloc ?_ _) | (with_reducible refine Kd.C_drewN ?_ _) | (with_reducible refine Kd.C_drew ?_))); (case side4 => exact (Kd.R_reads' HO_7.out).2.1); rintro e w' ⟨rfl, ⟨nd, rfl⟩⟩; refine ⟨_, rfl, ?_⟩))
                go_ret
                exact ⟨by first | rfl | (simp [errW_none, errW_some] <;> rfl) | (simp [*, errW_none, errW_some] <;> rfl), by repeat (first | (with_reducible first | exact HB.out | apply below_alloc | apply pw_below_drewN | apply below_drew1) | exact HB.out)⟩
              · rw [if_neg c54] at H
                exact absurd H (by simp)
      · rw [if_neg c8] at H
        exact absurd H (by simp)
    · rw [if_neg c7] at H
      exact absurd H (by simp)
  · replace c4 := Bool.eq_false_iff.mpr c4
    subst c4
    have H1 : (some false) = some r := by rw [if_neg (show ¬ (false = true) by decide)] at H; exact H
    clear H
    have H := H1
    clear H1
    obtain rfl := Option.some.inj H
    go_enter Tryd.func4, Tryd.ntmps4
    go_wp2_with (first | ((with_reducible refine gate_callee (f := 10) rfl ?_); refine goesL_ (some 9) rfl rfl Tryd.func10 (by kernel_rfl) rfl #[] rfl (by (try simp only [List.map_toArray, List.map_cons, List.map_nil]); first | done | rfl | (simp only [List.length_drop, List.length_take]; rfl)) ?_; (with_reducible refine (redlinelaw02_works.calls k  false _ A3.out).mono ?_); rintro e w60 ⟨rfl, hb⟩; refine ⟨_, rfl, ?_⟩; have n0_ := Aside0.mk (below_step (by repeat (first | (with_reducible first | exact HB.out | apply below_alloc | apply pw_below_drewN | apply below_drew1) | exact HB.out)) hb); clear HB; have HB := n0_; clear n0_; (try clear hb); (try clear hb2); (try clear hk); (try clear hi)))
    go_ret
    exact ⟨by first | rfl | (simp [errW_none, errW_some] <;> rfl) | (simp [*, errW_none, errW_some] <;> rfl), by repeat (first | (with_reducible first | exact HB.out | apply below_alloc | apply pw_below_drewN | apply below_drew1) | exact HB.out)⟩

/-- THE ONE PURE STATEMENT of redlinelaw02_LinesCat: yours. -/
def redlinelaw02_LinesCat.Pure : Prop := ∀ (a0 : ByteArray) (a1 : ByteArray), a0.size ≤ 140737488351232 → a1.size ≤ 140737488351232 → ∃ k, redlinelaw02_LinesCat.f k a0 a1 = some true
theorem redlinelaw02_LinesCat.walk (P : redlinelaw02_LinesCat.Pure) (a0 : ByteArray) (a1 : ByteArray) (w : World) (w0 : a0.size ≤ 140737488351232) (w1 : a1.size ≤ 140737488351232) :
    Calls Tryd.prog 4 #[.string a0, .string a1] w fun e w' => e = .returned (.bool true) ∧ Below w.heap.size w w' := by
  obtain ⟨k, h⟩ := P a0 a1 w0 w1
  refine (redlinelaw02_LinesCat.calls k a0 a1 true w h).mono ?_
  rintro e w' ⟨rfl, hd⟩
  exact ⟨rfl, hd⟩

end Go.Proofs.YtkodamaoklaibaaDoor.X
