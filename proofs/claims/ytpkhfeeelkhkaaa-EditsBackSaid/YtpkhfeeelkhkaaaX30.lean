-- Written by this session's program wip/tools/myprint.py (the kit's printing program, with functions proved by hand taken as printed).
import Derived.Test.YtpkhfeeelkhkaaaX0
import Derived.Test.YtpkhfeeelkhkaaaX3
import Derived.Test.YtpkhfeeelkhkaaaX14
import Derived.Test.YtpkhfeeelkhkaaaX15
import Derived.Test.YtpkhfeeelkhkaaaX27
import Derived.Test.YtpkhfeeelkhkaaaX28
import Derived.Test.YtpkhfeeelkhkaaaX29
import Derived.Test.YtpkhfeeelkhkaaaECost
import Derived.Test.YtpkhfeeelkhkaaaEInvert
import Derived.Test.YtpkhfeeelkhkaaaEKeep
import Derived.Test.YtpkhfeeelkhkaaaEMake
namespace Go.Proofs.Ytpkhfeeelkhkaaa.X
open Go.RowKit Go.Proofs.YtpkhfeeelkhkaaaW.PrintWords Go.Proofs.YtpkhfeeelkhkaaaW.PrintLast Go.Proofs.YtpkhfeeelkhkaaaW.PrintMore
attribute [local go_sem] max2_int min2_int max_two min_two max_three min_three max_four min_four   -- for this text's walks alone
set_option linter.unusedVariables false
set_option linter.unusedSimpArgs false

/-! ### redlinelaw05_EditsBack: function 6 -/
mutual
def redlinelaw05_EditsBack.j0 : Nat → Int → List Int → List (S54) → Bool → Option (Bool)
  | 0, _, _, _, _ => none
  | k + 1, x1, x5, x6, x43 => if x43 = true then (some false) else ((edits_Keep.f x6 (x5.length : Int) x1).bind fun bt326 => (if bt326.2 = 0 then ((redlineref04_SameInts.f k bt326.1 x5).bind fun t330 => (redlinelaw05_EditsBack.j1 k x1 x5 x6 (!t330))) else (redlinelaw05_EditsBack.j1 k x1 x5 x6 true)))
def redlinelaw05_EditsBack.j1 : Nat → Int → List Int → List (S54) → Bool → Option (Bool)
  | 0, _, _, _, _ => none
  | k + 1, x1, x5, x6, x59 => if x59 = true then (some false) else ((edits_Invert.f x6).bind fun t331 => ((edits_Keep.f t331 x1 (x5.length : Int)).bind fun bt334 => (if bt334.2 = 0 then (if (bt334.1.length : Int) = x1 then ((edits_Invert.f t331).bind fun t338 => ((redlineref05_Same.f k t338 x6).bind fun t341 => (if t341 = true then ((edits_Cost.f t331).bind fun t342 => ((edits_Cost.f x6).bind fun t343 => (redlinelaw05_EditsBack.j2 k x1 x5 x6 bt334.1 (t342 != t343)))) else (redlinelaw05_EditsBack.j2 k x1 x5 x6 bt334.1 true)))) else (redlinelaw05_EditsBack.j2 k x1 x5 x6 bt334.1 true)) else (redlinelaw05_EditsBack.j2 k x1 x5 x6 bt334.1 true))))
def redlinelaw05_EditsBack.j2 : Nat → Int → List Int → List (S54) → List Int → Bool → Option (Bool)
  | 0, _, _, _, _, _ => none
  | k + 1, x1, x5, x6, x10, x91 => if x91 = true then (some false) else (redlinelaw05_EditsBack.l0 k x1 x5 x6 x10 0 0)
def redlinelaw05_EditsBack.l0 : Nat → Int → List Int → List (S54) → List Int → Int → Int → Option (Bool)
  | 0, _, _, _, _, _, _ => none
  | k + 1, x1, x5, x6, x10, x11, x12 => if x12 < (x5.length : Int) then (if 0 ≤ x12 then (if (rd x5 x12) ≥ 0 then (if 0 ≤ (rd x5 x12) then (if (rd x5 x12) < (x10.length : Int) then (if (rd x10 (rd x5 x12)) = x12 then (redlinelaw05_EditsBack.l0 k x1 x5 x6 x10 (wrap64 (x11 + 1)) (wrap64 (x12 + 1))) else (some false)) else (none)) else (none)) else (redlinelaw05_EditsBack.l0 k x1 x5 x6 x10 x11 (wrap64 (x12 + 1)))) else (none)) else (redlinelaw05_EditsBack.l1 k x1 x5 x6 x10 x11 0)
def redlinelaw05_EditsBack.l1 : Nat → Int → List Int → List (S54) → List Int → Int → Int → Option (Bool)
  | 0, _, _, _, _, _, _ => none
  | k + 1, x1, x5, x6, x10, x11, x13 => if x13 < x1 then (if 0 ≤ x13 then (if x13 < (x10.length : Int) then (if (rd x10 x13) ≥ 0 then (redlinelaw05_EditsBack.l1 k x1 x5 x6 x10 (wrap64 (x11 - 1)) (wrap64 (x13 + 1))) else (redlinelaw05_EditsBack.l1 k x1 x5 x6 x10 x11 (wrap64 (x13 + 1)))) else (none)) else (none)) else (if x11 = 0 then ((edits_Cost.f x6).bind fun t348 => ((redlinelaw05_taken.f k x5).bind fun t349 => (some (t348 == (wrap64 ((wrap64 ((x5.length : Int) + x1)) - (wrap64 (2 * (wrap64 ((x5.length : Int) - t349)))))))))) else (some false))
def redlinelaw05_EditsBack.j5 : Nat → Int → List Int → List (S54) → Bool → Option (Bool)
  | 0, _, _, _, _ => none
  | k + 1, x1, x5, x6, x43 => if x43 = true then (some false) else ((edits_Keep.f x6 (x5.length : Int) x1).bind fun bt358 => (if bt358.2 = 0 then ((redlineref04_SameInts.f k bt358.1 x5).bind fun t362 => (redlinelaw05_EditsBack.j6 k x1 x5 x6 (!t362))) else (redlinelaw05_EditsBack.j6 k x1 x5 x6 true)))
def redlinelaw05_EditsBack.j6 : Nat → Int → List Int → List (S54) → Bool → Option (Bool)
  | 0, _, _, _, _ => none
  | k + 1, x1, x5, x6, x59 => if x59 = true then (some false) else ((edits_Invert.f x6).bind fun t363 => ((edits_Keep.f t363 x1 (x5.length : Int)).bind fun bt366 => (if bt366.2 = 0 then (if (bt366.1.length : Int) = x1 then ((edits_Invert.f t363).bind fun t370 => ((redlineref05_Same.f k t370 x6).bind fun t373 => (if t373 = true then ((edits_Cost.f t363).bind fun t374 => ((edits_Cost.f x6).bind fun t375 => (redlinelaw05_EditsBack.j7 k x1 x5 x6 bt366.1 (t374 != t375)))) else (redlinelaw05_EditsBack.j7 k x1 x5 x6 bt366.1 true)))) else (redlinelaw05_EditsBack.j7 k x1 x5 x6 bt366.1 true)) else (redlinelaw05_EditsBack.j7 k x1 x5 x6 bt366.1 true))))
def redlinelaw05_EditsBack.j7 : Nat → Int → List Int → List (S54) → List Int → Bool → Option (Bool)
  | 0, _, _, _, _, _ => none
  | k + 1, x1, x5, x6, x10, x91 => if x91 = true then (some false) else (redlinelaw05_EditsBack.l0 k x1 x5 x6 x10 0 0)
end
def redlinelaw05_EditsBack.f (k : Nat) (l0 : List Int) (a1 : Int) : Option (Bool) := (redlinelaw05_works.f k).bind fun t316 => (if t316 = true then (if (l0.length : Int) > 300 then (if 300 ≤ (l0.length : Int) then ((redlinelaw05_Kept.f k (l0.take 300) (wrap64 (Int.tmod (IntKind.u64.wrap (a1)) 300))).bind fun t318 => ((edits_Make.f t318 (wrap64 (Int.tmod (IntKind.u64.wrap (a1)) 300))).bind fun bt321 => (if bt321.2 = 0 then ((edits_Check.f k bt321.1 (t318.length : Int) (wrap64 (Int.tmod (IntKind.u64.wrap (a1)) 300))).bind fun t325 => (redlinelaw05_EditsBack.j0 k (wrap64 (Int.tmod (IntKind.u64.wrap (a1)) 300)) t318 bt321.1 (t325 != 0))) else (redlinelaw05_EditsBack.j0 k (wrap64 (Int.tmod (IntKind.u64.wrap (a1)) 300)) t318 bt321.1 true)))) else (none)) else ((redlinelaw05_Kept.f k l0 (wrap64 (Int.tmod (IntKind.u64.wrap (a1)) 300))).bind fun t350 => ((edits_Make.f t350 (wrap64 (Int.tmod (IntKind.u64.wrap (a1)) 300))).bind fun bt353 => (if bt353.2 = 0 then ((edits_Check.f k bt353.1 (t350.length : Int) (wrap64 (Int.tmod (IntKind.u64.wrap (a1)) 300))).bind fun t357 => (redlinelaw05_EditsBack.j5 k (wrap64 (Int.tmod (IntKind.u64.wrap (a1)) 300)) t350 bt353.1 (t357 != 0))) else (redlinelaw05_EditsBack.j5 k (wrap64 (Int.tmod (IntKind.u64.wrap (a1)) 300)) t350 bt353.1 true))))) else (some false))
theorem redlinelaw05_EditsBack.mono_l : ∀ k, (∀ y0 y1 y2 y3, LeO (redlinelaw05_EditsBack.j0 k y0 y1 y2 y3) (redlinelaw05_EditsBack.j0 (k + 1) y0 y1 y2 y3)) ∧ (∀ y0 y1 y2 y3, LeO (redlinelaw05_EditsBack.j1 k y0 y1 y2 y3) (redlinelaw05_EditsBack.j1 (k + 1) y0 y1 y2 y3)) ∧ (∀ y0 y1 y2 y3 y4, LeO (redlinelaw05_EditsBack.j2 k y0 y1 y2 y3 y4) (redlinelaw05_EditsBack.j2 (k + 1) y0 y1 y2 y3 y4)) ∧ (∀ y0 y1 y2 y3 y4 y5, LeO (redlinelaw05_EditsBack.l0 k y0 y1 y2 y3 y4 y5) (redlinelaw05_EditsBack.l0 (k + 1) y0 y1 y2 y3 y4 y5)) ∧ (∀ y0 y1 y2 y3 y4 y5, LeO (redlinelaw05_EditsBack.l1 k y0 y1 y2 y3 y4 y5) (redlinelaw05_EditsBack.l1 (k + 1) y0 y1 y2 y3 y4 y5)) ∧ (∀ y0 y1 y2 y3, LeO (redlinelaw05_EditsBack.j5 k y0 y1 y2 y3) (redlinelaw05_EditsBack.j5 (k + 1) y0 y1 y2 y3)) ∧ (∀ y0 y1 y2 y3, LeO (redlinelaw05_EditsBack.j6 k y0 y1 y2 y3) (redlinelaw05_EditsBack.j6 (k + 1) y0 y1 y2 y3)) ∧ (∀ y0 y1 y2 y3 y4, LeO (redlinelaw05_EditsBack.j7 k y0 y1 y2 y3 y4) (redlinelaw05_EditsBack.j7 (k + 1) y0 y1 y2 y3 y4))
  | 0 => ⟨fun _ _ _ _ r h => by simp [redlinelaw05_EditsBack.j0] at h, fun _ _ _ _ r h => by simp [redlinelaw05_EditsBack.j1] at h, fun _ _ _ _ _ r h => by simp [redlinelaw05_EditsBack.j2] at h, fun _ _ _ _ _ _ r h => by simp [redlinelaw05_EditsBack.l0] at h, fun _ _ _ _ _ _ r h => by simp [redlinelaw05_EditsBack.l1] at h, fun _ _ _ _ r h => by simp [redlinelaw05_EditsBack.j5] at h, fun _ _ _ _ r h => by simp [redlinelaw05_EditsBack.j6] at h, fun _ _ _ _ _ r h => by simp [redlinelaw05_EditsBack.j7] at h⟩
  | k + 1 => by
    obtain ⟨ih0, ih1, ih2, ih3, ih4, ih5, ih6, ih7⟩ := redlinelaw05_EditsBack.mono_l k
    refine ⟨?_, ?_, ?_, ?_, ?_, ?_, ?_, ?_⟩
    · intro y0 y1 y2 y3
      unfold redlinelaw05_EditsBack.j0
      repeat' first
      | (with_reducible exact ih0 _ _ _ _)
      | (with_reducible exact ih1 _ _ _ _)
      | (with_reducible exact ih2 _ _ _ _ _)
      | (with_reducible exact ih3 _ _ _ _ _ _)
      | (with_reducible exact ih4 _ _ _ _ _ _)
      | (with_reducible exact ih5 _ _ _ _)
      | (with_reducible exact ih6 _ _ _ _)
      | (with_reducible exact ih7 _ _ _ _ _)
      | (with_reducible exact edits_Check.mono _ _ _ _)
      | (with_reducible exact redlinelaw05_Kept.mono _ _ _)
      | (with_reducible exact redlinelaw05_taken.mono _ _)
      | (with_reducible exact redlinelaw05_works.mono _)
      | (with_reducible exact redlineref04_SameInts.mono _ _ _)
      | (with_reducible exact redlineref05_Same.mono _ _ _)
      | (with_reducible exact LeO.refl _)
      | (with_reducible exact LeO.none _)
      | (with_reducible refine LeO.ite ?_ ?_)
      | (with_reducible refine LeO.bind ?_ (fun _ => ?_))
      | exact ih0 _ _ _ _
      | exact ih1 _ _ _ _
      | exact ih2 _ _ _ _ _
      | exact ih3 _ _ _ _ _ _
      | exact ih4 _ _ _ _ _ _
      | exact ih5 _ _ _ _
      | exact ih6 _ _ _ _
      | exact ih7 _ _ _ _ _
      | exact edits_Check.mono _ _ _ _
      | exact redlinelaw05_Kept.mono _ _ _
      | exact redlinelaw05_taken.mono _ _
      | exact redlinelaw05_works.mono _
      | exact redlineref04_SameInts.mono _ _ _
      | exact redlineref05_Same.mono _ _ _
      | exact LeO.none _
      | refine LeO.ite ?_ ?_
      | refine LeO.bind ?_ (fun _ => ?_)
    · intro y0 y1 y2 y3
      unfold redlinelaw05_EditsBack.j1
      repeat' first
      | (with_reducible exact ih0 _ _ _ _)
      | (with_reducible exact ih1 _ _ _ _)
      | (with_reducible exact ih2 _ _ _ _ _)
      | (with_reducible exact ih3 _ _ _ _ _ _)
      | (with_reducible exact ih4 _ _ _ _ _ _)
      | (with_reducible exact ih5 _ _ _ _)
      | (with_reducible exact ih6 _ _ _ _)
      | (with_reducible exact ih7 _ _ _ _ _)
      | (with_reducible exact edits_Check.mono _ _ _ _)
      | (with_reducible exact redlinelaw05_Kept.mono _ _ _)
      | (with_reducible exact redlinelaw05_taken.mono _ _)
      | (with_reducible exact redlinelaw05_works.mono _)
      | (with_reducible exact redlineref04_SameInts.mono _ _ _)
      | (with_reducible exact redlineref05_Same.mono _ _ _)
      | (with_reducible exact LeO.refl _)
      | (with_reducible exact LeO.none _)
      | (with_reducible refine LeO.ite ?_ ?_)
      | (with_reducible refine LeO.bind ?_ (fun _ => ?_))
      | exact ih0 _ _ _ _
      | exact ih1 _ _ _ _
      | exact ih2 _ _ _ _ _
      | exact ih3 _ _ _ _ _ _
      | exact ih4 _ _ _ _ _ _
      | exact ih5 _ _ _ _
      | exact ih6 _ _ _ _
      | exact ih7 _ _ _ _ _
      | exact edits_Check.mono _ _ _ _
      | exact redlinelaw05_Kept.mono _ _ _
      | exact redlinelaw05_taken.mono _ _
      | exact redlinelaw05_works.mono _
      | exact redlineref04_SameInts.mono _ _ _
      | exact redlineref05_Same.mono _ _ _
      | exact LeO.none _
      | refine LeO.ite ?_ ?_
      | refine LeO.bind ?_ (fun _ => ?_)
    · intro y0 y1 y2 y3 y4
      unfold redlinelaw05_EditsBack.j2
      repeat' first
      | (with_reducible exact ih0 _ _ _ _)
      | (with_reducible exact ih1 _ _ _ _)
      | (with_reducible exact ih2 _ _ _ _ _)
      | (with_reducible exact ih3 _ _ _ _ _ _)
      | (with_reducible exact ih4 _ _ _ _ _ _)
      | (with_reducible exact ih5 _ _ _ _)
      | (with_reducible exact ih6 _ _ _ _)
      | (with_reducible exact ih7 _ _ _ _ _)
      | (with_reducible exact edits_Check.mono _ _ _ _)
      | (with_reducible exact redlinelaw05_Kept.mono _ _ _)
      | (with_reducible exact redlinelaw05_taken.mono _ _)
      | (with_reducible exact redlinelaw05_works.mono _)
      | (with_reducible exact redlineref04_SameInts.mono _ _ _)
      | (with_reducible exact redlineref05_Same.mono _ _ _)
      | (with_reducible exact LeO.refl _)
      | (with_reducible exact LeO.none _)
      | (with_reducible refine LeO.ite ?_ ?_)
      | (with_reducible refine LeO.bind ?_ (fun _ => ?_))
      | exact ih0 _ _ _ _
      | exact ih1 _ _ _ _
      | exact ih2 _ _ _ _ _
      | exact ih3 _ _ _ _ _ _
      | exact ih4 _ _ _ _ _ _
      | exact ih5 _ _ _ _
      | exact ih6 _ _ _ _
      | exact ih7 _ _ _ _ _
      | exact edits_Check.mono _ _ _ _
      | exact redlinelaw05_Kept.mono _ _ _
      | exact redlinelaw05_taken.mono _ _
      | exact redlinelaw05_works.mono _
      | exact redlineref04_SameInts.mono _ _ _
      | exact redlineref05_Same.mono _ _ _
      | exact LeO.none _
      | refine LeO.ite ?_ ?_
      | refine LeO.bind ?_ (fun _ => ?_)
    · intro y0 y1 y2 y3 y4 y5
      unfold redlinelaw05_EditsBack.l0
      repeat' first
      | (with_reducible exact ih0 _ _ _ _)
      | (with_reducible exact ih1 _ _ _ _)
      | (with_reducible exact ih2 _ _ _ _ _)
      | (with_reducible exact ih3 _ _ _ _ _ _)
      | (with_reducible exact ih4 _ _ _ _ _ _)
      | (with_reducible exact ih5 _ _ _ _)
      | (with_reducible exact ih6 _ _ _ _)
      | (with_reducible exact ih7 _ _ _ _ _)
      | (with_reducible exact edits_Check.mono _ _ _ _)
      | (with_reducible exact redlinelaw05_Kept.mono _ _ _)
      | (with_reducible exact redlinelaw05_taken.mono _ _)
      | (with_reducible exact redlinelaw05_works.mono _)
      | (with_reducible exact redlineref04_SameInts.mono _ _ _)
      | (with_reducible exact redlineref05_Same.mono _ _ _)
      | (with_reducible exact LeO.refl _)
      | (with_reducible exact LeO.none _)
      | (with_reducible refine LeO.ite ?_ ?_)
      | (with_reducible refine LeO.bind ?_ (fun _ => ?_))
      | exact ih0 _ _ _ _
      | exact ih1 _ _ _ _
      | exact ih2 _ _ _ _ _
      | exact ih3 _ _ _ _ _ _
      | exact ih4 _ _ _ _ _ _
      | exact ih5 _ _ _ _
      | exact ih6 _ _ _ _
      | exact ih7 _ _ _ _ _
      | exact edits_Check.mono _ _ _ _
      | exact redlinelaw05_Kept.mono _ _ _
      | exact redlinelaw05_taken.mono _ _
      | exact redlinelaw05_works.mono _
      | exact redlineref04_SameInts.mono _ _ _
      | exact redlineref05_Same.mono _ _ _
      | exact LeO.none _
      | refine LeO.ite ?_ ?_
      | refine LeO.bind ?_ (fun _ => ?_)
    · intro y0 y1 y2 y3 y4 y5
      unfold redlinelaw05_EditsBack.l1
      repeat' first
      | (with_reducible exact ih0 _ _ _ _)
      | (with_reducible exact ih1 _ _ _ _)
      | (with_reducible exact ih2 _ _ _ _ _)
      | (with_reducible exact ih3 _ _ _ _ _ _)
      | (with_reducible exact ih4 _ _ _ _ _ _)
      | (with_reducible exact ih5 _ _ _ _)
      | (with_reducible exact ih6 _ _ _ _)
      | (with_reducible exact ih7 _ _ _ _ _)
      | (with_reducible exact edits_Check.mono _ _ _ _)
      | (with_reducible exact redlinelaw05_Kept.mono _ _ _)
      | (with_reducible exact redlinelaw05_taken.mono _ _)
      | (with_reducible exact redlinelaw05_works.mono _)
      | (with_reducible exact redlineref04_SameInts.mono _ _ _)
      | (with_reducible exact redlineref05_Same.mono _ _ _)
      | (with_reducible exact LeO.refl _)
      | (with_reducible exact LeO.none _)
      | (with_reducible refine LeO.ite ?_ ?_)
      | (with_reducible refine LeO.bind ?_ (fun _ => ?_))
      | exact ih0 _ _ _ _
      | exact ih1 _ _ _ _
      | exact ih2 _ _ _ _ _
      | exact ih3 _ _ _ _ _ _
      | exact ih4 _ _ _ _ _ _
      | exact ih5 _ _ _ _
      | exact ih6 _ _ _ _
      | exact ih7 _ _ _ _ _
      | exact edits_Check.mono _ _ _ _
      | exact redlinelaw05_Kept.mono _ _ _
      | exact redlinelaw05_taken.mono _ _
      | exact redlinelaw05_works.mono _
      | exact redlineref04_SameInts.mono _ _ _
      | exact redlineref05_Same.mono _ _ _
      | exact LeO.none _
      | refine LeO.ite ?_ ?_
      | refine LeO.bind ?_ (fun _ => ?_)
    · intro y0 y1 y2 y3
      unfold redlinelaw05_EditsBack.j5
      repeat' first
      | (with_reducible exact ih0 _ _ _ _)
      | (with_reducible exact ih1 _ _ _ _)
      | (with_reducible exact ih2 _ _ _ _ _)
      | (with_reducible exact ih3 _ _ _ _ _ _)
      | (with_reducible exact ih4 _ _ _ _ _ _)
      | (with_reducible exact ih5 _ _ _ _)
      | (with_reducible exact ih6 _ _ _ _)
      | (with_reducible exact ih7 _ _ _ _ _)
      | (with_reducible exact edits_Check.mono _ _ _ _)
      | (with_reducible exact redlinelaw05_Kept.mono _ _ _)
      | (with_reducible exact redlinelaw05_taken.mono _ _)
      | (with_reducible exact redlinelaw05_works.mono _)
      | (with_reducible exact redlineref04_SameInts.mono _ _ _)
      | (with_reducible exact redlineref05_Same.mono _ _ _)
      | (with_reducible exact LeO.refl _)
      | (with_reducible exact LeO.none _)
      | (with_reducible refine LeO.ite ?_ ?_)
      | (with_reducible refine LeO.bind ?_ (fun _ => ?_))
      | exact ih0 _ _ _ _
      | exact ih1 _ _ _ _
      | exact ih2 _ _ _ _ _
      | exact ih3 _ _ _ _ _ _
      | exact ih4 _ _ _ _ _ _
      | exact ih5 _ _ _ _
      | exact ih6 _ _ _ _
      | exact ih7 _ _ _ _ _
      | exact edits_Check.mono _ _ _ _
      | exact redlinelaw05_Kept.mono _ _ _
      | exact redlinelaw05_taken.mono _ _
      | exact redlinelaw05_works.mono _
      | exact redlineref04_SameInts.mono _ _ _
      | exact redlineref05_Same.mono _ _ _
      | exact LeO.none _
      | refine LeO.ite ?_ ?_
      | refine LeO.bind ?_ (fun _ => ?_)
    · intro y0 y1 y2 y3
      unfold redlinelaw05_EditsBack.j6
      repeat' first
      | (with_reducible exact ih0 _ _ _ _)
      | (with_reducible exact ih1 _ _ _ _)
      | (with_reducible exact ih2 _ _ _ _ _)
      | (with_reducible exact ih3 _ _ _ _ _ _)
      | (with_reducible exact ih4 _ _ _ _ _ _)
      | (with_reducible exact ih5 _ _ _ _)
      | (with_reducible exact ih6 _ _ _ _)
      | (with_reducible exact ih7 _ _ _ _ _)
      | (with_reducible exact edits_Check.mono _ _ _ _)
      | (with_reducible exact redlinelaw05_Kept.mono _ _ _)
      | (with_reducible exact redlinelaw05_taken.mono _ _)
      | (with_reducible exact redlinelaw05_works.mono _)
      | (with_reducible exact redlineref04_SameInts.mono _ _ _)
      | (with_reducible exact redlineref05_Same.mono _ _ _)
      | (with_reducible exact LeO.refl _)
      | (with_reducible exact LeO.none _)
      | (with_reducible refine LeO.ite ?_ ?_)
      | (with_reducible refine LeO.bind ?_ (fun _ => ?_))
      | exact ih0 _ _ _ _
      | exact ih1 _ _ _ _
      | exact ih2 _ _ _ _ _
      | exact ih3 _ _ _ _ _ _
      | exact ih4 _ _ _ _ _ _
      | exact ih5 _ _ _ _
      | exact ih6 _ _ _ _
      | exact ih7 _ _ _ _ _
      | exact edits_Check.mono _ _ _ _
      | exact redlinelaw05_Kept.mono _ _ _
      | exact redlinelaw05_taken.mono _ _
      | exact redlinelaw05_works.mono _
      | exact redlineref04_SameInts.mono _ _ _
      | exact redlineref05_Same.mono _ _ _
      | exact LeO.none _
      | refine LeO.ite ?_ ?_
      | refine LeO.bind ?_ (fun _ => ?_)
    · intro y0 y1 y2 y3 y4
      unfold redlinelaw05_EditsBack.j7
      repeat' first
      | (with_reducible exact ih0 _ _ _ _)
      | (with_reducible exact ih1 _ _ _ _)
      | (with_reducible exact ih2 _ _ _ _ _)
      | (with_reducible exact ih3 _ _ _ _ _ _)
      | (with_reducible exact ih4 _ _ _ _ _ _)
      | (with_reducible exact ih5 _ _ _ _)
      | (with_reducible exact ih6 _ _ _ _)
      | (with_reducible exact ih7 _ _ _ _ _)
      | (with_reducible exact edits_Check.mono _ _ _ _)
      | (with_reducible exact redlinelaw05_Kept.mono _ _ _)
      | (with_reducible exact redlinelaw05_taken.mono _ _)
      | (with_reducible exact redlinelaw05_works.mono _)
      | (with_reducible exact redlineref04_SameInts.mono _ _ _)
      | (with_reducible exact redlineref05_Same.mono _ _ _)
      | (with_reducible exact LeO.refl _)
      | (with_reducible exact LeO.none _)
      | (with_reducible refine LeO.ite ?_ ?_)
      | (with_reducible refine LeO.bind ?_ (fun _ => ?_))
      | exact ih0 _ _ _ _
      | exact ih1 _ _ _ _
      | exact ih2 _ _ _ _ _
      | exact ih3 _ _ _ _ _ _
      | exact ih4 _ _ _ _ _ _
      | exact ih5 _ _ _ _
      | exact ih6 _ _ _ _
      | exact ih7 _ _ _ _ _
      | exact edits_Check.mono _ _ _ _
      | exact redlinelaw05_Kept.mono _ _ _
      | exact redlinelaw05_taken.mono _ _
      | exact redlinelaw05_works.mono _
      | exact redlineref04_SameInts.mono _ _ _
      | exact redlineref05_Same.mono _ _ _
      | exact LeO.none _
      | refine LeO.ite ?_ ?_
      | refine LeO.bind ?_ (fun _ => ?_)
theorem redlinelaw05_EditsBack.mono : ∀ a0 a1 k, LeO (redlinelaw05_EditsBack.f k a0 a1) (redlinelaw05_EditsBack.f (k + 1) a0 a1) := by
  intro a0 a1 k
  obtain ⟨ih0, ih1, ih2, ih3, ih4, ih5, ih6, ih7⟩ := redlinelaw05_EditsBack.mono_l k
  unfold redlinelaw05_EditsBack.f
  repeat' first
      | (with_reducible exact ih0 _ _ _ _)
      | (with_reducible exact ih1 _ _ _ _)
      | (with_reducible exact ih2 _ _ _ _ _)
      | (with_reducible exact ih3 _ _ _ _ _ _)
      | (with_reducible exact ih4 _ _ _ _ _ _)
      | (with_reducible exact ih5 _ _ _ _)
      | (with_reducible exact ih6 _ _ _ _)
      | (with_reducible exact ih7 _ _ _ _ _)
      | (with_reducible exact edits_Check.mono _ _ _ _)
      | (with_reducible exact redlinelaw05_Kept.mono _ _ _)
      | (with_reducible exact redlinelaw05_taken.mono _ _)
      | (with_reducible exact redlinelaw05_works.mono _)
      | (with_reducible exact redlineref04_SameInts.mono _ _ _)
      | (with_reducible exact redlineref05_Same.mono _ _ _)
      | (with_reducible exact LeO.refl _)
      | (with_reducible exact LeO.none _)
      | (with_reducible refine LeO.ite ?_ ?_)
      | (with_reducible refine LeO.bind ?_ (fun _ => ?_))
      | exact ih0 _ _ _ _
      | exact ih1 _ _ _ _
      | exact ih2 _ _ _ _ _
      | exact ih3 _ _ _ _ _ _
      | exact ih4 _ _ _ _ _ _
      | exact ih5 _ _ _ _
      | exact ih6 _ _ _ _
      | exact ih7 _ _ _ _ _
      | exact edits_Check.mono _ _ _ _
      | exact redlinelaw05_Kept.mono _ _ _
      | exact redlinelaw05_taken.mono _ _
      | exact redlinelaw05_works.mono _
      | exact redlineref04_SameInts.mono _ _ _
      | exact redlineref05_Same.mono _ _ _
      | exact LeO.none _
      | refine LeO.ite ?_ ?_
      | refine LeO.bind ?_ (fun _ => ?_)
set_option maxHeartbeats 8000000 in
set_option maxRecDepth 100000 in
theorem redlinelaw05_EditsBack.calls (k : Nat) (A0 : Option Addr) (c0 : Nat) (l0 : List Int) (a1 : Int) (r : Bool) (w : World) (hr0 : Kd.C (Kd.int .i64) w A0 l0.length l0) (hc0 : l0.length ≤ c0) (h : redlinelaw05_EditsBack.f k l0 a1 = some r) :
    Calls Try.prog 6 #[.slice A0 l0.length c0, .int .i64 a1] w fun e w' => e = .returned (.bool r) ∧ Below w.heap.size w w' := by
  have HR0 := Aside0.mk hr0
  have HC0 := Aside0.mk hc0
  clear hr0 hc0
  have HB := Aside0.mk (Below.refl w.heap.size w)
  have H : ((redlinelaw05_works.f k).bind fun t316 => (if t316 = true then (if (l0.length : Int) > 300 then (if 300 ≤ (l0.length : Int) then ((redlinelaw05_Kept.f k (l0.take 300) (wrap64 (Int.tmod (IntKind.u64.wrap (a1)) 300))).bind fun t318 => ((edits_Make.f t318 (wrap64 (Int.tmod (IntKind.u64.wrap (a1)) 300))).bind fun bt321 => (if bt321.2 = 0 then ((edits_Check.f k bt321.1 (t318.length : Int) (wrap64 (Int.tmod (IntKind.u64.wrap (a1)) 300))).bind fun t325 => (redlinelaw05_EditsBack.j0 k (wrap64 (Int.tmod (IntKind.u64.wrap (a1)) 300)) t318 bt321.1 (t325 != 0))) else (redlinelaw05_EditsBack.j0 k (wrap64 (Int.tmod (IntKind.u64.wrap (a1)) 300)) t318 bt321.1 true)))) else (none)) else ((redlinelaw05_Kept.f k l0 (wrap64 (Int.tmod (IntKind.u64.wrap (a1)) 300))).bind fun t350 => ((edits_Make.f t350 (wrap64 (Int.tmod (IntKind.u64.wrap (a1)) 300))).bind fun bt353 => (if bt353.2 = 0 then ((edits_Check.f k bt353.1 (t350.length : Int) (wrap64 (Int.tmod (IntKind.u64.wrap (a1)) 300))).bind fun t357 => (redlinelaw05_EditsBack.j5 k (wrap64 (Int.tmod (IntKind.u64.wrap (a1)) 300)) t350 bt353.1 (t357 != 0))) else (redlinelaw05_EditsBack.j5 k (wrap64 (Int.tmod (IntKind.u64.wrap (a1)) 300)) t350 bt353.1 true))))) else (some false))) = some r := h
  clear h
  replace H := Option.bind_eq_some_iff.mp H
  obtain ⟨t316, A30, H⟩ := H
  replace H : (if t316 = true then (if (l0.length : Int) > 300 then (if 300 ≤ (l0.length : Int) then ((redlinelaw05_Kept.f k (l0.take 300) (wrap64 (Int.tmod (IntKind.u64.wrap (a1)) 300))).bind fun t318 => ((edits_Make.f t318 (wrap64 (Int.tmod (IntKind.u64.wrap (a1)) 300))).bind fun bt321 => (if bt321.2 = 0 then ((edits_Check.f k bt321.1 (t318.length : Int) (wrap64 (Int.tmod (IntKind.u64.wrap (a1)) 300))).bind fun t325 => (redlinelaw05_EditsBack.j0 k (wrap64 (Int.tmod (IntKind.u64.wrap (a1)) 300)) t318 bt321.1 (t325 != 0))) else (redlinelaw05_EditsBack.j0 k (wrap64 (Int.tmod (IntKind.u64.wrap (a1)) 300)) t318 bt321.1 true)))) else (none)) else ((redlinelaw05_Kept.f k l0 (wrap64 (Int.tmod (IntKind.u64.wrap (a1)) 300))).bind fun t350 => ((edits_Make.f t350 (wrap64 (Int.tmod (IntKind.u64.wrap (a1)) 300))).bind fun bt353 => (if bt353.2 = 0 then ((edits_Check.f k bt353.1 (t350.length : Int) (wrap64 (Int.tmod (IntKind.u64.wrap (a1)) 300))).bind fun t357 => (redlinelaw05_EditsBack.j5 k (wrap64 (Int.tmod (IntKind.u64.wrap (a1)) 300)) t350 bt353.1 (t357 != 0))) else (redlinelaw05_EditsBack.j5 k (wrap64 (Int.tmod (IntKind.u64.wrap (a1)) 300)) t350 bt353.1 true))))) else (some false)) = some r := H
  have A3 := Aside0.mk A30
  clear A30
  by_cases c4 : t316 = true
  · subst c4
    have H1 : (if (l0.length : Int) > 300 then (if 300 ≤ (l0.length : Int) then ((redlinelaw05_Kept.f k (l0.take 300) (wrap64 (Int.tmod (IntKind.u64.wrap (a1)) 300))).bind fun t318 => ((edits_Make.f t318 (wrap64 (Int.tmod (IntKind.u64.wrap (a1)) 300))).bind fun bt321 => (if bt321.2 = 0 then ((edits_Check.f k bt321.1 (t318.length : Int) (wrap64 (Int.tmod (IntKind.u64.wrap (a1)) 300))).bind fun t325 => (redlinelaw05_EditsBack.j0 k (wrap64 (Int.tmod (IntKind.u64.wrap (a1)) 300)) t318 bt321.1 (t325 != 0))) else (redlinelaw05_EditsBack.j0 k (wrap64 (Int.tmod (IntKind.u64.wrap (a1)) 300)) t318 bt321.1 true)))) else (none)) else ((redlinelaw05_Kept.f k l0 (wrap64 (Int.tmod (IntKind.u64.wrap (a1)) 300))).bind fun t350 => ((edits_Make.f t350 (wrap64 (Int.tmod (IntKind.u64.wrap (a1)) 300))).bind fun bt353 => (if bt353.2 = 0 then ((edits_Check.f k bt353.1 (t350.length : Int) (wrap64 (Int.tmod (IntKind.u64.wrap (a1)) 300))).bind fun t357 => (redlinelaw05_EditsBack.j5 k (wrap64 (Int.tmod (IntKind.u64.wrap (a1)) 300)) t350 bt353.1 (t357 != 0))) else (redlinelaw05_EditsBack.j5 k (wrap64 (Int.tmod (IntKind.u64.wrap (a1)) 300)) t350 bt353.1 true))))) = some r := by rw [if_pos rfl] at H; exact H
    clear H
    have H := H1
    clear H1
    by_cases c5 : (l0.length : Int) > 300
    · rw [if_pos c5] at H
      have c5b0 : decide (300 < (l0.length : Int)) = true := decide_eq_true c5
      have c5b1 : decide (300 < l0.length) = true := decide_eq_true (by omega)
      clear c5
      by_cases c6 : 300 ≤ (l0.length : Int)
      · rw [if_pos c6] at H
        have c6b0 := eq_true c6
        have c6b1 : decide (300 ≤ (l0.length : Int)) = true := decide_eq_true c6
        clear c6
        replace H := Option.bind_eq_some_iff.mp H
        obtain ⟨t318, A70, H⟩ := H
        replace H : ((edits_Make.f t318 (wrap64 (Int.tmod (IntKind.u64.wrap (a1)) 300))).bind fun bt321 => (if bt321.2 = 0 then ((edits_Check.f k bt321.1 (t318.length : Int) (wrap64 (Int.tmod (IntKind.u64.wrap (a1)) 300))).bind fun t325 => (redlinelaw05_EditsBack.j0 k (wrap64 (Int.tmod (IntKind.u64.wrap (a1)) 300)) t318 bt321.1 (t325 != 0))) else (redlinelaw05_EditsBack.j0 k (wrap64 (Int.tmod (IntKind.u64.wrap (a1)) 300)) t318 bt321.1 true))) = some r := H
        have A7 := Aside0.mk A70
        clear A70
        replace H := Option.bind_eq_some_iff.mp H
        obtain ⟨⟨t321, t322⟩, A80, H⟩ := H
        replace H : (if t322 = 0 then ((edits_Check.f k t321 (t318.length : Int) (wrap64 (Int.tmod (IntKind.u64.wrap (a1)) 300))).bind fun t325 => (redlinelaw05_EditsBack.j0 k (wrap64 (Int.tmod (IntKind.u64.wrap (a1)) 300)) t318 t321 (t325 != 0))) else (redlinelaw05_EditsBack.j0 k (wrap64 (Int.tmod (IntKind.u64.wrap (a1)) 300)) t318 t321 true)) = some r := H
        have A8 := Aside0.mk A80
        clear A80
        have HC9 := Aside0.mk H
        clear H
        go_enter Try.func6, Try.ntmps6
        go_upto_region 8 with (first | ((with_reducible refine gate_callee (f := 25) rfl ?_); refine goesL_ (some 14) rfl rfl Try.func25 (by kernel_rfl) rfl #[] rfl (by (try simp only [List.map_toArray, List.map_cons, List.map_nil]); first | done | rfl | (simp only [List.length_drop, List.length_take]; rfl)) ?_; (with_reducible refine (redlinelaw05_works.calls k  true _ A3.out).mono ?_); rintro e w10 ⟨rfl, hb⟩; refine ⟨_, rfl, ?_⟩; have n0_ := Aside0.mk (below_step (by repeat (first | (with_reducible first | exact HB.out | apply below_alloc | apply pw_below_drewN | apply below_drew1) | exact HB.out)) hb); clear HB; have HB := n0_; clear n0_; (try clear hb); (try clear hb2); (try clear hk); (try clear hi); obtain ⟨i011, hi011, _, hsz11, _⟩ := info_parts info3; obtain ⟨hcut11, hA11, hC11⟩ := print_take_of (P := Try.prog) (Value.int .i64) 0 31 3 .i64 Try.underlying31 hi011 hsz11 A0 c0 l0 300 (by omega) (of_decide_eq_true (by first | (with_reducible assumption) | assumption)) HC0.out; have HR317 := Aside0.mk (Kd.C_of_reads (h1 := fun _ => rfl) (hA11 _ (Kd.reads_of_C HR0.out))); have HC317 := Aside0.mk hC11; clear hA11 hC11 hi011 hsz11) | ((with_reducible refine gate_callee (f := 26) rfl ?_); refine goesL_ (some 27) rfl rfl Try.func26 (by kernel_rfl) rfl #[.slice A0 (l0.take 300).length c0, .int .i64 (wrap64 (Int.tmod (IntKind.u64.wrap (a1)) 300))] rfl (by (try simp only [List.map_toArray, List.map_cons, List.map_nil]); first | done | (rw [show (l0.take 300).length = 300 from (by rw [List.length_take]; have h_ : (300 : Int) ≤ (l0.length : Int) := of_decide_eq_true (by first | (with_reducible assumption) | assumption); omega)] <;> rfl) | rfl | (simp only [List.length_drop, List.length_take]; rfl)) ?_; (with_reducible refine (redlinelaw05_Kept.calls k _ _ (l0.take 300) (wrap64 (Int.tmod (IntKind.u64.wrap (a1)) 300)) t318 _ ?side1 ?side2 A7.out).mono ?_); (case side1 => repeat (first | exact (Kd.C_below HR317.out HB.out) | (with_reducible refine Kd.C_alloc ?_ _) | (with_reducible refine Kd.C_drewN ?_ _) | (with_reducible refine Kd.C_drew ?_))); (case side2 => exact HC317.out); rintro e w12 ⟨v319, rfl, ho0, hb⟩; refine ⟨_, rfl, ?_⟩; have n0_ := Aside0.mk (Kd.R_lower ho0 (below_size (by repeat (first | (with_reducible first | exact HB.out | apply below_alloc | apply pw_below_drewN | apply below_drew1) | exact HB.out)))); have n1_ := Aside0.mk (below_step (by repeat (first | (with_reducible first | exact HB.out | apply below_alloc | apply pw_below_drewN | apply below_drew1) | exact HB.out)) hb); clear HB; have HO320 := n0_; have HB := n1_; clear n0_ n1_; (try clear hb); (try clear hb2); (try clear hk); (try clear hi); (try clear ho0); obtain ⟨Ao13, co13, eo13⟩ := Kd.R_slice HO320.out; subst eo13) | ((with_reducible refine gate_callee (f := 27) rfl ?_); refine goesL_ (some 31) rfl rfl Try.func27 (by kernel_rfl) rfl #[.slice Ao13 t318.length co13, .int .i64 (wrap64 (Int.tmod (IntKind.u64.wrap (a1)) 300))] rfl (by (try simp only [List.map_toArray, List.map_cons, List.map_nil]); first | done | rfl | (simp only [List.length_drop, List.length_take]; rfl)) ?_; (with_reducible refine (edits_Make.calls _ _ t318 (wrap64 (Int.tmod (IntKind.u64.wrap (a1)) 300)) t321 t322 _ ?side1 ?side2 A8.out).mono ?_); (case side1 => repeat (first | exact (Kd.R_reads' HO320.out).2.2 | (with_reducible refine Kd.C_alloc ?_ _) | (with_reducible refine Kd.C_drewN ?_ _) | (with_reducible refine Kd.C_drew ?_))); (case side2 => exact (Kd.R_reads' HO320.out).2.1); rintro e w14 ⟨v323, rfl, ho0, hb⟩; refine ⟨_, rfl, ?_⟩; have n0_ := Aside0.mk (Kd.R_below (by (with_reducible repeat (first | apply Kd.R_alloc | apply Kd.R_drewN | apply Kd.R_drew)); exact HO320.out) hb); have n1_ := Aside0.mk (Kd.R_lower ho0 (below_size (by repeat (first | (with_reducible first | exact HB.out | apply below_alloc | apply pw_below_drewN | apply below_drew1) | exact HB.out)))); have n2_ := Aside0.mk (below_step (by repeat (first | (with_reducible first | exact HB.out | apply below_alloc | apply pw_below_drewN | apply below_drew1) | exact HB.out)) hb); clear HO320; clear HB; have HO320 := n0_; have HO324 := n1_; have HB := n2_; clear n0_ n1_ n2_; (try clear hb); (try clear hb2); (try clear hk); (try clear hi); (try clear ho0)))
        (try simp only [Act.put, List.setIfInBounds_toArray, List.set_cons_zero, List.set_cons_succ])
        go_cut [43] (fun v43 wc => ∃ (kq : Nat) (x43_8 : Bool), v43 = .bool x43_8 ∧ Aside0 (redlinelaw05_EditsBack.j0 kq (wrap64 (Int.tmod (IntKind.u64.wrap (a1)) 300)) t318 t321 x43_8 = some r) ∧ Aside0 (kq ≤ k) ∧ Aside0 (Kd.R (Kd.int .i64) 3 wc w.heap.size (fun _ => True) (.slice Ao13 t318.length co13) t318) ∧ Aside0 (Kd.R k54 54 wc w.heap.size (fun _ => True) v323 t321) ∧ Aside0 (Below w.heap.size w wc))
        case first =>
          have H := HC9.out
          clear HC9
          by_cases c15 : t322 = 0
          · rw [if_pos c15] at H
            have c15b0 : (t322 == 0) = true := beq_iff_eq.mpr c15
            have c15b1 : (t322 != 0) = false := bne_eq_false_iff_eq.mpr c15
            clear c15
            (first | rw [c15b0] | (simp only [i64_w, i32_w]; rw [c15b0]) | skip)
            replace H := Option.bind_eq_some_iff.mp H
            obtain ⟨t325, A160, H⟩ := H
            replace H : (redlinelaw05_EditsBack.j0 k (wrap64 (Int.tmod (IntKind.u64.wrap (a1)) 300)) t318 t321 (t325 != 0)) = some r := H
            have A16 := Aside0.mk A160
            clear A160
            have H' := Aside0.mk H
            clear H
            obtain ⟨Ao17, co17, eo17⟩ := Kd.R_slice HO324.out
            subst eo17
            go_wp2_with (first | (go_at_call 13; (with_reducible refine (edits_Check.calls k _ _ t321 (t318.length : Int) (wrap64 (Int.tmod (IntKind.u64.wrap (a1)) 300)) t325 _ ?side1 ?side2 A16.out).mono ?_); (case side1 => repeat (first | exact (Kd.R_reads' HO324.out).2.2 | (with_reducible refine Kd.C_alloc ?_ _) | (with_reducible refine Kd.C_drewN ?_ _) | (with_reducible refine Kd.C_drew ?_))); (case side2 => exact (Kd.R_reads' HO324.out).2.1); rintro e w18 ⟨rfl, hb⟩; have n0_ := Aside0.mk (Kd.R_below (by (with_reducible repeat (first | apply Kd.R_alloc | apply Kd.R_drewN | apply Kd.R_drew)); exact HO320.out) hb); have n1_ := Aside0.mk (Kd.R_below (by (with_reducible repeat (first | apply Kd.R_alloc | apply Kd.R_drewN | apply Kd.R_drew)); exact HO324.out) hb); have n2_ := Aside0.mk (below_step (by repeat (first | (with_reducible first | exact HB.out | apply below_alloc | apply pw_below_drewN | apply below_drew1) | exact HB.out)) hb); clear HO320; clear HO324; clear HB; have HO320 := n0_; have HO324 := n1_; have HB := n2_; clear n0_ n1_ n2_; (try clear hb); (try clear hb2); (try clear hk); (try clear hi)))
            go_meet
            case rel => exact ⟨_, ((t325 != 0)), (by first | rfl | (simp; done) | (simp [*]; done)), H', ⟨by first | omega | exact Nat.le_refl _⟩, ⟨by (with_reducible repeat (first | apply Kd.R_alloc | apply Kd.R_drewN | apply Kd.R_drew)); exact HO320.out⟩, ⟨by (with_reducible repeat (first | apply Kd.R_alloc | apply Kd.R_drewN | apply Kd.R_drew)); exact HO324.out⟩, ⟨by repeat (first | (with_reducible first | exact HB.out | apply below_alloc | apply pw_below_drewN | apply below_drew1) | exact HB.out)⟩⟩
          · rw [if_neg c15] at H
            have c15b0 : (t322 == 0) = false := beq_eq_false_iff_ne.mpr c15
            have c15b1 : (t322 != 0) = true := bne_iff_ne.mpr c15
            (first | rw [c15b0] | (simp only [i64_w, i32_w]; rw [c15b0]) | skip)
            have H' := Aside0.mk H
            clear H
            go_wp2
            go_meet
            case rel => exact ⟨_, (true), (by first | rfl | (simp; done) | (simp [*]; done)), H', ⟨by first | omega | exact Nat.le_refl _⟩, ⟨by (with_reducible repeat (first | apply Kd.R_alloc | apply Kd.R_drewN | apply Kd.R_drew)); exact HO320.out⟩, ⟨by (with_reducible repeat (first | apply Kd.R_alloc | apply Kd.R_drewN | apply Kd.R_drew)); exact HO324.out⟩, ⟨by repeat (first | (with_reducible first | exact HB.out | apply below_alloc | apply pw_below_drewN | apply below_drew1) | exact HB.out)⟩⟩
        case rest =>
          clear HC9
          try clear c1
          try clear c2
          try clear p2
          try clear c4
          try clear c5
          try clear c5b0
          try clear c5b1
          try clear c6
          try clear c6b0
          try clear c6b1
          try clear p6
          try clear c15
          try clear c15b0
          try clear c15b1
          obtain ⟨kq, x43_8, rfl, HA, HJ8, HO_5, HO_6, HB⟩ := hcut
          cases kq with
          | zero => exact absurd HA.out (by simp [redlinelaw05_EditsBack.j0])
          | succ kj8 =>
            have H := HA.out
            clear HA
            simp only [redlinelaw05_EditsBack.j0] at H
            by_cases c19 : x43_8 = true
            · subst c19
              have H1 : (some false) = some r := by rw [if_pos rfl] at H; exact H
              clear H
              have H := H1
              clear H1
              obtain rfl := Option.some.inj H
              go_wp2
              go_ret
              exact ⟨by first | rfl | (simp [errW_none, errW_some] <;> rfl) | (simp [*, errW_none, errW_some] <;> rfl), by repeat (first | (with_reducible first | exact HB.out | apply below_alloc | apply pw_below_drewN | apply below_drew1) | exact HB.out)⟩
            · replace c19 := Bool.eq_false_iff.mpr c19
              subst c19
              have H1 : ((edits_Keep.f t321 (t318.length : Int) (wrap64 (Int.tmod (IntKind.u64.wrap (a1)) 300))).bind fun bt326 => (if bt326.2 = 0 then ((redlineref04_SameInts.f kj8 bt326.1 t318).bind fun t330 => (redlinelaw05_EditsBack.j1 kj8 (wrap64 (Int.tmod (IntKind.u64.wrap (a1)) 300)) t318 t321 (!t330))) else (redlinelaw05_EditsBack.j1 kj8 (wrap64 (Int.tmod (IntKind.u64.wrap (a1)) 300)) t318 t321 true))) = some r := by rw [if_neg (show ¬ (false = true) by decide)] at H; exact H
              clear H
              have H := H1
              clear H1
              replace H := Option.bind_eq_some_iff.mp H
              obtain ⟨⟨t326, t327⟩, A200, H⟩ := H
              replace H : (if t327 = 0 then ((redlineref04_SameInts.f kj8 t326 t318).bind fun t330 => (redlinelaw05_EditsBack.j1 kj8 (wrap64 (Int.tmod (IntKind.u64.wrap (a1)) 300)) t318 t321 (!t330))) else (redlinelaw05_EditsBack.j1 kj8 (wrap64 (Int.tmod (IntKind.u64.wrap (a1)) 300)) t318 t321 true)) = some r := H
              have A20 := Aside0.mk A200
              clear A200
              have HC21 := Aside0.mk H
              clear H
              obtain ⟨Ao22, co22, eo22⟩ := Kd.R_slice HO_6.out
              subst eo22
              go_upto_region 11 with (first | ((with_reducible refine gate_callee (f := 15) rfl ?_); refine goesL_ (some 49) rfl rfl Try.func15 (by kernel_rfl) rfl #[.slice Ao22 t321.length co22, .int .i64 (t318.length : Int), .int .i64 (wrap64 (Int.tmod (IntKind.u64.wrap (a1)) 300))] rfl (by (try simp only [List.map_toArray, List.map_cons, List.map_nil]); first | done | rfl | (simp only [List.length_drop, List.length_take]; rfl)) ?_; (with_reducible refine (edits_Keep.calls _ _ t321 (t318.length : Int) (wrap64 (Int.tmod (IntKind.u64.wrap (a1)) 300)) t326 t327 _ ?side1 ?side2 A20.out).mono ?_); (case side1 => repeat (first | exact (Kd.R_reads' HO_6.out).2.2 | (with_reducible refine Kd.C_alloc ?_ _) | (with_reducible refine Kd.C_drewN ?_ _) | (with_reducible refine Kd.C_drew ?_))); (case side2 => exact (Kd.R_reads' HO_6.out).2.1); rintro e w23 ⟨v328, rfl, ho0, hb⟩; refine ⟨_, rfl, ?_⟩; have n0_ := Aside0.mk (Kd.R_elder' (by (with_reducible repeat (first | apply Kd.R_alloc | apply Kd.R_drewN | apply Kd.R_drew)); exact HO_5.out) (Kd.R_base ho0) hb); have n1_ := Aside0.mk (Kd.R_below (by (with_reducible repeat (first | apply Kd.R_alloc | apply Kd.R_drewN | apply Kd.R_drew)); exact HO_6.out) hb); have n2_ := Aside0.mk (Kd.R_lower (Kd.R_new' ho0 (Kd.R_lt (by (with_reducible repeat (first | apply Kd.R_alloc | apply Kd.R_drewN | apply Kd.R_drew)); exact HO_5.out))) (below_size (by repeat (first | (with_reducible first | exact HB.out | apply below_alloc | apply pw_below_drewN | apply below_drew1) | exact HB.out)))); have n3_ := Aside0.mk (below_step (by repeat (first | (with_reducible first | exact HB.out | apply below_alloc | apply pw_below_drewN | apply below_drew1) | exact HB.out)) hb); clear HO_5; clear HO_6; clear HB; have HO_5 := n0_; have HO_6 := n1_; have HO329 := n2_; have HB := n3_; clear n0_ n1_ n2_ n3_; (try clear hb); (try clear hb2); (try clear hk); (try clear hi); (try clear ho0)))
              (try simp only [Act.put, List.setIfInBounds_toArray, List.set_cons_zero, List.set_cons_succ])
              go_cut [59] (fun v59 wc => ∃ (kq : Nat) (x59_20 : Bool), v59 = .bool x59_20 ∧ Aside0 (redlinelaw05_EditsBack.j1 kq (wrap64 (Int.tmod (IntKind.u64.wrap (a1)) 300)) t318 t321 x59_20 = some r) ∧ Aside0 (kq ≤ kj8) ∧ Aside0 (Kd.R (Kd.int .i64) 3 wc w.heap.size (fun _ => True) (.slice Ao13 t318.length co13) t318) ∧ Aside0 (Kd.R k54 54 wc w.heap.size (fun _ => True) (.slice Ao22 t321.length co22) t321) ∧ Aside0 (Below w.heap.size w wc))
              case first =>
                have H := HC21.out
                clear HC21
                by_cases c24 : t327 = 0
                · rw [if_pos c24] at H
                  have c24b0 : (t327 == 0) = true := beq_iff_eq.mpr c24
                  have c24b1 : (t327 != 0) = false := bne_eq_false_iff_eq.mpr c24
                  clear c24
                  (first | rw [c24b0] | (simp only [i64_w, i32_w]; rw [c24b0]) | skip)
                  replace H := Option.bind_eq_some_iff.mp H
                  obtain ⟨t330, A250, H⟩ := H
                  replace H : (redlinelaw05_EditsBack.j1 kj8 (wrap64 (Int.tmod (IntKind.u64.wrap (a1)) 300)) t318 t321 (!t330)) = some r := H
                  have A25 := Aside0.mk A250
                  clear A250
                  have H' := Aside0.mk H
                  clear H
                  obtain ⟨Ao26, co26, eo26⟩ := Kd.R_slice HO329.out
                  subst eo26
                  go_wp2_with (first | (go_at_call 17; (with_reducible refine (redlineref04_SameInts.calls kj8 _ _ t326 _ _ t318 t330 _ ?side1 ?side2 ?side3 ?side4 A25.out).mono ?_); (case side1 => repeat (first | exact (Kd.R_reads' HO329.out).2.2 | (with_reducible refine Kd.C_alloc ?_ _) | (with_reducible refine Kd.C_drewN ?_ _) | (with_reducible refine Kd.C_drew ?_))); (case side2 => exact (Kd.R_reads' HO329.out).2.1); (case side3 => repeat (first | exact (Kd.R_reads' HO_5.out).2.2 | (with_reducible refine Kd.C_alloc ?_ _) | (with_reducible refine Kd.C_drewN ?_ _) | (with_reducible refine Kd.C_drew ?_))); (case side4 => exact (Kd.R_reads' HO_5.out).2.1); rintro e w' ⟨rfl, ⟨nd, rfl⟩⟩))
                  go_meet
                  case rel => exact ⟨_, (!t330), (by first | rfl | (simp; done) | (simp [*]; done)), H', ⟨by have := HJ8.out; first | omega | exact Nat.le_refl _⟩, ⟨by (with_reducible repeat (first | apply Kd.R_alloc | apply Kd.R_drewN | apply Kd.R_drew)); exact Kd.R_mono HO_5.out (fun _ hk => trivial)⟩, ⟨by (with_reducible repeat (first | apply Kd.R_alloc | apply Kd.R_drewN | apply Kd.R_drew)); exact HO_6.out⟩, ⟨by repeat (first | (with_reducible first | exact HB.out | apply below_alloc | apply pw_below_drewN | apply below_drew1) | exact HB.out)⟩⟩
                · rw [if_neg c24] at H
                  have c24b0 : (t327 == 0) = false := beq_eq_false_iff_ne.mpr c24
                  have c24b1 : (t327 != 0) = true := bne_iff_ne.mpr c24
                  (first | rw [c24b0] | (simp only [i64_w, i32_w]; rw [c24b0]) | skip)
                  have H' := Aside0.mk H
                  clear H
                  go_wp2
                  go_meet
                  case rel => exact ⟨_, (true), (by first | rfl | (simp; done) | (simp [*]; done)), H', ⟨by have := HJ8.out; first | omega | exact Nat.le_refl _⟩, ⟨by (with_reducible repeat (first | apply Kd.R_alloc | apply Kd.R_drewN | apply Kd.R_drew)); exact Kd.R_mono HO_5.out (fun _ hk => trivial)⟩, ⟨by (with_reducible repeat (first | apply Kd.R_alloc | apply Kd.R_drewN | apply Kd.R_drew)); exact HO_6.out⟩, ⟨by repeat (first | (with_reducible first | exact HB.out | apply below_alloc | apply pw_below_drewN | apply below_drew1) | exact HB.out)⟩⟩
              case rest =>
                clear HC21
                try clear c1
                try clear c2
                try clear p2
                try clear c4
                try clear c5
                try clear c5b0
                try clear c5b1
                try clear c6
                try clear c6b0
                try clear c6b1
                try clear p6
                try clear c15
                try clear c15b0
                try clear c15b1
                try clear c19
                try clear c24
                try clear c24b0
                try clear c24b1
                try clear c25
                try clear c26
                try clear p2
                try clear p6
                obtain ⟨kq, x59_20, rfl, HA, HJ20, HO_5, HO_6, HB⟩ := hcut
                cases kq with
                | zero => exact absurd HA.out (by simp [redlinelaw05_EditsBack.j1])
                | succ kj20 =>
                  have H := HA.out
                  clear HA
                  simp only [redlinelaw05_EditsBack.j1] at H
                  by_cases c27 : x59_20 = true
                  · subst c27
                    have H1 : (some false) = some r := by rw [if_pos rfl] at H; exact H
                    clear H
                    have H := H1
                    clear H1
                    obtain rfl := Option.some.inj H
                    go_wp2
                    go_ret
                    exact ⟨by first | rfl | (simp [errW_none, errW_some] <;> rfl) | (simp [*, errW_none, errW_some] <;> rfl), by repeat (first | (with_reducible first | exact HB.out | apply below_alloc | apply pw_below_drewN | apply below_drew1) | exact HB.out)⟩
                  · replace c27 := Bool.eq_false_iff.mpr c27
                    subst c27
                    have H1 : ((edits_Invert.f t321).bind fun t331 => ((edits_Keep.f t331 (wrap64 (Int.tmod (IntKind.u64.wrap (a1)) 300)) (t318.length : Int)).bind fun bt334 => (if bt334.2 = 0 then (if (bt334.1.length : Int) = (wrap64 (Int.tmod (IntKind.u64.wrap (a1)) 300)) then ((edits_Invert.f t331).bind fun t338 => ((redlineref05_Same.f kj20 t338 t321).bind fun t341 => (if t341 = true then ((edits_Cost.f t331).bind fun t342 => ((edits_Cost.f t321).bind fun t343 => (redlinelaw05_EditsBack.j2 kj20 (wrap64 (Int.tmod (IntKind.u64.wrap (a1)) 300)) t318 t321 bt334.1 (t342 != t343)))) else (redlinelaw05_EditsBack.j2 kj20 (wrap64 (Int.tmod (IntKind.u64.wrap (a1)) 300)) t318 t321 bt334.1 true)))) else (redlinelaw05_EditsBack.j2 kj20 (wrap64 (Int.tmod (IntKind.u64.wrap (a1)) 300)) t318 t321 bt334.1 true)) else (redlinelaw05_EditsBack.j2 kj20 (wrap64 (Int.tmod (IntKind.u64.wrap (a1)) 300)) t318 t321 bt334.1 true)))) = some r := by rw [if_neg (show ¬ (false = true) by decide)] at H; exact H
                    clear H
                    have H := H1
                    clear H1
                    replace H := Option.bind_eq_some_iff.mp H
                    obtain ⟨t331, A280, H⟩ := H
                    replace H : ((edits_Keep.f t331 (wrap64 (Int.tmod (IntKind.u64.wrap (a1)) 300)) (t318.length : Int)).bind fun bt334 => (if bt334.2 = 0 then (if (bt334.1.length : Int) = (wrap64 (Int.tmod (IntKind.u64.wrap (a1)) 300)) then ((edits_Invert.f t331).bind fun t338 => ((redlineref05_Same.f kj20 t338 t321).bind fun t341 => (if t341 = true then ((edits_Cost.f t331).bind fun t342 => ((edits_Cost.f t321).bind fun t343 => (redlinelaw05_EditsBack.j2 kj20 (wrap64 (Int.tmod (IntKind.u64.wrap (a1)) 300)) t318 t321 bt334.1 (t342 != t343)))) else (redlinelaw05_EditsBack.j2 kj20 (wrap64 (Int.tmod (IntKind.u64.wrap (a1)) 300)) t318 t321 bt334.1 true)))) else (redlinelaw05_EditsBack.j2 kj20 (wrap64 (Int.tmod (IntKind.u64.wrap (a1)) 300)) t318 t321 bt334.1 true)) else (redlinelaw05_EditsBack.j2 kj20 (wrap64 (Int.tmod (IntKind.u64.wrap (a1)) 300)) t318 t321 bt334.1 true))) = some r := H
                    have A28 := Aside0.mk A280
                    clear A280
                    replace H := Option.bind_eq_some_iff.mp H
                    obtain ⟨⟨t334, t335⟩, A290, H⟩ := H
                    replace H : (if t335 = 0 then (if (t334.length : Int) = (wrap64 (Int.tmod (IntKind.u64.wrap (a1)) 300)) then ((edits_Invert.f t331).bind fun t338 => ((redlineref05_Same.f kj20 t338 t321).bind fun t341 => (if t341 = true then ((edits_Cost.f t331).bind fun t342 => ((edits_Cost.f t321).bind fun t343 => (redlinelaw05_EditsBack.j2 kj20 (wrap64 (Int.tmod (IntKind.u64.wrap (a1)) 300)) t318 t321 t334 (t342 != t343)))) else (redlinelaw05_EditsBack.j2 kj20 (wrap64 (Int.tmod (IntKind.u64.wrap (a1)) 300)) t318 t321 t334 true)))) else (redlinelaw05_EditsBack.j2 kj20 (wrap64 (Int.tmod (IntKind.u64.wrap (a1)) 300)) t318 t321 t334 true)) else (redlinelaw05_EditsBack.j2 kj20 (wrap64 (Int.tmod (IntKind.u64.wrap (a1)) 300)) t318 t321 t334 true)) = some r := H
                    have A29 := Aside0.mk A290
                    clear A290
                    have HC30 := Aside0.mk H
                    clear H
                    go_upto_region 15 with (first | ((with_reducible refine gate_callee (f := 19) rfl ?_); refine goesL_ (some 61) rfl rfl Try.func19 (by kernel_rfl) rfl #[.slice Ao22 t321.length co22] rfl (by (try simp only [List.map_toArray, List.map_cons, List.map_nil]); first | done | rfl | (simp only [List.length_drop, List.length_take]; rfl)) ?_; (with_reducible refine (edits_Invert.calls _ _ t321 t331 _ ?side1 ?side2 A28.out).mono ?_); (case side1 => repeat (first | exact (Kd.R_reads' HO_6.out).2.2 | (with_reducible refine Kd.C_alloc ?_ _) | (with_reducible refine Kd.C_drewN ?_ _) | (with_reducible refine Kd.C_drew ?_))); (case side2 => exact (Kd.R_reads' HO_6.out).2.1); rintro e w31 ⟨v332, rfl, ho0, hb⟩; refine ⟨_, rfl, ?_⟩; have n0_ := Aside0.mk (Kd.R_below (by (with_reducible repeat (first | apply Kd.R_alloc | apply Kd.R_drewN | apply Kd.R_drew)); exact HO_5.out) hb); have n1_ := Aside0.mk (Kd.R_elder' (by (with_reducible repeat (first | apply Kd.R_alloc | apply Kd.R_drewN | apply Kd.R_drew)); exact HO_6.out) (Kd.R_base ho0) hb); have n2_ := Aside0.mk (Kd.R_lower (Kd.R_new' ho0 (Kd.R_lt (by (with_reducible repeat (first | apply Kd.R_alloc | apply Kd.R_drewN | apply Kd.R_drew)); exact HO_6.out))) (below_size (by repeat (first | (with_reducible first | exact HB.out | apply below_alloc | apply pw_below_drewN | apply below_drew1) | exact HB.out)))); have n3_ := Aside0.mk (below_step (by repeat (first | (with_reducible first | exact HB.out | apply below_alloc | apply pw_below_drewN | apply below_drew1) | exact HB.out)) hb); clear HO_5; clear HO_6; clear HB; have HO_5 := n0_; have HO_6 := n1_; have HO333 := n2_; have HB := n3_; clear n0_ n1_ n2_ n3_; (try clear hb); (try clear hb2); (try clear hk); (try clear hi); (try clear ho0); obtain ⟨Ao32, co32, eo32⟩ := Kd.R_slice HO333.out; subst eo32) | ((with_reducible refine gate_callee (f := 15) rfl ?_); refine goesL_ (some 67) rfl rfl Try.func15 (by kernel_rfl) rfl #[.slice Ao32 t331.length co32, .int .i64 (wrap64 (Int.tmod (IntKind.u64.wrap (a1)) 300)), .int .i64 (t318.length : Int)] rfl (by (try simp only [List.map_toArray, List.map_cons, List.map_nil]); first | done | rfl | (simp only [List.length_drop, List.length_take]; rfl)) ?_; (with_reducible refine (edits_Keep.calls _ _ t331 (wrap64 (Int.tmod (IntKind.u64.wrap (a1)) 300)) (t318.length : Int) t334 t335 _ ?side1 ?side2 A29.out).mono ?_); (case side1 => repeat (first | exact (Kd.R_reads' HO333.out).2.2 | (with_reducible refine Kd.C_alloc ?_ _) | (with_reducible refine Kd.C_drewN ?_ _) | (with_reducible refine Kd.C_drew ?_))); (case side2 => exact (Kd.R_reads' HO333.out).2.1); rintro e w33 ⟨v336, rfl, ho0, hb⟩; refine ⟨_, rfl, ?_⟩; have n0_ := Aside0.mk (Kd.R_elder' (by (with_reducible repeat (first | apply Kd.R_alloc | apply Kd.R_drewN | apply Kd.R_drew)); exact HO_5.out) (Kd.R_base ho0) hb); have n1_ := Aside0.mk (Kd.R_below (by (with_reducible repeat (first | apply Kd.R_alloc | apply Kd.R_drewN | apply Kd.R_drew)); exact HO_6.out) hb); have n2_ := Aside0.mk (Kd.R_below (by (with_reducible repeat (first | apply Kd.R_alloc | apply Kd.R_drewN | apply Kd.R_drew)); exact HO333.out) hb); have n3_ := Aside0.mk (Kd.R_lower (Kd.R_new' ho0 (Kd.R_lt (by (with_reducible repeat (first | apply Kd.R_alloc | apply Kd.R_drewN | apply Kd.R_drew)); exact HO_5.out))) (below_size (by repeat (first | (with_reducible first | exact HB.out | apply below_alloc | apply pw_below_drewN | apply below_drew1) | exact HB.out)))); have n4_ := Aside0.mk (below_step (by repeat (first | (with_reducible first | exact HB.out | apply below_alloc | apply pw_below_drewN | apply below_drew1) | exact HB.out)) hb); clear HO_5; clear HO_6; clear HO333; clear HB; have HO_5 := n0_; have HO_6 := n1_; have HO333 := n2_; have HO337 := n3_; have HB := n4_; clear n0_ n1_ n2_ n3_ n4_; (try clear hb); (try clear hb2); (try clear hk); (try clear hi); (try clear ho0)))
                    (try simp only [Act.put, List.setIfInBounds_toArray, List.set_cons_zero, List.set_cons_succ])
                    go_cut [91] (fun v91 wc => ∃ (kq : Nat) (x91_29 : Bool), v91 = .bool x91_29 ∧ Aside0 (redlinelaw05_EditsBack.j2 kq (wrap64 (Int.tmod (IntKind.u64.wrap (a1)) 300)) t318 t321 t334 x91_29 = some r) ∧ Aside0 (kq ≤ kj20) ∧ Aside0 (Kd.R (Kd.int .i64) 3 wc w.heap.size (fun k_ => some k_ ≠ (v336 : Value).ownBlock) (.slice Ao13 t318.length co13) t318) ∧ Aside0 (Kd.R k54 54 wc w.heap.size (fun _ => True) (.slice Ao22 t321.length co22) t321) ∧ Aside0 (Kd.R (Kd.int .i64) 3 wc w.heap.size (fun k_ => some k_ ≠ ((.slice Ao13 t318.length co13) : Value).ownBlock) v336 t334) ∧ Aside0 (Below w.heap.size w wc))
                    case first =>
                      have H := HC30.out
                      clear HC30
                      by_cases c34 : t335 = 0
                      · rw [if_pos c34] at H
                        have c34b0 : (t335 == 0) = true := beq_iff_eq.mpr c34
                        have c34b1 : (t335 != 0) = false := bne_eq_false_iff_eq.mpr c34
                        clear c34
                        (first | rw [c34b0] | (simp only [i64_w, i32_w]; rw [c34b0]) | skip)
                        by_cases c35 : (t334.length : Int) = (wrap64 (Int.tmod (IntKind.u64.wrap (a1)) 300))
                        · rw [if_pos c35] at H
                          have c35b0 : ((t334.length : Int) == (wrap64 (Int.tmod (IntKind.u64.wrap (a1)) 300))) = true := beq_iff_eq.mpr c35
                          have c35b1 : ((t334.length : Int) != (wrap64 (Int.tmod (IntKind.u64.wrap (a1)) 300))) = false := bne_eq_false_iff_eq.mpr c35
                          clear c35
                          replace H := Option.bind_eq_some_iff.mp H
                          obtain ⟨t338, A360, H⟩ := H
                          replace H : ((redlineref05_Same.f kj20 t338 t321).bind fun t341 => (if t341 = true then ((edits_Cost.f t331).bind fun t342 => ((edits_Cost.f t321).bind fun t343 => (redlinelaw05_EditsBack.j2 kj20 (wrap64 (Int.tmod (IntKind.u64.wrap (a1)) 300)) t318 t321 t334 (t342 != t343)))) else (redlinelaw05_EditsBack.j2 kj20 (wrap64 (Int.tmod (IntKind.u64.wrap (a1)) 300)) t318 t321 t334 true))) = some r := H
                          have A36 := Aside0.mk A360
                          clear A360
                          replace H := Option.bind_eq_some_iff.mp H
                          obtain ⟨t341, A370, H⟩ := H
                          replace H : (if t341 = true then ((edits_Cost.f t331).bind fun t342 => ((edits_Cost.f t321).bind fun t343 => (redlinelaw05_EditsBack.j2 kj20 (wrap64 (Int.tmod (IntKind.u64.wrap (a1)) 300)) t318 t321 t334 (t342 != t343)))) else (redlinelaw05_EditsBack.j2 kj20 (wrap64 (Int.tmod (IntKind.u64.wrap (a1)) 300)) t318 t321 t334 true)) = some r := H
                          have A37 := Aside0.mk A370
                          clear A370
                          by_cases c38 : t341 = true
                          · subst c38
                            have H1 : ((edits_Cost.f t331).bind fun t342 => ((edits_Cost.f t321).bind fun t343 => (redlinelaw05_EditsBack.j2 kj20 (wrap64 (Int.tmod (IntKind.u64.wrap (a1)) 300)) t318 t321 t334 (t342 != t343)))) = some r := by rw [if_pos rfl] at H; exact H
                            clear H
                            have H := H1
                            clear H1
                            replace H := Option.bind_eq_some_iff.mp H
                            obtain ⟨t342, A390, H⟩ := H
                            replace H : ((edits_Cost.f t321).bind fun t343 => (redlinelaw05_EditsBack.j2 kj20 (wrap64 (Int.tmod (IntKind.u64.wrap (a1)) 300)) t318 t321 t334 (t342 != t343))) = some r := H
                            have A39 := Aside0.mk A390
                            clear A390
                            replace H := Option.bind_eq_some_iff.mp H
                            obtain ⟨t343, A400, H⟩ := H
                            replace H : (redlinelaw05_EditsBack.j2 kj20 (wrap64 (Int.tmod (IntKind.u64.wrap (a1)) 300)) t318 t321 t334 (t342 != t343)) = some r := H
                            have A40 := Aside0.mk A400
                            clear A400
                            have H' := Aside0.mk H
                            clear H
                            obtain ⟨Ao41, co41, eo41⟩ := Kd.R_slice HO337.out
                            subst eo41
                            go_wp2_with (first | (go_at_call 19; (with_reducible refine (edits_Invert.calls _ _ t331 t338 _ ?side1 ?side2 A36.out).mono ?_); (case side1 => repeat (first | exact (Kd.R_reads' HO333.out).2.2 | (with_reducible refine Kd.C_alloc ?_ _) | (with_reducible refine Kd.C_drewN ?_ _) | (with_reducible refine Kd.C_drew ?_))); (case side2 => exact (Kd.R_reads' HO333.out).2.1); rintro e w42 ⟨v339, rfl, ho0, hb⟩; have n0_ := Aside0.mk (Kd.R_below (by (with_reducible repeat (first | apply Kd.R_alloc | apply Kd.R_drewN | apply Kd.R_drew)); exact HO_5.out) hb); have n1_ := Aside0.mk (Kd.R_elder' (by (with_reducible repeat (first | apply Kd.R_alloc | apply Kd.R_drewN | apply Kd.R_drew)); exact HO_6.out) (Kd.R_base ho0) hb); have n2_ := Aside0.mk (Kd.R_elder' (by (with_reducible repeat (first | apply Kd.R_alloc | apply Kd.R_drewN | apply Kd.R_drew)); exact HO333.out) (Kd.R_base ho0) hb); have n3_ := Aside0.mk (Kd.R_below (by (with_reducible repeat (first | apply Kd.R_alloc | apply Kd.R_drewN | apply Kd.R_drew)); exact HO337.out) hb); have n4_ := Aside0.mk (Kd.R_lower (Kd.R_new' (Kd.R_new' ho0 (Kd.R_lt (by (with_reducible repeat (first | apply Kd.R_alloc | apply Kd.R_drewN | apply Kd.R_drew)); exact HO_6.out))) (Kd.R_lt (by (with_reducible repeat (first | apply Kd.R_alloc | apply Kd.R_drewN | apply Kd.R_drew)); exact HO333.out))) (below_size (by repeat (first | (with_reducible first | exact HB.out | apply below_alloc | apply pw_below_drewN | apply below_drew1) | exact HB.out)))); have n5_ := Aside0.mk (below_step (by repeat (first | (with_reducible first | exact HB.out | apply below_alloc | apply pw_below_drewN | apply below_drew1) | exact HB.out)) hb); clear HO_5; clear HO_6; clear HO333; clear HO337; clear HB; have HO_5 := n0_; have HO_6 := n1_; have HO333 := n2_; have HO337 := n3_; have HO340 := n4_; have HB := n5_; clear n0_ n1_ n2_ n3_ n4_ n5_; (try clear hb); (try clear hb2); (try clear hk); (try clear hi); (try clear ho0); obtain ⟨Ao43, co43, eo43⟩ := Kd.R_slice HO340.out; subst eo43) | (go_at_call 18; (with_reducible refine (redlineref05_Same.calls kj20 _ _ t338 _ _ t321 true _ ?side1 ?side2 ?side3 ?side4 A37.out).mono ?_); (case side1 => repeat (first | exact (Kd.R_reads' HO340.out).2.2 | (with_reducible refine Kd.C_alloc ?_ _) | (with_reducible refine Kd.C_drewN ?_ _) | (with_reducible refine Kd.C_drew ?_))); (case side2 => exact (Kd.R_reads' HO340.out).2.1); (case side3 => repeat (first | exact (Kd.R_reads' HO_6.out).2.2 | (with_reducible refine Kd.C_alloc ?_ _) | (with_reducible refine Kd.C_drewN ?_ _) | (with_reducible refine Kd.C_drew ?_))); (case side4 => exact (Kd.R_reads' HO_6.out).2.1); rintro e w' ⟨rfl, ⟨nd, rfl⟩⟩) | (go_at_call 21; (with_reducible refine (edits_Cost.calls _ _ t331 t342 _ ?side1 ?side2 A39.out).mono ?_); (case side1 => repeat (first | exact (Kd.R_reads' HO333.out).2.2 | (with_reducible refine Kd.C_alloc ?_ _) | (with_reducible refine Kd.C_drewN ?_ _) | (with_reducible refine Kd.C_drew ?_))); (case side2 => exact (Kd.R_reads' HO333.out).2.1); rintro e w44 ⟨rfl, hb⟩; have n0_ := Aside0.mk (Kd.R_below (by (with_reducible repeat (first | apply Kd.R_alloc | apply Kd.R_drewN | apply Kd.R_drew)); exact HO_5.out) hb); have n1_ := Aside0.mk (Kd.R_below (by (with_reducible repeat (first | apply Kd.R_alloc | apply Kd.R_drewN | apply Kd.R_drew)); exact HO_6.out) hb); have n2_ := Aside0.mk (Kd.R_below (by (with_reducible repeat (first | apply Kd.R_alloc | apply Kd.R_drewN | apply Kd.R_drew)); exact HO333.out) hb); have n3_ := Aside0.mk (Kd.R_below (by (with_reducible repeat (first | apply Kd.R_alloc | apply Kd.R_drewN | apply Kd.R_drew)); exact HO337.out) hb); have n4_ := Aside0.mk (Kd.R_below (by (with_reducible repeat (first | apply Kd.R_alloc | apply Kd.R_drewN | apply Kd.R_drew)); exact HO340.out) hb); have n5_ := Aside0.mk (below_step (by repeat (first | (with_reducible first | exact HB.out | apply below_alloc | apply pw_below_drewN | apply below_drew1) | exact HB.out)) hb); clear HO_5; clear HO_6; clear HO333; clear HO337; clear HO340; clear HB; have HO_5 := n0_; have HO_6 := n1_; have HO333 := n2_; have HO337 := n3_; have HO340 := n4_; have HB := n5_; clear n0_ n1_ n2_ n3_ n4_ n5_; (try clear hb); (try clear hb2); (try clear hk); (try clear hi)) | (go_at_call 21; (with_reducible refine (edits_Cost.calls _ _ t321 t343 _ ?side1 ?side2 A40.out).mono ?_); (case side1 => repeat (first | exact (Kd.R_reads' HO_6.out).2.2 | (with_reducible refine Kd.C_alloc ?_ _) | (with_reducible refine Kd.C_drewN ?_ _) | (with_reducible refine Kd.C_drew ?_))); (case side2 => exact (Kd.R_reads' HO_6.out).2.1); rintro e w45 ⟨rfl, hb⟩; have n0_ := Aside0.mk (Kd.R_below (by (with_reducible repeat (first | apply Kd.R_alloc | apply Kd.R_drewN | apply Kd.R_drew)); exact HO_5.out) hb); have n1_ := Aside0.mk (Kd.R_below (by (with_reducible repeat (first | apply Kd.R_alloc | apply Kd.R_drewN | apply Kd.R_drew)); exact HO_6.out) hb); have n2_ := Aside0.mk (Kd.R_below (by (with_reducible repeat (first | apply Kd.R_alloc | apply Kd.R_drewN | apply Kd.R_drew)); exact HO333.out) hb); have n3_ := Aside0.mk (Kd.R_below (by (with_reducible repeat (first | apply Kd.R_alloc | apply Kd.R_drewN | apply Kd.R_drew)); exact HO337.out) hb); have n4_ := Aside0.mk (Kd.R_below (by (with_reducible repeat (first | apply Kd.R_alloc | apply Kd.R_drewN | apply Kd.R_drew)); exact HO340.out) hb); have n5_ := Aside0.mk (below_step (by repeat (first | (with_reducible first | exact HB.out | apply below_alloc | apply pw_below_drewN | apply below_drew1) | exact HB.out)) hb); clear HO_5; clear HO_6; clear HO333; clear HO337; clear HO340; clear HB; have HO_5 := n0_; have HO_6 := n1_; have HO333 := n2_; have HO337 := n3_; have HO340 := n4_; have HB := n5_; clear n0_ n1_ n2_ n3_ n4_ n5_; (try clear hb); (try clear hb2); (try clear hk); (try clear hi)))
                            go_meet
                            case rel => exact ⟨_, ((t342 != t343)), (by first | rfl | (simp; done) | (simp [*]; done)), H', ⟨by have := HJ8.out; have := HJ20.out; first | omega | exact Nat.le_refl _⟩, ⟨by (with_reducible repeat (first | apply Kd.R_alloc | apply Kd.R_drewN | apply Kd.R_drew)); exact Kd.R_mono HO_5.out (fun _ hk => hk.2)⟩, ⟨by (with_reducible repeat (first | apply Kd.R_alloc | apply Kd.R_drewN | apply Kd.R_drew)); exact Kd.R_mono HO_6.out (fun _ hk => trivial)⟩, ⟨by (with_reducible repeat (first | apply Kd.R_alloc | apply Kd.R_drewN | apply Kd.R_drew)); exact Kd.R_mono HO337.out (fun _ hk => hk.2)⟩, ⟨by repeat (first | (with_reducible first | exact HB.out | apply below_alloc | apply pw_below_drewN | apply below_drew1) | exact HB.out)⟩⟩
                          · replace c38 := Bool.eq_false_iff.mpr c38
                            subst c38
                            have H1 : (redlinelaw05_EditsBack.j2 kj20 (wrap64 (Int.tmod (IntKind.u64.wrap (a1)) 300)) t318 t321 t334 true) = some r := by rw [if_neg (show ¬ (false = true) by decide)] at H; exact H
                            clear H
                            have H := H1
                            clear H1
                            have H' := Aside0.mk H
                            clear H
                            obtain ⟨Ao46, co46, eo46⟩ := Kd.R_slice HO337.out
                            subst eo46
                            go_wp2_with (first | (go_at_call 19; (with_reducible refine (edits_Invert.calls _ _ t331 t338 _ ?side1 ?side2 A36.out).mono ?_); (case side1 => repeat (first | exact (Kd.R_reads' HO333.out).2.2 | (with_reducible refine Kd.C_alloc ?_ _) | (with_reducible refine Kd.C_drewN ?_ _) | (with_reducible refine Kd.C_drew ?_))); (case side2 => exact (Kd.R_reads' HO333.out).2.1); rintro e w47 ⟨v339, rfl, ho0, hb⟩; have n0_ := Aside0.mk (Kd.R_below (by (with_reducible repeat (first | apply Kd.R_alloc | apply Kd.R_drewN | apply Kd.R_drew)); exact HO_5.out) hb); have n1_ := Aside0.mk (Kd.R_elder' (by (with_reducible repeat (first | apply Kd.R_alloc | apply Kd.R_drewN | apply Kd.R_drew)); exact HO_6.out) (Kd.R_base ho0) hb); have n2_ := Aside0.mk (Kd.R_elder' (by (with_reducible repeat (first | apply Kd.R_alloc | apply Kd.R_drewN | apply Kd.R_drew)); exact HO333.out) (Kd.R_base ho0) hb); have n3_ := Aside0.mk (Kd.R_below (by (with_reducible repeat (first | apply Kd.R_alloc | apply Kd.R_drewN | apply Kd.R_drew)); exact HO337.out) hb); have n4_ := Aside0.mk (Kd.R_lower (Kd.R_new' (Kd.R_new' ho0 (Kd.R_lt (by (with_reducible repeat (first | apply Kd.R_alloc | apply Kd.R_drewN | apply Kd.R_drew)); exact HO_6.out))) (Kd.R_lt (by (with_reducible repeat (first | apply Kd.R_alloc | apply Kd.R_drewN | apply Kd.R_drew)); exact HO333.out))) (below_size (by repeat (first | (with_reducible first | exact HB.out | apply below_alloc | apply pw_below_drewN | apply below_drew1) | exact HB.out)))); have n5_ := Aside0.mk (below_step (by repeat (first | (with_reducible first | exact HB.out | apply below_alloc | apply pw_below_drewN | apply below_drew1) | exact HB.out)) hb); clear HO_5; clear HO_6; clear HO333; clear HO337; clear HB; have HO_5 := n0_; have HO_6 := n1_; have HO333 := n2_; have HO337 := n3_; have HO340 := n4_; have HB := n5_; clear n0_ n1_ n2_ n3_ n4_ n5_; (try clear hb); (try clear hb2); (try clear hk); (try clear hi); (try clear ho0); obtain ⟨Ao48, co48, eo48⟩ := Kd.R_slice HO340.out; subst eo48) | (go_at_call 18; (with_reducible refine (redlineref05_Same.calls kj20 _ _ t338 _ _ t321 false _ ?side1 ?side2 ?side3 ?side4 A37.out).mono ?_); (case side1 => repeat (first | exact (Kd.R_reads' HO340.out).2.2 | (with_reducible refine Kd.C_alloc ?_ _) | (with_reducible refine Kd.C_drewN ?_ _) | (with_reducible refine Kd.C_drew ?_))); (case side2 => exact (Kd.R_reads' HO340.out).2.1); (case side3 => repeat (first | exact (Kd.R_reads' HO_6.out).2.2 | (with_reducible refine Kd.C_alloc ?_ _) | (with_reducible refine Kd.C_drewN ?_ _) | (with_reducible refine Kd.C_drew ?_))); (case side4 => exact (Kd.R_reads' HO_6.out).2.1); rintro e w' ⟨rfl, ⟨nd, rfl⟩⟩))
                            go_meet
                            case rel => exact ⟨_, (true), (by first | rfl | (simp; done) | (simp [*]; done)), H', ⟨by have := HJ8.out; have := HJ20.out; first | omega | exact Nat.le_refl _⟩, ⟨by (with_reducible repeat (first | apply Kd.R_alloc | apply Kd.R_drewN | apply Kd.R_drew)); exact Kd.R_mono HO_5.out (fun _ hk => hk.2)⟩, ⟨by (with_reducible repeat (first | apply Kd.R_alloc | apply Kd.R_drewN | apply Kd.R_drew)); exact Kd.R_mono HO_6.out (fun _ hk => trivial)⟩, ⟨by (with_reducible repeat (first | apply Kd.R_alloc | apply Kd.R_drewN | apply Kd.R_drew)); exact Kd.R_mono HO337.out (fun _ hk => hk.2)⟩, ⟨by repeat (first | (with_reducible first | exact HB.out | apply below_alloc | apply pw_below_drewN | apply below_drew1) | exact HB.out)⟩⟩
                        · rw [if_neg c35] at H
                          have c35b0 : ((t334.length : Int) == (wrap64 (Int.tmod (IntKind.u64.wrap (a1)) 300))) = false := beq_eq_false_iff_ne.mpr c35
                          have c35b1 : ((t334.length : Int) != (wrap64 (Int.tmod (IntKind.u64.wrap (a1)) 300))) = true := bne_iff_ne.mpr c35
                          have H' := Aside0.mk H
                          clear H
                          obtain ⟨Ao49, co49, eo49⟩ := Kd.R_slice HO337.out
                          subst eo49
                          go_wp2
                          go_meet
                          case rel => exact ⟨_, (true), (by first | rfl | (simp; done) | (simp [*]; done)), H', ⟨by have := HJ8.out; have := HJ20.out; first | omega | exact Nat.le_refl _⟩, ⟨by (with_reducible repeat (first | apply Kd.R_alloc | apply Kd.R_drewN | apply Kd.R_drew)); exact Kd.R_mono HO_5.out (fun _ hk => hk.2)⟩, ⟨by (with_reducible repeat (first | apply Kd.R_alloc | apply Kd.R_drewN | apply Kd.R_drew)); exact Kd.R_mono HO_6.out (fun _ hk => trivial)⟩, ⟨by (with_reducible repeat (first | apply Kd.R_alloc | apply Kd.R_drewN | apply Kd.R_drew)); exact Kd.R_mono HO337.out (fun _ hk => hk.2)⟩, ⟨by repeat (first | (with_reducible first | exact HB.out | apply below_alloc | apply pw_below_drewN | apply below_drew1) | exact HB.out)⟩⟩
                      · rw [if_neg c34] at H
                        have c34b0 : (t335 == 0) = false := beq_eq_false_iff_ne.mpr c34
                        have c34b1 : (t335 != 0) = true := bne_iff_ne.mpr c34
                        (first | rw [c34b0] | (simp only [i64_w, i32_w]; rw [c34b0]) | skip)
                        have H' := Aside0.mk H
                        clear H
                        go_wp2
                        go_meet
                        case rel => exact ⟨_, (true), (by first | rfl | (simp; done) | (simp [*]; done)), H', ⟨by have := HJ8.out; have := HJ20.out; first | omega | exact Nat.le_refl _⟩, ⟨by (with_reducible repeat (first | apply Kd.R_alloc | apply Kd.R_drewN | apply Kd.R_drew)); exact Kd.R_mono HO_5.out (fun _ hk => hk.2)⟩, ⟨by (with_reducible repeat (first | apply Kd.R_alloc | apply Kd.R_drewN | apply Kd.R_drew)); exact Kd.R_mono HO_6.out (fun _ hk => trivial)⟩, ⟨by (with_reducible repeat (first | apply Kd.R_alloc | apply Kd.R_drewN | apply Kd.R_drew)); exact Kd.R_mono HO337.out (fun _ hk => hk.2)⟩, ⟨by repeat (first | (with_reducible first | exact HB.out | apply below_alloc | apply pw_below_drewN | apply below_drew1) | exact HB.out)⟩⟩
                    case rest =>
                      clear HC30
                      try clear c1
                      try clear c2
                      try clear p2
                      try clear c3
                      try clear c4
                      try clear c5
                      try clear c5b0
                      try clear c5b1
                      try clear c6
                      try clear c6b0
                      try clear c6b1
                      try clear p6
                      try clear c15
                      try clear c15b0
                      try clear c15b1
                      try clear c19
                      try clear c24
                      try clear c24b0
                      try clear c24b1
                      try clear c25
                      try clear c26
                      try clear c27
                      try clear c34
                      try clear c34b0
                      try clear c34b1
                      try clear c35
                      try clear c35b0
                      try clear c35b1
                      try clear c38
                      try clear p2
                      try clear p6
                      obtain ⟨kq, x91_29, rfl, HA, HJ29, HO_5, HO_6, HO_10, HB⟩ := hcut
                      cases kq with
                      | zero => exact absurd HA.out (by simp [redlinelaw05_EditsBack.j2])
                      | succ kj29 =>
                        have H := HA.out
                        clear HA
                        simp only [redlinelaw05_EditsBack.j2] at H
                        by_cases c50 : x91_29 = true
                        · subst c50
                          have H1 : (some false) = some r := by rw [if_pos rfl] at H; exact H
                          clear H
                          have H := H1
                          clear H1
                          obtain rfl := Option.some.inj H
                          go_wp2
                          go_ret
                          exact ⟨by first | rfl | (simp [errW_none, errW_some] <;> rfl) | (simp [*, errW_none, errW_some] <;> rfl), by repeat (first | (with_reducible first | exact HB.out | apply below_alloc | apply pw_below_drewN | apply below_drew1) | exact HB.out)⟩
                        · replace c50 := Bool.eq_false_iff.mpr c50
                          subst c50
                          have H1 : (redlinelaw05_EditsBack.l0 kj29 (wrap64 (Int.tmod (IntKind.u64.wrap (a1)) 300)) t318 t321 t334 0 0) = some r := by rw [if_neg (show ¬ (false = true) by decide)] at H; exact H
                          clear H
                          have H := H1
                          clear H1
                          have H' := Aside0.mk H
                          clear H
                          go_wp2
                          go_loopg [11, 12] kj29 (fun kq v11 v12 w' => ∃ (x11_4 : Int) (x12_4 : Int), v11 = .int .i64 x11_4 ∧ v12 = .int .i64 x12_4 ∧ Aside0 (redlinelaw05_EditsBack.l0 kq (wrap64 (Int.tmod (IntKind.u64.wrap (a1)) 300)) t318 t321 t334 x11_4 x12_4 = some r) ∧ Aside0 (kq ≤ kj29) ∧ Aside0 (Kd.R (Kd.int .i64) 3 w' w.heap.size (fun k_ => some k_ ≠ (v336 : Value).ownBlock) (.slice Ao13 t318.length co13) t318) ∧ Aside0 (Kd.R k54 54 w' w.heap.size (fun _ => True) (.slice Ao22 t321.length co22) t321) ∧ Aside0 (Kd.R (Kd.int .i64) 3 w' w.heap.size (fun k_ => some k_ ≠ ((.slice Ao13 t318.length co13) : Value).ownBlock) v336 t334) ∧ Aside0 (Below w.heap.size w w'))
                          case atStart => exact ⟨(0), (0), (by first | rfl | (simp; done) | (simp [*]; done)), (by first | rfl | (simp; done) | (simp [*]; done)), H', ⟨Nat.le_refl _⟩, ⟨by (with_reducible repeat (first | apply Kd.R_alloc | apply Kd.R_drewN | apply Kd.R_drew)); exact HO_5.out⟩, ⟨by (with_reducible repeat (first | apply Kd.R_alloc | apply Kd.R_drewN | apply Kd.R_drew)); exact HO_6.out⟩, ⟨by (with_reducible repeat (first | apply Kd.R_alloc | apply Kd.R_drewN | apply Kd.R_drew)); exact HO_10.out⟩, ⟨by repeat (first | (with_reducible first | exact HB.out | apply below_alloc | apply pw_below_drewN | apply below_drew1) | exact HB.out)⟩⟩
                          case round =>
                            clear H'
                            try clear c1
                            try clear c2
                            try clear p2
                            try clear c3
                            try clear c4
                            try clear c5
                            try clear c5b0
                            try clear c5b1
                            try clear c6
                            try clear c6b0
                            try clear c6b1
                            try clear p6
                            try clear c15
                            try clear c15b0
                            try clear c15b1
                            try clear c19
                            try clear c24
                            try clear c24b0
                            try clear c24b1
                            try clear c25
                            try clear c26
                            try clear c27
                            try clear c34
                            try clear c34b0
                            try clear c34b1
                            try clear c35
                            try clear c35b0
                            try clear c35b1
                            try clear c38
                            try clear c50
                            try clear p2
                            try clear p6
                            obtain ⟨x11_4, x12_4, rfl, rfl, HA, HK4, HO_5, HO_6, HO_10, HB⟩ := hrel
                            cases gk with
                            | zero => exact absurd HA.out (by simp [redlinelaw05_EditsBack.l0])
                            | succ k4 =>
                              have H := HA.out
                              clear HA
                              simp only [redlinelaw05_EditsBack.l0] at H
                              by_cases c51 : x12_4 < (t318.length : Int)
                              · rw [if_pos c51] at H
                                have c51b0 : decide (x12_4 < (t318.length : Int)) = true := decide_eq_true c51
                                clear c51
                                by_cases c52 : 0 ≤ x12_4
                                · rw [if_pos c52] at H
                                  have c52b0 : decide (0 ≤ x12_4) = true := decide_eq_true c52
                                  clear c52
                                  by_cases c53 : (rd t318 x12_4) ≥ 0
                                  · rw [if_pos c53] at H
                                    have c53b0 : decide (0 ≤ (rd t318 x12_4)) = true := decide_eq_true c53
                                    clear c53
                                    by_cases c54 : 0 ≤ (rd t318 x12_4)
                                    · rw [if_pos c54] at H
                                      have c54b0 : decide (0 ≤ (rd t318 x12_4)) = true := decide_eq_true c54
                                      clear c54
                                      by_cases c55 : (rd t318 x12_4) < (t334.length : Int)
                                      · rw [if_pos c55] at H
                                        have c55b0 : decide ((rd t318 x12_4) < (t334.length : Int)) = true := decide_eq_true c55
                                        clear c55
                                        by_cases c56 : (rd t334 (rd t318 x12_4)) = x12_4
                                        · rw [if_pos c56] at H
                                          have c56b0 : ((rd t334 (rd t318 x12_4)) == x12_4) = true := beq_iff_eq.mpr c56
                                          have c56b1 : ((rd t334 (rd t318 x12_4)) != x12_4) = false := bne_eq_false_iff_eq.mpr c56
                                          clear c56
                                          have H' := Aside0.mk H
                                          clear H
                                          have p344 : 0 ≤ (x12_4 : Int) := of_decide_eq_true (by first | (with_reducible assumption) | assumption)
                                          have q344 : x12_4 < (t318.length : Int) := of_decide_eq_true (by first | (with_reducible assumption) | assumption)
                                          obtain ⟨ad344, e344, hx344_0⟩ := Kd.at_int (Kd.R_reads' HO_5.out).2.2 x12_4 p344 q344
                                          cases e344
                                          replace p344 := eq_true p344
                                          replace q344 := eq_true q344
                                          have p345 : 0 ≤ (x12_4 : Int) := of_decide_eq_true (by first | (with_reducible assumption) | assumption)
                                          have q345 : x12_4 < (t318.length : Int) := of_decide_eq_true (by first | (with_reducible assumption) | assumption)
                                          obtain ⟨ad345, e345, hx345_0⟩ := Kd.at_int (Kd.R_reads' HO_5.out).2.2 x12_4 p345 q345
                                          obtain rfl : ad344 = ad345 := (by injection e345)
                                          replace p345 := eq_true p345
                                          replace q345 := eq_true q345
                                          obtain ⟨Ao57, co57, eo57⟩ := Kd.R_slice HO_10.out
                                          subst eo57
                                          have p346 : 0 ≤ ((rd t318 x12_4) : Int) := of_decide_eq_true (by first | (with_reducible assumption) | assumption)
                                          have q346 : (rd t318 x12_4) < (t334.length : Int) := of_decide_eq_true (by first | (with_reducible assumption) | assumption)
                                          obtain ⟨ad346, e346, hx346_0⟩ := Kd.at_int (Kd.R_reads' HO_10.out).2.2 (rd t318 x12_4) p346 q346
                                          cases e346
                                          replace p346 := eq_true p346
                                          replace q346 := eq_true q346
                                          go_wp2
                                          go_roundg k4
                                          case measure => have := HJ8.out; have := HJ20.out; have := HJ29.out; have := HK4.out; omega
                                          case rel => exact ⟨(wrap64 (x11_4 + 1)), (wrap64 (x12_4 + 1)), (by first | rfl | (simp; done) | (simp [*]; done)), (by first | rfl | (simp; done) | (simp [*]; done)), H', ⟨by have := HJ8.out; have := HJ20.out; have := HJ29.out; have := HK4.out; omega⟩, ⟨by (with_reducible repeat (first | apply Kd.R_alloc | apply Kd.R_drewN | apply Kd.R_drew)); exact HO_5.out⟩, ⟨by (with_reducible repeat (first | apply Kd.R_alloc | apply Kd.R_drewN | apply Kd.R_drew)); exact HO_6.out⟩, ⟨by (with_reducible repeat (first | apply Kd.R_alloc | apply Kd.R_drewN | apply Kd.R_drew)); exact HO_10.out⟩, ⟨by repeat (first | (with_reducible first | exact HB.out | apply below_alloc | apply pw_below_drewN | apply below_drew1) | exact HB.out)⟩⟩
                                        · rw [if_neg c56] at H
                                          have c56b0 : ((rd t334 (rd t318 x12_4)) == x12_4) = false := beq_eq_false_iff_ne.mpr c56
                                          have c56b1 : ((rd t334 (rd t318 x12_4)) != x12_4) = true := bne_iff_ne.mpr c56
                                          obtain rfl := Option.some.inj H
                                          have p344 : 0 ≤ (x12_4 : Int) := of_decide_eq_true (by first | (with_reducible assumption) | assumption)
                                          have q344 : x12_4 < (t318.length : Int) := of_decide_eq_true (by first | (with_reducible assumption) | assumption)
                                          obtain ⟨ad344, e344, hx344_0⟩ := Kd.at_int (Kd.R_reads' HO_5.out).2.2 x12_4 p344 q344
                                          cases e344
                                          replace p344 := eq_true p344
                                          replace q344 := eq_true q344
                                          have p345 : 0 ≤ (x12_4 : Int) := of_decide_eq_true (by first | (with_reducible assumption) | assumption)
                                          have q345 : x12_4 < (t318.length : Int) := of_decide_eq_true (by first | (with_reducible assumption) | assumption)
                                          obtain ⟨ad345, e345, hx345_0⟩ := Kd.at_int (Kd.R_reads' HO_5.out).2.2 x12_4 p345 q345
                                          obtain rfl : ad344 = ad345 := (by injection e345)
                                          replace p345 := eq_true p345
                                          replace q345 := eq_true q345
                                          obtain ⟨Ao58, co58, eo58⟩ := Kd.R_slice HO_10.out
                                          subst eo58
                                          have p346 : 0 ≤ ((rd t318 x12_4) : Int) := of_decide_eq_true (by first | (with_reducible assumption) | assumption)
                                          have q346 : (rd t318 x12_4) < (t334.length : Int) := of_decide_eq_true (by first | (with_reducible assumption) | assumption)
                                          obtain ⟨ad346, e346, hx346_0⟩ := Kd.at_int (Kd.R_reads' HO_10.out).2.2 (rd t318 x12_4) p346 q346
                                          cases e346
                                          replace p346 := eq_true p346
                                          replace q346 := eq_true q346
                                          go_wp2
                                          go_ret
                                          exact ⟨by first | rfl | (simp [errW_none, errW_some] <;> rfl) | (simp [*, errW_none, errW_some] <;> rfl), by repeat (first | (with_reducible first | exact HB.out | apply below_alloc | apply pw_below_drewN | apply below_drew1) | exact HB.out)⟩
                                      · rw [if_neg c55] at H
                                        exact absurd H (by simp)
                                    · rw [if_neg c54] at H
                                      exact absurd H (by simp)
                                  · rw [if_neg c53] at H
                                    have c53b0 : decide (0 ≤ (rd t318 x12_4)) = false := decide_eq_false c53
                                    clear c53
                                    have H' := Aside0.mk H
                                    clear H
                                    have p344 : 0 ≤ (x12_4 : Int) := of_decide_eq_true (by first | (with_reducible assumption) | assumption)
                                    have q344 : x12_4 < (t318.length : Int) := of_decide_eq_true (by first | (with_reducible assumption) | assumption)
                                    obtain ⟨ad344, e344, hx344_0⟩ := Kd.at_int (Kd.R_reads' HO_5.out).2.2 x12_4 p344 q344
                                    cases e344
                                    replace p344 := eq_true p344
                                    replace q344 := eq_true q344
                                    go_wp2
                                    go_roundg k4
                                    case measure => have := HJ8.out; have := HJ20.out; have := HJ29.out; have := HK4.out; omega
                                    case rel => exact ⟨(x11_4), (wrap64 (x12_4 + 1)), (by first | rfl | (simp; done) | (simp [*]; done)), (by first | rfl | (simp; done) | (simp [*]; done)), H', ⟨by have := HJ8.out; have := HJ20.out; have := HJ29.out; have := HK4.out; omega⟩, ⟨by (with_reducible repeat (first | apply Kd.R_alloc | apply Kd.R_drewN | apply Kd.R_drew)); exact HO_5.out⟩, ⟨by (with_reducible repeat (first | apply Kd.R_alloc | apply Kd.R_drewN | apply Kd.R_drew)); exact HO_6.out⟩, ⟨by (with_reducible repeat (first | apply Kd.R_alloc | apply Kd.R_drewN | apply Kd.R_drew)); exact HO_10.out⟩, ⟨by repeat (first | (with_reducible first | exact HB.out | apply below_alloc | apply pw_below_drewN | apply below_drew1) | exact HB.out)⟩⟩
                                · rw [if_neg c52] at H
                                  exact absurd H (by simp)
                              · rw [if_neg c51] at H
                                have c51b0 : decide (x12_4 < (t318.length : Int)) = false := decide_eq_false c51
                                clear c51
                                have H' := Aside0.mk H
                                clear H
                                go_wp2
                                go_loopg [11, 13] k4 (fun kq v11 v13 w' => ∃ (x11_5 : Int) (x13_5 : Int), v11 = .int .i64 x11_5 ∧ v13 = .int .i64 x13_5 ∧ Aside0 (redlinelaw05_EditsBack.l1 kq (wrap64 (Int.tmod (IntKind.u64.wrap (a1)) 300)) t318 t321 t334 x11_5 x13_5 = some r) ∧ Aside0 (kq ≤ k4) ∧ Aside0 (Kd.R (Kd.int .i64) 3 w' w.heap.size (fun k_ => some k_ ≠ (v336 : Value).ownBlock) (.slice Ao13 t318.length co13) t318) ∧ Aside0 (Kd.R k54 54 w' w.heap.size (fun _ => True) (.slice Ao22 t321.length co22) t321) ∧ Aside0 (Kd.R (Kd.int .i64) 3 w' w.heap.size (fun k_ => some k_ ≠ ((.slice Ao13 t318.length co13) : Value).ownBlock) v336 t334) ∧ Aside0 (Below w.heap.size w w'))
                                case atStart => exact ⟨(x11_4), (0), (by first | rfl | (simp; done) | (simp [*]; done)), (by first | rfl | (simp; done) | (simp [*]; done)), H', ⟨Nat.le_refl _⟩, ⟨by (with_reducible repeat (first | apply Kd.R_alloc | apply Kd.R_drewN | apply Kd.R_drew)); exact HO_5.out⟩, ⟨by (with_reducible repeat (first | apply Kd.R_alloc | apply Kd.R_drewN | apply Kd.R_drew)); exact HO_6.out⟩, ⟨by (with_reducible repeat (first | apply Kd.R_alloc | apply Kd.R_drewN | apply Kd.R_drew)); exact HO_10.out⟩, ⟨by repeat (first | (with_reducible first | exact HB.out | apply below_alloc | apply pw_below_drewN | apply below_drew1) | exact HB.out)⟩⟩
                                case round =>
                                  clear H'
                                  try clear c1
                                  try clear c2
                                  try clear p2
                                  try clear c3
                                  try clear p3
                                  try clear q3
                                  try clear hx3
                                  try clear c4
                                  try clear c5
                                  try clear c5b0
                                  try clear c5b1
                                  try clear c6
                                  try clear c6b0
                                  try clear c6b1
                                  try clear p6
                                  try clear c15
                                  try clear c15b0
                                  try clear c15b1
                                  try clear c19
                                  try clear c24
                                  try clear c24b0
                                  try clear c24b1
                                  try clear c25
                                  try clear c26
                                  try clear c27
                                  try clear c34
                                  try clear c34b0
                                  try clear c34b1
                                  try clear p34
                                  try clear q34
                                  try clear hx34
                                  try clear c35
                                  try clear c35b0
                                  try clear c35b1
                                  try clear c38
                                  try clear c50
                                  try clear c51
                                  try clear c51b0
                                  try clear c52
                                  try clear c52b0
                                  try clear c53
                                  try clear c53b0
                                  try clear c54
                                  try clear c54b0
                                  try clear c55
                                  try clear c55b0
                                  try clear c56
                                  try clear c56b0
                                  try clear c56b1
                                  try clear hx344_0
                                  try clear hx345_0
                                  try clear hx346_0
                                  try clear p2
                                  try clear p344
                                  try clear p345
                                  try clear p346
                                  try clear p6
                                  try clear q344
                                  try clear q345
                                  try clear q346
                                  obtain ⟨x11_5, x13_5, rfl, rfl, HA, HK5, HO_5, HO_6, HO_10, HB⟩ := hrel
                                  cases gk with
                                  | zero => exact absurd HA.out (by simp [redlinelaw05_EditsBack.l1])
                                  | succ k5 =>
                                    have H := HA.out
                                    clear HA
                                    simp only [redlinelaw05_EditsBack.l1] at H
                                    by_cases c59 : x13_5 < (wrap64 (Int.tmod (IntKind.u64.wrap (a1)) 300))
                                    · rw [if_pos c59] at H
                                      have c59b0 : decide (x13_5 < (wrap64 (Int.tmod (IntKind.u64.wrap (a1)) 300))) = true := decide_eq_true c59
                                      clear c59
                                      by_cases c60 : 0 ≤ x13_5
                                      · rw [if_pos c60] at H
                                        have c60b0 : decide (0 ≤ x13_5) = true := decide_eq_true c60
                                        clear c60
                                        by_cases c61 : x13_5 < (t334.length : Int)
                                        · rw [if_pos c61] at H
                                          have c61b0 : decide (x13_5 < (t334.length : Int)) = true := decide_eq_true c61
                                          clear c61
                                          by_cases c62 : (rd t334 x13_5) ≥ 0
                                          · rw [if_pos c62] at H
                                            have c62b0 : decide (0 ≤ (rd t334 x13_5)) = true := decide_eq_true c62
                                            clear c62
                                            have H' := Aside0.mk H
                                            clear H
                                            obtain ⟨Ao63, co63, eo63⟩ := Kd.R_slice HO_10.out
                                            subst eo63
                                            have p347 : 0 ≤ (x13_5 : Int) := of_decide_eq_true (by first | (with_reducible assumption) | assumption)
                                            have q347 : x13_5 < (t334.length : Int) := of_decide_eq_true (by first | (with_reducible assumption) | assumption)
                                            obtain ⟨ad347, e347, hx347_0⟩ := Kd.at_int (Kd.R_reads' HO_10.out).2.2 x13_5 p347 q347
                                            cases e347
                                            replace p347 := eq_true p347
                                            replace q347 := eq_true q347
                                            go_wp2
                                            go_roundg k5
                                            case measure => have := HJ8.out; have := HJ20.out; have := HJ29.out; have := HK4.out; have := HK5.out; omega
                                            case rel => exact ⟨(wrap64 (x11_5 - 1)), (wrap64 (x13_5 + 1)), (by first | rfl | (simp; done) | (simp [*]; done)), (by first | rfl | (simp; done) | (simp [*]; done)), H', ⟨by have := HJ8.out; have := HJ20.out; have := HJ29.out; have := HK4.out; have := HK5.out; omega⟩, ⟨by (with_reducible repeat (first | apply Kd.R_alloc | apply Kd.R_drewN | apply Kd.R_drew)); exact HO_5.out⟩, ⟨by (with_reducible repeat (first | apply Kd.R_alloc | apply Kd.R_drewN | apply Kd.R_drew)); exact HO_6.out⟩, ⟨by (with_reducible repeat (first | apply Kd.R_alloc | apply Kd.R_drewN | apply Kd.R_drew)); exact HO_10.out⟩, ⟨by repeat (first | (with_reducible first | exact HB.out | apply below_alloc | apply pw_below_drewN | apply below_drew1) | exact HB.out)⟩⟩
                                          · rw [if_neg c62] at H
                                            have c62b0 : decide (0 ≤ (rd t334 x13_5)) = false := decide_eq_false c62
                                            clear c62
                                            have H' := Aside0.mk H
                                            clear H
                                            obtain ⟨Ao64, co64, eo64⟩ := Kd.R_slice HO_10.out
                                            subst eo64
                                            have p347 : 0 ≤ (x13_5 : Int) := of_decide_eq_true (by first | (with_reducible assumption) | assumption)
                                            have q347 : x13_5 < (t334.length : Int) := of_decide_eq_true (by first | (with_reducible assumption) | assumption)
                                            obtain ⟨ad347, e347, hx347_0⟩ := Kd.at_int (Kd.R_reads' HO_10.out).2.2 x13_5 p347 q347
                                            cases e347
                                            replace p347 := eq_true p347
                                            replace q347 := eq_true q347
                                            go_wp2
                                            go_roundg k5
                                            case measure => have := HJ8.out; have := HJ20.out; have := HJ29.out; have := HK4.out; have := HK5.out; omega
                                            case rel => exact ⟨(x11_5), (wrap64 (x13_5 + 1)), (by first | rfl | (simp; done) | (simp [*]; done)), (by first | rfl | (simp; done) | (simp [*]; done)), H', ⟨by have := HJ8.out; have := HJ20.out; have := HJ29.out; have := HK4.out; have := HK5.out; omega⟩, ⟨by (with_reducible repeat (first | apply Kd.R_alloc | apply Kd.R_drewN | apply Kd.R_drew)); exact HO_5.out⟩, ⟨by (with_reducible repeat (first | apply Kd.R_alloc | apply Kd.R_drewN | apply Kd.R_drew)); exact HO_6.out⟩, ⟨by (with_reducible repeat (first | apply Kd.R_alloc | apply Kd.R_drewN | apply Kd.R_drew)); exact HO_10.out⟩, ⟨by repeat (first | (with_reducible first | exact HB.out | apply below_alloc | apply pw_below_drewN | apply below_drew1) | exact HB.out)⟩⟩
                                        · rw [if_neg c61] at H
                                          exact absurd H (by simp)
                                      · rw [if_neg c60] at H
                                        exact absurd H (by simp)
                                    · rw [if_neg c59] at H
                                      have c59b0 : decide (x13_5 < (wrap64 (Int.tmod (IntKind.u64.wrap (a1)) 300))) = false := decide_eq_false c59
                                      clear c59
                                      by_cases c65 : x11_5 = 0
                                      · rw [if_pos c65] at H
                                        have c65b0 : (x11_5 == 0) = true := beq_iff_eq.mpr c65
                                        have c65b1 : (x11_5 != 0) = false := bne_eq_false_iff_eq.mpr c65
                                        clear c65
                                        replace H := Option.bind_eq_some_iff.mp H
                                        obtain ⟨t348, A660, H⟩ := H
                                        replace H : ((redlinelaw05_taken.f k5 t318).bind fun t349 => (some (t348 == (wrap64 ((wrap64 ((t318.length : Int) + (wrap64 (Int.tmod (IntKind.u64.wrap (a1)) 300)))) - (wrap64 (2 * (wrap64 ((t318.length : Int) - t349))))))))) = some r := H
                                        have A66 := Aside0.mk A660
                                        clear A660
                                        replace H := Option.bind_eq_some_iff.mp H
                                        obtain ⟨t349, A670, H⟩ := H
                                        replace H : (some (t348 == (wrap64 ((wrap64 ((t318.length : Int) + (wrap64 (Int.tmod (IntKind.u64.wrap (a1)) 300)))) - (wrap64 (2 * (wrap64 ((t318.length : Int) - t349)))))))) = some r := H
                                        have A67 := Aside0.mk A670
                                        clear A670
                                        obtain rfl := Option.some.inj H
                                        go_wp2_with (first | (go_at_call 21; (with_reducible refine (edits_Cost.calls _ _ t321 t348 _ ?side1 ?side2 A66.out).mono ?_); (case side1 => repeat (first | exact (Kd.R_reads' HO_6.out).2.2 | (with_reducible refine Kd.C_alloc ?_ _) | (with_reducible refine Kd.C_drewN ?_ _) | (with_reducible refine Kd.C_drew ?_))); (case side2 => exact (Kd.R_reads' HO_6.out).2.1); rintro e w68 ⟨rfl, hb⟩; have n0_ := Aside0.mk (Kd.R_below (by (with_reducible repeat (first | apply Kd.R_alloc | apply Kd.R_drewN | apply Kd.R_drew)); exact HO_5.out) hb); have n1_ := Aside0.mk (Kd.R_below (by (with_reducible repeat (first | apply Kd.R_alloc | apply Kd.R_drewN | apply Kd.R_drew)); exact HO_6.out) hb); have n2_ := Aside0.mk (Kd.R_below (by (with_reducible repeat (first | apply Kd.R_alloc | apply Kd.R_drewN | apply Kd.R_drew)); exact HO_10.out) hb); have n3_ := Aside0.mk (below_step (by repeat (first | (with_reducible first | exact HB.out | apply below_alloc | apply pw_below_drewN | apply below_drew1) | exact HB.out)) hb); clear HO_5; clear HO_6; clear HO_10; clear HB; have HO_5 := n0_; have HO_6 := n1_; have HO_10 := n2_; have HB := n3_; clear n0_ n1_ n2_ n3_; (try clear hb); (try clear hb2); (try clear hk); (try clear hi)) | (go_at_call 28; (with_reducible refine (redlinelaw05_taken.calls k5 _ _ t318 t349 _ ?side1 ?side2 A67.out).mono ?_); (case side1 => repeat (first | exact (Kd.R_reads' HO_5.out).2.2 | (with_reducible refine Kd.C_alloc ?_ _) | (with_reducible refine Kd.C_drewN ?_ _) | (with_reducible refine Kd.C_drew ?_))); (case side2 => exact (Kd.R_reads' HO_5.out).2.1); rintro e w' ⟨rfl, ⟨nd, rfl⟩⟩))
                                        go_ret
                                        exact ⟨by first | rfl | (simp [errW_none, errW_some] <;> rfl) | (simp [*, errW_none, errW_some] <;> rfl), by repeat (first | (with_reducible first | exact HB.out | apply below_alloc | apply pw_below_drewN | apply below_drew1) | exact HB.out)⟩
                                      · rw [if_neg c65] at H
                                        have c65b0 : (x11_5 == 0) = false := beq_eq_false_iff_ne.mpr c65
                                        have c65b1 : (x11_5 != 0) = true := bne_iff_ne.mpr c65
                                        obtain rfl := Option.some.inj H
                                        go_wp2
                                        go_ret
                                        exact ⟨by first | rfl | (simp [errW_none, errW_some] <;> rfl) | (simp [*, errW_none, errW_some] <;> rfl), by repeat (first | (with_reducible first | exact HB.out | apply below_alloc | apply pw_below_drewN | apply below_drew1) | exact HB.out)⟩
      · rw [if_neg c6] at H
        exact absurd H (by simp)
    · rw [if_neg c5] at H
      have c5b0 : decide (300 < (l0.length : Int)) = false := decide_eq_false c5
      have c5b1 : decide (300 < l0.length) = false := decide_eq_false (by omega)
      clear c5
      replace H := Option.bind_eq_some_iff.mp H
      obtain ⟨t350, A690, H⟩ := H
      replace H : ((edits_Make.f t350 (wrap64 (Int.tmod (IntKind.u64.wrap (a1)) 300))).bind fun bt353 => (if bt353.2 = 0 then ((edits_Check.f k bt353.1 (t350.length : Int) (wrap64 (Int.tmod (IntKind.u64.wrap (a1)) 300))).bind fun t357 => (redlinelaw05_EditsBack.j5 k (wrap64 (Int.tmod (IntKind.u64.wrap (a1)) 300)) t350 bt353.1 (t357 != 0))) else (redlinelaw05_EditsBack.j5 k (wrap64 (Int.tmod (IntKind.u64.wrap (a1)) 300)) t350 bt353.1 true))) = some r := H
      have A69 := Aside0.mk A690
      clear A690
      replace H := Option.bind_eq_some_iff.mp H
      obtain ⟨⟨t353, t354⟩, A700, H⟩ := H
      replace H : (if t354 = 0 then ((edits_Check.f k t353 (t350.length : Int) (wrap64 (Int.tmod (IntKind.u64.wrap (a1)) 300))).bind fun t357 => (redlinelaw05_EditsBack.j5 k (wrap64 (Int.tmod (IntKind.u64.wrap (a1)) 300)) t350 t353 (t357 != 0))) else (redlinelaw05_EditsBack.j5 k (wrap64 (Int.tmod (IntKind.u64.wrap (a1)) 300)) t350 t353 true)) = some r := H
      have A70 := Aside0.mk A700
      clear A700
      have HC71 := Aside0.mk H
      clear H
      go_enter Try.func6, Try.ntmps6
      go_upto_region 8 with (first | ((with_reducible refine gate_callee (f := 25) rfl ?_); refine goesL_ (some 14) rfl rfl Try.func25 (by kernel_rfl) rfl #[] rfl (by (try simp only [List.map_toArray, List.map_cons, List.map_nil]); first | done | rfl | (simp only [List.length_drop, List.length_take]; rfl)) ?_; (with_reducible refine (redlinelaw05_works.calls k  true _ A3.out).mono ?_); rintro e w72 ⟨rfl, hb⟩; refine ⟨_, rfl, ?_⟩; have n0_ := Aside0.mk (below_step (by repeat (first | (with_reducible first | exact HB.out | apply below_alloc | apply pw_below_drewN | apply below_drew1) | exact HB.out)) hb); clear HB; have HB := n0_; clear n0_; (try clear hb); (try clear hb2); (try clear hk); (try clear hi)) | ((with_reducible refine gate_callee (f := 26) rfl ?_); refine goesL_ (some 27) rfl rfl Try.func26 (by kernel_rfl) rfl #[.slice A0 l0.length c0, .int .i64 (wrap64 (Int.tmod (IntKind.u64.wrap (a1)) 300))] rfl (by (try simp only [List.map_toArray, List.map_cons, List.map_nil]); first | done | rfl | (simp only [List.length_drop, List.length_take]; rfl)) ?_; (with_reducible refine (redlinelaw05_Kept.calls k _ _ l0 (wrap64 (Int.tmod (IntKind.u64.wrap (a1)) 300)) t350 _ ?side1 ?side2 A69.out).mono ?_); (case side1 => repeat (first | exact (Kd.C_below HR0.out HB.out) | (with_reducible refine Kd.C_alloc ?_ _) | (with_reducible refine Kd.C_drewN ?_ _) | (with_reducible refine Kd.C_drew ?_))); (case side2 => exact HC0.out); rintro e w73 ⟨v351, rfl, ho0, hb⟩; refine ⟨_, rfl, ?_⟩; have n0_ := Aside0.mk (Kd.R_lower ho0 (below_size (by repeat (first | (with_reducible first | exact HB.out | apply below_alloc | apply pw_below_drewN | apply below_drew1) | exact HB.out)))); have n1_ := Aside0.mk (below_step (by repeat (first | (with_reducible first | exact HB.out | apply below_alloc | apply pw_below_drewN | apply below_drew1) | exact HB.out)) hb); clear HB; have HO352 := n0_; have HB := n1_; clear n0_ n1_; (try clear hb); (try clear hb2); (try clear hk); (try clear hi); (try clear ho0); obtain ⟨Ao74, co74, eo74⟩ := Kd.R_slice HO352.out; subst eo74) | ((with_reducible refine gate_callee (f := 27) rfl ?_); refine goesL_ (some 31) rfl rfl Try.func27 (by kernel_rfl) rfl #[.slice Ao74 t350.length co74, .int .i64 (wrap64 (Int.tmod (IntKind.u64.wrap (a1)) 300))] rfl (by (try simp only [List.map_toArray, List.map_cons, List.map_nil]); first | done | rfl | (simp only [List.length_drop, List.length_take]; rfl)) ?_; (with_reducible refine (edits_Make.calls _ _ t350 (wrap64 (Int.tmod (IntKind.u64.wrap (a1)) 300)) t353 t354 _ ?side1 ?side2 A70.out).mono ?_); (case side1 => repeat (first | exact (Kd.R_reads' HO352.out).2.2 | (with_reducible refine Kd.C_alloc ?_ _) | (with_reducible refine Kd.C_drewN ?_ _) | (with_reducible refine Kd.C_drew ?_))); (case side2 => exact (Kd.R_reads' HO352.out).2.1); rintro e w75 ⟨v355, rfl, ho0, hb⟩; refine ⟨_, rfl, ?_⟩; have n0_ := Aside0.mk (Kd.R_below (by (with_reducible repeat (first | apply Kd.R_alloc | apply Kd.R_drewN | apply Kd.R_drew)); exact HO352.out) hb); have n1_ := Aside0.mk (Kd.R_lower ho0 (below_size (by repeat (first | (with_reducible first | exact HB.out | apply below_alloc | apply pw_below_drewN | apply below_drew1) | exact HB.out)))); have n2_ := Aside0.mk (below_step (by repeat (first | (with_reducible first | exact HB.out | apply below_alloc | apply pw_below_drewN | apply below_drew1) | exact HB.out)) hb); clear HO352; clear HB; have HO352 := n0_; have HO356 := n1_; have HB := n2_; clear n0_ n1_ n2_; (try clear hb); (try clear hb2); (try clear hk); (try clear hi); (try clear ho0)))
      (try simp only [Act.put, List.setIfInBounds_toArray, List.set_cons_zero, List.set_cons_succ])
      go_cut [43] (fun v43 wc => ∃ (kq : Nat) (x43_70 : Bool), v43 = .bool x43_70 ∧ Aside0 (redlinelaw05_EditsBack.j5 kq (wrap64 (Int.tmod (IntKind.u64.wrap (a1)) 300)) t350 t353 x43_70 = some r) ∧ Aside0 (kq ≤ k) ∧ Aside0 (Kd.R (Kd.int .i64) 3 wc w.heap.size (fun _ => True) (.slice Ao74 t350.length co74) t350) ∧ Aside0 (Kd.R k54 54 wc w.heap.size (fun _ => True) v355 t353) ∧ Aside0 (Below w.heap.size w wc))
      case first =>
        have H := HC71.out
        clear HC71
        by_cases c76 : t354 = 0
        · rw [if_pos c76] at H
          have c76b0 : (t354 == 0) = true := beq_iff_eq.mpr c76
          have c76b1 : (t354 != 0) = false := bne_eq_false_iff_eq.mpr c76
          clear c76
          (first | rw [c76b0] | (simp only [i64_w, i32_w]; rw [c76b0]) | skip)
          replace H := Option.bind_eq_some_iff.mp H
          obtain ⟨t357, A770, H⟩ := H
          replace H : (redlinelaw05_EditsBack.j5 k (wrap64 (Int.tmod (IntKind.u64.wrap (a1)) 300)) t350 t353 (t357 != 0)) = some r := H
          have A77 := Aside0.mk A770
          clear A770
          have H' := Aside0.mk H
          clear H
          obtain ⟨Ao78, co78, eo78⟩ := Kd.R_slice HO356.out
          subst eo78
          go_wp2_with (first | (go_at_call 13; (with_reducible refine (edits_Check.calls k _ _ t353 (t350.length : Int) (wrap64 (Int.tmod (IntKind.u64.wrap (a1)) 300)) t357 _ ?side1 ?side2 A77.out).mono ?_); (case side1 => repeat (first | exact (Kd.R_reads' HO356.out).2.2 | (with_reducible refine Kd.C_alloc ?_ _) | (with_reducible refine Kd.C_drewN ?_ _) | (with_reducible refine Kd.C_drew ?_))); (case side2 => exact (Kd.R_reads' HO356.out).2.1); rintro e w79 ⟨rfl, hb⟩; have n0_ := Aside0.mk (Kd.R_below (by (with_reducible repeat (first | apply Kd.R_alloc | apply Kd.R_drewN | apply Kd.R_drew)); exact HO352.out) hb); have n1_ := Aside0.mk (Kd.R_below (by (with_reducible repeat (first | apply Kd.R_alloc | apply Kd.R_drewN | apply Kd.R_drew)); exact HO356.out) hb); have n2_ := Aside0.mk (below_step (by repeat (first | (with_reducible first | exact HB.out | apply below_alloc | apply pw_below_drewN | apply below_drew1) | exact HB.out)) hb); clear HO352; clear HO356; clear HB; have HO352 := n0_; have HO356 := n1_; have HB := n2_; clear n0_ n1_ n2_; (try clear hb); (try clear hb2); (try clear hk); (try clear hi)))
          go_meet
          case rel => exact ⟨_, ((t357 != 0)), (by first | rfl | (simp; done) | (simp [*]; done)), H', ⟨by first | omega | exact Nat.le_refl _⟩, ⟨by (with_reducible repeat (first | apply Kd.R_alloc | apply Kd.R_drewN | apply Kd.R_drew)); exact HO352.out⟩, ⟨by (with_reducible repeat (first | apply Kd.R_alloc | apply Kd.R_drewN | apply Kd.R_drew)); exact HO356.out⟩, ⟨by repeat (first | (with_reducible first | exact HB.out | apply below_alloc | apply pw_below_drewN | apply below_drew1) | exact HB.out)⟩⟩
        · rw [if_neg c76] at H
          have c76b0 : (t354 == 0) = false := beq_eq_false_iff_ne.mpr c76
          have c76b1 : (t354 != 0) = true := bne_iff_ne.mpr c76
          (first | rw [c76b0] | (simp only [i64_w, i32_w]; rw [c76b0]) | skip)
          have H' := Aside0.mk H
          clear H
          go_wp2
          go_meet
          case rel => exact ⟨_, (true), (by first | rfl | (simp; done) | (simp [*]; done)), H', ⟨by first | omega | exact Nat.le_refl _⟩, ⟨by (with_reducible repeat (first | apply Kd.R_alloc | apply Kd.R_drewN | apply Kd.R_drew)); exact HO352.out⟩, ⟨by (with_reducible repeat (first | apply Kd.R_alloc | apply Kd.R_drewN | apply Kd.R_drew)); exact HO356.out⟩, ⟨by repeat (first | (with_reducible first | exact HB.out | apply below_alloc | apply pw_below_drewN | apply below_drew1) | exact HB.out)⟩⟩
      case rest =>
        clear HC71
        try clear c1
        try clear c2
        try clear p2
        try clear c3
        try clear p3
        try clear q3
        try clear hx3
        try clear c4
        try clear c5
        try clear c5b0
        try clear c5b1
        try clear c6
        try clear c6b0
        try clear c6b1
        try clear p6
        try clear c7
        try clear c15
        try clear c15b0
        try clear c15b1
        try clear c19
        try clear c24
        try clear c24b0
        try clear c24b1
        try clear c25
        try clear c26
        try clear c27
        try clear c34
        try clear c34b0
        try clear c34b1
        try clear p34
        try clear q34
        try clear hx34
        try clear c35
        try clear c35b0
        try clear c35b1
        try clear c38
        try clear c50
        try clear c51
        try clear c51b0
        try clear c52
        try clear c52b0
        try clear c53
        try clear c53b0
        try clear c54
        try clear c54b0
        try clear c55
        try clear c55b0
        try clear c56
        try clear c56b0
        try clear c56b1
        try clear c59
        try clear c59b0
        try clear c60
        try clear c60b0
        try clear c61
        try clear c61b0
        try clear c62
        try clear c62b0
        try clear p64
        try clear c65
        try clear c65b0
        try clear c65b1
        try clear c76
        try clear c76b0
        try clear c76b1
        try clear hx344_0
        try clear hx345_0
        try clear hx346_0
        try clear hx347_0
        try clear p2
        try clear p3
        try clear p34
        try clear p344
        try clear p345
        try clear p346
        try clear p347
        try clear p6
        try clear q3
        try clear q34
        try clear q344
        try clear q345
        try clear q346
        try clear q347
        obtain ⟨kq, x43_70, rfl, HA, HJ70, HO_5, HO_6, HB⟩ := hcut
        cases kq with
        | zero => exact absurd HA.out (by simp [redlinelaw05_EditsBack.j5])
        | succ kj70 =>
          have H := HA.out
          clear HA
          simp only [redlinelaw05_EditsBack.j5] at H
          by_cases c80 : x43_70 = true
          · subst c80
            have H1 : (some false) = some r := by rw [if_pos rfl] at H; exact H
            clear H
            have H := H1
            clear H1
            obtain rfl := Option.some.inj H
            go_wp2
            go_ret
            exact ⟨by first | rfl | (simp [errW_none, errW_some] <;> rfl) | (simp [*, errW_none, errW_some] <;> rfl), by repeat (first | (with_reducible first | exact HB.out | apply below_alloc | apply pw_below_drewN | apply below_drew1) | exact HB.out)⟩
          · replace c80 := Bool.eq_false_iff.mpr c80
            subst c80
            have H1 : ((edits_Keep.f t353 (t350.length : Int) (wrap64 (Int.tmod (IntKind.u64.wrap (a1)) 300))).bind fun bt358 => (if bt358.2 = 0 then ((redlineref04_SameInts.f kj70 bt358.1 t350).bind fun t362 => (redlinelaw05_EditsBack.j6 kj70 (wrap64 (Int.tmod (IntKind.u64.wrap (a1)) 300)) t350 t353 (!t362))) else (redlinelaw05_EditsBack.j6 kj70 (wrap64 (Int.tmod (IntKind.u64.wrap (a1)) 300)) t350 t353 true))) = some r := by rw [if_neg (show ¬ (false = true) by decide)] at H; exact H
            clear H
            have H := H1
            clear H1
            replace H := Option.bind_eq_some_iff.mp H
            obtain ⟨⟨t358, t359⟩, A810, H⟩ := H
            replace H : (if t359 = 0 then ((redlineref04_SameInts.f kj70 t358 t350).bind fun t362 => (redlinelaw05_EditsBack.j6 kj70 (wrap64 (Int.tmod (IntKind.u64.wrap (a1)) 300)) t350 t353 (!t362))) else (redlinelaw05_EditsBack.j6 kj70 (wrap64 (Int.tmod (IntKind.u64.wrap (a1)) 300)) t350 t353 true)) = some r := H
            have A81 := Aside0.mk A810
            clear A810
            have HC82 := Aside0.mk H
            clear H
            obtain ⟨Ao83, co83, eo83⟩ := Kd.R_slice HO_6.out
            subst eo83
            go_upto_region 11 with (first | ((with_reducible refine gate_callee (f := 15) rfl ?_); refine goesL_ (some 49) rfl rfl Try.func15 (by kernel_rfl) rfl #[.slice Ao83 t353.length co83, .int .i64 (t350.length : Int), .int .i64 (wrap64 (Int.tmod (IntKind.u64.wrap (a1)) 300))] rfl (by (try simp only [List.map_toArray, List.map_cons, List.map_nil]); first | done | rfl | (simp only [List.length_drop, List.length_take]; rfl)) ?_; (with_reducible refine (edits_Keep.calls _ _ t353 (t350.length : Int) (wrap64 (Int.tmod (IntKind.u64.wrap (a1)) 300)) t358 t359 _ ?side1 ?side2 A81.out).mono ?_); (case side1 => repeat (first | exact (Kd.R_reads' HO_6.out).2.2 | (with_reducible refine Kd.C_alloc ?_ _) | (with_reducible refine Kd.C_drewN ?_ _) | (with_reducible refine Kd.C_drew ?_))); (case side2 => exact (Kd.R_reads' HO_6.out).2.1); rintro e w84 ⟨v360, rfl, ho0, hb⟩; refine ⟨_, rfl, ?_⟩; have n0_ := Aside0.mk (Kd.R_elder' (by (with_reducible repeat (first | apply Kd.R_alloc | apply Kd.R_drewN | apply Kd.R_drew)); exact HO_5.out) (Kd.R_base ho0) hb); have n1_ := Aside0.mk (Kd.R_below (by (with_reducible repeat (first | apply Kd.R_alloc | apply Kd.R_drewN | apply Kd.R_drew)); exact HO_6.out) hb); have n2_ := Aside0.mk (Kd.R_lower (Kd.R_new' ho0 (Kd.R_lt (by (with_reducible repeat (first | apply Kd.R_alloc | apply Kd.R_drewN | apply Kd.R_drew)); exact HO_5.out))) (below_size (by repeat (first | (with_reducible first | exact HB.out | apply below_alloc | apply pw_below_drewN | apply below_drew1) | exact HB.out)))); have n3_ := Aside0.mk (below_step (by repeat (first | (with_reducible first | exact HB.out | apply below_alloc | apply pw_below_drewN | apply below_drew1) | exact HB.out)) hb); clear HO_5; clear HO_6; clear HB; have HO_5 := n0_; have HO_6 := n1_; have HO361 := n2_; have HB := n3_; clear n0_ n1_ n2_ n3_; (try clear hb); (try clear hb2); (try clear hk); (try clear hi); (try clear ho0)))
            (try simp only [Act.put, List.setIfInBounds_toArray, List.set_cons_zero, List.set_cons_succ])
            go_cut [59] (fun v59 wc => ∃ (kq : Nat) (x59_81 : Bool), v59 = .bool x59_81 ∧ Aside0 (redlinelaw05_EditsBack.j6 kq (wrap64 (Int.tmod (IntKind.u64.wrap (a1)) 300)) t350 t353 x59_81 = some r) ∧ Aside0 (kq ≤ kj70) ∧ Aside0 (Kd.R (Kd.int .i64) 3 wc w.heap.size (fun _ => True) (.slice Ao74 t350.length co74) t350) ∧ Aside0 (Kd.R k54 54 wc w.heap.size (fun _ => True) (.slice Ao83 t353.length co83) t353) ∧ Aside0 (Below w.heap.size w wc))
            case first =>
              have H := HC82.out
              clear HC82
              by_cases c85 : t359 = 0
              · rw [if_pos c85] at H
                have c85b0 : (t359 == 0) = true := beq_iff_eq.mpr c85
                have c85b1 : (t359 != 0) = false := bne_eq_false_iff_eq.mpr c85
                clear c85
                (first | rw [c85b0] | (simp only [i64_w, i32_w]; rw [c85b0]) | skip)
                replace H := Option.bind_eq_some_iff.mp H
                obtain ⟨t362, A860, H⟩ := H
                replace H : (redlinelaw05_EditsBack.j6 kj70 (wrap64 (Int.tmod (IntKind.u64.wrap (a1)) 300)) t350 t353 (!t362)) = some r := H
                have A86 := Aside0.mk A860
                clear A860
                have H' := Aside0.mk H
                clear H
                obtain ⟨Ao87, co87, eo87⟩ := Kd.R_slice HO361.out
                subst eo87
                go_wp2_with (first | (go_at_call 17; (with_reducible refine (redlineref04_SameInts.calls kj70 _ _ t358 _ _ t350 t362 _ ?side1 ?side2 ?side3 ?side4 A86.out).mono ?_); (case side1 => repeat (first | exact (Kd.R_reads' HO361.out).2.2 | (with_reducible refine Kd.C_alloc ?_ _) | (with_reducible refine Kd.C_drewN ?_ _) | (with_reducible refine Kd.C_drew ?_))); (case side2 => exact (Kd.R_reads' HO361.out).2.1); (case side3 => repeat (first | exact (Kd.R_reads' HO_5.out).2.2 | (with_reducible refine Kd.C_alloc ?_ _) | (with_reducible refine Kd.C_drewN ?_ _) | (with_reducible refine Kd.C_drew ?_))); (case side4 => exact (Kd.R_reads' HO_5.out).2.1); rintro e w' ⟨rfl, ⟨nd, rfl⟩⟩))
                go_meet
                case rel => exact ⟨_, (!t362), (by first | rfl | (simp; done) | (simp [*]; done)), H', ⟨by have := HJ70.out; first | omega | exact Nat.le_refl _⟩, ⟨by (with_reducible repeat (first | apply Kd.R_alloc | apply Kd.R_drewN | apply Kd.R_drew)); exact Kd.R_mono HO_5.out (fun _ hk => trivial)⟩, ⟨by (with_reducible repeat (first | apply Kd.R_alloc | apply Kd.R_drewN | apply Kd.R_drew)); exact HO_6.out⟩, ⟨by repeat (first | (with_reducible first | exact HB.out | apply below_alloc | apply pw_below_drewN | apply below_drew1) | exact HB.out)⟩⟩
              · rw [if_neg c85] at H
                have c85b0 : (t359 == 0) = false := beq_eq_false_iff_ne.mpr c85
                have c85b1 : (t359 != 0) = true := bne_iff_ne.mpr c85
                (first | rw [c85b0] | (simp only [i64_w, i32_w]; rw [c85b0]) | skip)
                have H' := Aside0.mk H
                clear H
                go_wp2
                go_meet
                case rel => exact ⟨_, (true), (by first | rfl | (simp; done) | (simp [*]; done)), H', ⟨by have := HJ70.out; first | omega | exact Nat.le_refl _⟩, ⟨by (with_reducible repeat (first | apply Kd.R_alloc | apply Kd.R_drewN | apply Kd.R_drew)); exact Kd.R_mono HO_5.out (fun _ hk => trivial)⟩, ⟨by (with_reducible repeat (first | apply Kd.R_alloc | apply Kd.R_drewN | apply Kd.R_drew)); exact HO_6.out⟩, ⟨by repeat (first | (with_reducible first | exact HB.out | apply below_alloc | apply pw_below_drewN | apply below_drew1) | exact HB.out)⟩⟩
            case rest =>
              clear HC82
              try clear c1
              try clear c2
              try clear p2
              try clear c3
              try clear p3
              try clear q3
              try clear hx3
              try clear c4
              try clear c5
              try clear c5b0
              try clear c5b1
              try clear c6
              try clear c6b0
              try clear c6b1
              try clear p6
              try clear c7
              try clear c8
              try clear c15
              try clear c15b0
              try clear c15b1
              try clear c19
              try clear c24
              try clear c24b0
              try clear c24b1
              try clear c25
              try clear c26
              try clear c27
              try clear c34
              try clear c34b0
              try clear c34b1
              try clear p34
              try clear q34
              try clear hx34
              try clear c35
              try clear c35b0
              try clear c35b1
              try clear c38
              try clear c50
              try clear c51
              try clear c51b0
              try clear c52
              try clear c52b0
              try clear c53
              try clear c53b0
              try clear c54
              try clear c54b0
              try clear c55
              try clear c55b0
              try clear c56
              try clear c56b0
              try clear c56b1
              try clear c59
              try clear c59b0
              try clear c60
              try clear c60b0
              try clear c61
              try clear c61b0
              try clear c62
              try clear c62b0
              try clear p64
              try clear c65
              try clear c65b0
              try clear c65b1
              try clear c76
              try clear c76b0
              try clear c76b1
              try clear c80
              try clear c85
              try clear c85b0
              try clear c85b1
              try clear hx344_0
              try clear hx345_0
              try clear hx346_0
              try clear hx347_0
              try clear p2
              try clear p3
              try clear p34
              try clear p344
              try clear p345
              try clear p346
              try clear p347
              try clear p6
              try clear p64
              try clear q3
              try clear q34
              try clear q344
              try clear q345
              try clear q346
              try clear q347
              obtain ⟨kq, x59_81, rfl, HA, HJ81, HO_5, HO_6, HB⟩ := hcut
              cases kq with
              | zero => exact absurd HA.out (by simp [redlinelaw05_EditsBack.j6])
              | succ kj81 =>
                have H := HA.out
                clear HA
                simp only [redlinelaw05_EditsBack.j6] at H
                by_cases c88 : x59_81 = true
                · subst c88
                  have H1 : (some false) = some r := by rw [if_pos rfl] at H; exact H
                  clear H
                  have H := H1
                  clear H1
                  obtain rfl := Option.some.inj H
                  go_wp2
                  go_ret
                  exact ⟨by first | rfl | (simp [errW_none, errW_some] <;> rfl) | (simp [*, errW_none, errW_some] <;> rfl), by repeat (first | (with_reducible first | exact HB.out | apply below_alloc | apply pw_below_drewN | apply below_drew1) | exact HB.out)⟩
                · replace c88 := Bool.eq_false_iff.mpr c88
                  subst c88
                  have H1 : ((edits_Invert.f t353).bind fun t363 => ((edits_Keep.f t363 (wrap64 (Int.tmod (IntKind.u64.wrap (a1)) 300)) (t350.length : Int)).bind fun bt366 => (if bt366.2 = 0 then (if (bt366.1.length : Int) = (wrap64 (Int.tmod (IntKind.u64.wrap (a1)) 300)) then ((edits_Invert.f t363).bind fun t370 => ((redlineref05_Same.f kj81 t370 t353).bind fun t373 => (if t373 = true then ((edits_Cost.f t363).bind fun t374 => ((edits_Cost.f t353).bind fun t375 => (redlinelaw05_EditsBack.j7 kj81 (wrap64 (Int.tmod (IntKind.u64.wrap (a1)) 300)) t350 t353 bt366.1 (t374 != t375)))) else (redlinelaw05_EditsBack.j7 kj81 (wrap64 (Int.tmod (IntKind.u64.wrap (a1)) 300)) t350 t353 bt366.1 true)))) else (redlinelaw05_EditsBack.j7 kj81 (wrap64 (Int.tmod (IntKind.u64.wrap (a1)) 300)) t350 t353 bt366.1 true)) else (redlinelaw05_EditsBack.j7 kj81 (wrap64 (Int.tmod (IntKind.u64.wrap (a1)) 300)) t350 t353 bt366.1 true)))) = some r := by rw [if_neg (show ¬ (false = true) by decide)] at H; exact H
                  clear H
                  have H := H1
                  clear H1
                  replace H := Option.bind_eq_some_iff.mp H
                  obtain ⟨t363, A890, H⟩ := H
                  replace H : ((edits_Keep.f t363 (wrap64 (Int.tmod (IntKind.u64.wrap (a1)) 300)) (t350.length : Int)).bind fun bt366 => (if bt366.2 = 0 then (if (bt366.1.length : Int) = (wrap64 (Int.tmod (IntKind.u64.wrap (a1)) 300)) then ((edits_Invert.f t363).bind fun t370 => ((redlineref05_Same.f kj81 t370 t353).bind fun t373 => (if t373 = true then ((edits_Cost.f t363).bind fun t374 => ((edits_Cost.f t353).bind fun t375 => (redlinelaw05_EditsBack.j7 kj81 (wrap64 (Int.tmod (IntKind.u64.wrap (a1)) 300)) t350 t353 bt366.1 (t374 != t375)))) else (redlinelaw05_EditsBack.j7 kj81 (wrap64 (Int.tmod (IntKind.u64.wrap (a1)) 300)) t350 t353 bt366.1 true)))) else (redlinelaw05_EditsBack.j7 kj81 (wrap64 (Int.tmod (IntKind.u64.wrap (a1)) 300)) t350 t353 bt366.1 true)) else (redlinelaw05_EditsBack.j7 kj81 (wrap64 (Int.tmod (IntKind.u64.wrap (a1)) 300)) t350 t353 bt366.1 true))) = some r := H
                  have A89 := Aside0.mk A890
                  clear A890
                  replace H := Option.bind_eq_some_iff.mp H
                  obtain ⟨⟨t366, t367⟩, A900, H⟩ := H
                  replace H : (if t367 = 0 then (if (t366.length : Int) = (wrap64 (Int.tmod (IntKind.u64.wrap (a1)) 300)) then ((edits_Invert.f t363).bind fun t370 => ((redlineref05_Same.f kj81 t370 t353).bind fun t373 => (if t373 = true then ((edits_Cost.f t363).bind fun t374 => ((edits_Cost.f t353).bind fun t375 => (redlinelaw05_EditsBack.j7 kj81 (wrap64 (Int.tmod (IntKind.u64.wrap (a1)) 300)) t350 t353 t366 (t374 != t375)))) else (redlinelaw05_EditsBack.j7 kj81 (wrap64 (Int.tmod (IntKind.u64.wrap (a1)) 300)) t350 t353 t366 true)))) else (redlinelaw05_EditsBack.j7 kj81 (wrap64 (Int.tmod (IntKind.u64.wrap (a1)) 300)) t350 t353 t366 true)) else (redlinelaw05_EditsBack.j7 kj81 (wrap64 (Int.tmod (IntKind.u64.wrap (a1)) 300)) t350 t353 t366 true)) = some r := H
                  have A90 := Aside0.mk A900
                  clear A900
                  have HC91 := Aside0.mk H
                  clear H
                  go_upto_region 15 with (first | ((with_reducible refine gate_callee (f := 19) rfl ?_); refine goesL_ (some 61) rfl rfl Try.func19 (by kernel_rfl) rfl #[.slice Ao83 t353.length co83] rfl (by (try simp only [List.map_toArray, List.map_cons, List.map_nil]); first | done | rfl | (simp only [List.length_drop, List.length_take]; rfl)) ?_; (with_reducible refine (edits_Invert.calls _ _ t353 t363 _ ?side1 ?side2 A89.out).mono ?_); (case side1 => repeat (first | exact (Kd.R_reads' HO_6.out).2.2 | (with_reducible refine Kd.C_alloc ?_ _) | (with_reducible refine Kd.C_drewN ?_ _) | (with_reducible refine Kd.C_drew ?_))); (case side2 => exact (Kd.R_reads' HO_6.out).2.1); rintro e w92 ⟨v364, rfl, ho0, hb⟩; refine ⟨_, rfl, ?_⟩; have n0_ := Aside0.mk (Kd.R_below (by (with_reducible repeat (first | apply Kd.R_alloc | apply Kd.R_drewN | apply Kd.R_drew)); exact HO_5.out) hb); have n1_ := Aside0.mk (Kd.R_elder' (by (with_reducible repeat (first | apply Kd.R_alloc | apply Kd.R_drewN | apply Kd.R_drew)); exact HO_6.out) (Kd.R_base ho0) hb); have n2_ := Aside0.mk (Kd.R_lower (Kd.R_new' ho0 (Kd.R_lt (by (with_reducible repeat (first | apply Kd.R_alloc | apply Kd.R_drewN | apply Kd.R_drew)); exact HO_6.out))) (below_size (by repeat (first | (with_reducible first | exact HB.out | apply below_alloc | apply pw_below_drewN | apply below_drew1) | exact HB.out)))); have n3_ := Aside0.mk (below_step (by repeat (first | (with_reducible first | exact HB.out | apply below_alloc | apply pw_below_drewN | apply below_drew1) | exact HB.out)) hb); clear HO_5; clear HO_6; clear HB; have HO_5 := n0_; have HO_6 := n1_; have HO365 := n2_; have HB := n3_; clear n0_ n1_ n2_ n3_; (try clear hb); (try clear hb2); (try clear hk); (try clear hi); (try clear ho0); obtain ⟨Ao93, co93, eo93⟩ := Kd.R_slice HO365.out; subst eo93) | ((with_reducible refine gate_callee (f := 15) rfl ?_); refine goesL_ (some 67) rfl rfl Try.func15 (by kernel_rfl) rfl #[.slice Ao93 t363.length co93, .int .i64 (wrap64 (Int.tmod (IntKind.u64.wrap (a1)) 300)), .int .i64 (t350.length : Int)] rfl (by (try simp only [List.map_toArray, List.map_cons, List.map_nil]); first | done | rfl | (simp only [List.length_drop, List.length_take]; rfl)) ?_; (with_reducible refine (edits_Keep.calls _ _ t363 (wrap64 (Int.tmod (IntKind.u64.wrap (a1)) 300)) (t350.length : Int) t366 t367 _ ?side1 ?side2 A90.out).mono ?_); (case side1 => repeat (first | exact (Kd.R_reads' HO365.out).2.2 | (with_reducible refine Kd.C_alloc ?_ _) | (with_reducible refine Kd.C_drewN ?_ _) | (with_reducible refine Kd.C_drew ?_))); (case side2 => exact (Kd.R_reads' HO365.out).2.1); rintro e w94 ⟨v368, rfl, ho0, hb⟩; refine ⟨_, rfl, ?_⟩; have n0_ := Aside0.mk (Kd.R_elder' (by (with_reducible repeat (first | apply Kd.R_alloc | apply Kd.R_drewN | apply Kd.R_drew)); exact HO_5.out) (Kd.R_base ho0) hb); have n1_ := Aside0.mk (Kd.R_below (by (with_reducible repeat (first | apply Kd.R_alloc | apply Kd.R_drewN | apply Kd.R_drew)); exact HO_6.out) hb); have n2_ := Aside0.mk (Kd.R_below (by (with_reducible repeat (first | apply Kd.R_alloc | apply Kd.R_drewN | apply Kd.R_drew)); exact HO365.out) hb); have n3_ := Aside0.mk (Kd.R_lower (Kd.R_new' ho0 (Kd.R_lt (by (with_reducible repeat (first | apply Kd.R_alloc | apply Kd.R_drewN | apply Kd.R_drew)); exact HO_5.out))) (below_size (by repeat (first | (with_reducible first | exact HB.out | apply below_alloc | apply pw_below_drewN | apply below_drew1) | exact HB.out)))); have n4_ := Aside0.mk (below_step (by repeat (first | (with_reducible first | exact HB.out | apply below_alloc | apply pw_below_drewN | apply below_drew1) | exact HB.out)) hb); clear HO_5; clear HO_6; clear HO365; clear HB; have HO_5 := n0_; have HO_6 := n1_; have HO365 := n2_; have HO369 := n3_; have HB := n4_; clear n0_ n1_ n2_ n3_ n4_; (try clear hb); (try clear hb2); (try clear hk); (try clear hi); (try clear ho0)))
                  (try simp only [Act.put, List.setIfInBounds_toArray, List.set_cons_zero, List.set_cons_succ])
                  go_cut [91] (fun v91 wc => ∃ (kq : Nat) (x91_90 : Bool), v91 = .bool x91_90 ∧ Aside0 (redlinelaw05_EditsBack.j7 kq (wrap64 (Int.tmod (IntKind.u64.wrap (a1)) 300)) t350 t353 t366 x91_90 = some r) ∧ Aside0 (kq ≤ kj81) ∧ Aside0 (Kd.R (Kd.int .i64) 3 wc w.heap.size (fun k_ => some k_ ≠ (v368 : Value).ownBlock) (.slice Ao74 t350.length co74) t350) ∧ Aside0 (Kd.R k54 54 wc w.heap.size (fun _ => True) (.slice Ao83 t353.length co83) t353) ∧ Aside0 (Kd.R (Kd.int .i64) 3 wc w.heap.size (fun k_ => some k_ ≠ ((.slice Ao74 t350.length co74) : Value).ownBlock) v368 t366) ∧ Aside0 (Below w.heap.size w wc))
                  case first =>
                    have H := HC91.out
                    clear HC91
                    by_cases c95 : t367 = 0
                    · rw [if_pos c95] at H
                      have c95b0 : (t367 == 0) = true := beq_iff_eq.mpr c95
                      have c95b1 : (t367 != 0) = false := bne_eq_false_iff_eq.mpr c95
                      clear c95
                      (first | rw [c95b0] | (simp only [i64_w, i32_w]; rw [c95b0]) | skip)
                      by_cases c96 : (t366.length : Int) = (wrap64 (Int.tmod (IntKind.u64.wrap (a1)) 300))
                      · rw [if_pos c96] at H
                        have c96b0 : ((t366.length : Int) == (wrap64 (Int.tmod (IntKind.u64.wrap (a1)) 300))) = true := beq_iff_eq.mpr c96
                        have c96b1 : ((t366.length : Int) != (wrap64 (Int.tmod (IntKind.u64.wrap (a1)) 300))) = false := bne_eq_false_iff_eq.mpr c96
                        clear c96
                        replace H := Option.bind_eq_some_iff.mp H
                        obtain ⟨t370, A970, H⟩ := H
                        replace H : ((redlineref05_Same.f kj81 t370 t353).bind fun t373 => (if t373 = true then ((edits_Cost.f t363).bind fun t374 => ((edits_Cost.f t353).bind fun t375 => (redlinelaw05_EditsBack.j7 kj81 (wrap64 (Int.tmod (IntKind.u64.wrap (a1)) 300)) t350 t353 t366 (t374 != t375)))) else (redlinelaw05_EditsBack.j7 kj81 (wrap64 (Int.tmod (IntKind.u64.wrap (a1)) 300)) t350 t353 t366 true))) = some r := H
                        have A97 := Aside0.mk A970
                        clear A970
                        replace H := Option.bind_eq_some_iff.mp H
                        obtain ⟨t373, A980, H⟩ := H
                        replace H : (if t373 = true then ((edits_Cost.f t363).bind fun t374 => ((edits_Cost.f t353).bind fun t375 => (redlinelaw05_EditsBack.j7 kj81 (wrap64 (Int.tmod (IntKind.u64.wrap (a1)) 300)) t350 t353 t366 (t374 != t375)))) else (redlinelaw05_EditsBack.j7 kj81 (wrap64 (Int.tmod (IntKind.u64.wrap (a1)) 300)) t350 t353 t366 true)) = some r := H
                        have A98 := Aside0.mk A980
                        clear A980
                        by_cases c99 : t373 = true
                        · subst c99
                          have H1 : ((edits_Cost.f t363).bind fun t374 => ((edits_Cost.f t353).bind fun t375 => (redlinelaw05_EditsBack.j7 kj81 (wrap64 (Int.tmod (IntKind.u64.wrap (a1)) 300)) t350 t353 t366 (t374 != t375)))) = some r := by rw [if_pos rfl] at H; exact H
                          clear H
                          have H := H1
                          clear H1
                          replace H := Option.bind_eq_some_iff.mp H
                          obtain ⟨t374, A1000, H⟩ := H
                          replace H : ((edits_Cost.f t353).bind fun t375 => (redlinelaw05_EditsBack.j7 kj81 (wrap64 (Int.tmod (IntKind.u64.wrap (a1)) 300)) t350 t353 t366 (t374 != t375))) = some r := H
                          have A100 := Aside0.mk A1000
                          clear A1000
                          replace H := Option.bind_eq_some_iff.mp H
                          obtain ⟨t375, A1010, H⟩ := H
                          replace H : (redlinelaw05_EditsBack.j7 kj81 (wrap64 (Int.tmod (IntKind.u64.wrap (a1)) 300)) t350 t353 t366 (t374 != t375)) = some r := H
                          have A101 := Aside0.mk A1010
                          clear A1010
                          have H' := Aside0.mk H
                          clear H
                          obtain ⟨Ao102, co102, eo102⟩ := Kd.R_slice HO369.out
                          subst eo102
                          go_wp2_with (first | (go_at_call 19; (with_reducible refine (edits_Invert.calls _ _ t363 t370 _ ?side1 ?side2 A97.out).mono ?_); (case side1 => repeat (first | exact (Kd.R_reads' HO365.out).2.2 | (with_reducible refine Kd.C_alloc ?_ _) | (with_reducible refine Kd.C_drewN ?_ _) | (with_reducible refine Kd.C_drew ?_))); (case side2 => exact (Kd.R_reads' HO365.out).2.1); rintro e w103 ⟨v371, rfl, ho0, hb⟩; have n0_ := Aside0.mk (Kd.R_below (by (with_reducible repeat (first | apply Kd.R_alloc | apply Kd.R_drewN | apply Kd.R_drew)); exact HO_5.out) hb); have n1_ := Aside0.mk (Kd.R_elder' (by (with_reducible repeat (first | apply Kd.R_alloc | apply Kd.R_drewN | apply Kd.R_drew)); exact HO_6.out) (Kd.R_base ho0) hb); have n2_ := Aside0.mk (Kd.R_elder' (by (with_reducible repeat (first | apply Kd.R_alloc | apply Kd.R_drewN | apply Kd.R_drew)); exact HO365.out) (Kd.R_base ho0) hb); have n3_ := Aside0.mk (Kd.R_below (by (with_reducible repeat (first | apply Kd.R_alloc | apply Kd.R_drewN | apply Kd.R_drew)); exact HO369.out) hb); have n4_ := Aside0.mk (Kd.R_lower (Kd.R_new' (Kd.R_new' ho0 (Kd.R_lt (by (with_reducible repeat (first | apply Kd.R_alloc | apply Kd.R_drewN | apply Kd.R_drew)); exact HO_6.out))) (Kd.R_lt (by (with_reducible repeat (first | apply Kd.R_alloc | apply Kd.R_drewN | apply Kd.R_drew)); exact HO365.out))) (below_size (by repeat (first | (with_reducible first | exact HB.out | apply below_alloc | apply pw_below_drewN | apply below_drew1) | exact HB.out)))); have n5_ := Aside0.mk (below_step (by repeat (first | (with_reducible first | exact HB.out | apply below_alloc | apply pw_below_drewN | apply below_drew1) | exact HB.out)) hb); clear HO_5; clear HO_6; clear HO365; clear HO369; clear HB; have HO_5 := n0_; have HO_6 := n1_; have HO365 := n2_; have HO369 := n3_; have HO372 := n4_; have HB := n5_; clear n0_ n1_ n2_ n3_ n4_ n5_; (try clear hb); (try clear hb2); (try clear hk); (try clear hi); (try clear ho0); obtain ⟨Ao104, co104, eo104⟩ := Kd.R_slice HO372.out; subst eo104) | (go_at_call 18; (with_reducible refine (redlineref05_Same.calls kj81 _ _ t370 _ _ t353 true _ ?side1 ?side2 ?side3 ?side4 A98.out).mono ?_); (case side1 => repeat (first | exact (Kd.R_reads' HO372.out).2.2 | (with_reducible refine Kd.C_alloc ?_ _) | (with_reducible refine Kd.C_drewN ?_ _) | (with_reducible refine Kd.C_drew ?_))); (case side2 => exact (Kd.R_reads' HO372.out).2.1); (case side3 => repeat (first | exact (Kd.R_reads' HO_6.out).2.2 | (with_reducible refine Kd.C_alloc ?_ _) | (with_reducible refine Kd.C_drewN ?_ _) | (with_reducible refine Kd.C_drew ?_))); (case side4 => exact (Kd.R_reads' HO_6.out).2.1); rintro e w' ⟨rfl, ⟨nd, rfl⟩⟩) | (go_at_call 21; (with_reducible refine (edits_Cost.calls _ _ t363 t374 _ ?side1 ?side2 A100.out).mono ?_); (case side1 => repeat (first | exact (Kd.R_reads' HO365.out).2.2 | (with_reducible refine Kd.C_alloc ?_ _) | (with_reducible refine Kd.C_drewN ?_ _) | (with_reducible refine Kd.C_drew ?_))); (case side2 => exact (Kd.R_reads' HO365.out).2.1); rintro e w105 ⟨rfl, hb⟩; have n0_ := Aside0.mk (Kd.R_below (by (with_reducible repeat (first | apply Kd.R_alloc | apply Kd.R_drewN | apply Kd.R_drew)); exact HO_5.out) hb); have n1_ := Aside0.mk (Kd.R_below (by (with_reducible repeat (first | apply Kd.R_alloc | apply Kd.R_drewN | apply Kd.R_drew)); exact HO_6.out) hb); have n2_ := Aside0.mk (Kd.R_below (by (with_reducible repeat (first | apply Kd.R_alloc | apply Kd.R_drewN | apply Kd.R_drew)); exact HO365.out) hb); have n3_ := Aside0.mk (Kd.R_below (by (with_reducible repeat (first | apply Kd.R_alloc | apply Kd.R_drewN | apply Kd.R_drew)); exact HO369.out) hb); have n4_ := Aside0.mk (Kd.R_below (by (with_reducible repeat (first | apply Kd.R_alloc | apply Kd.R_drewN | apply Kd.R_drew)); exact HO372.out) hb); have n5_ := Aside0.mk (below_step (by repeat (first | (with_reducible first | exact HB.out | apply below_alloc | apply pw_below_drewN | apply below_drew1) | exact HB.out)) hb); clear HO_5; clear HO_6; clear HO365; clear HO369; clear HO372; clear HB; have HO_5 := n0_; have HO_6 := n1_; have HO365 := n2_; have HO369 := n3_; have HO372 := n4_; have HB := n5_; clear n0_ n1_ n2_ n3_ n4_ n5_; (try clear hb); (try clear hb2); (try clear hk); (try clear hi)) | (go_at_call 21; (with_reducible refine (edits_Cost.calls _ _ t353 t375 _ ?side1 ?side2 A101.out).mono ?_); (case side1 => repeat (first | exact (Kd.R_reads' HO_6.out).2.2 | (with_reducible refine Kd.C_alloc ?_ _) | (with_reducible refine Kd.C_drewN ?_ _) | (with_reducible refine Kd.C_drew ?_))); (case side2 => exact (Kd.R_reads' HO_6.out).2.1); rintro e w106 ⟨rfl, hb⟩; have n0_ := Aside0.mk (Kd.R_below (by (with_reducible repeat (first | apply Kd.R_alloc | apply Kd.R_drewN | apply Kd.R_drew)); exact HO_5.out) hb); have n1_ := Aside0.mk (Kd.R_below (by (with_reducible repeat (first | apply Kd.R_alloc | apply Kd.R_drewN | apply Kd.R_drew)); exact HO_6.out) hb); have n2_ := Aside0.mk (Kd.R_below (by (with_reducible repeat (first | apply Kd.R_alloc | apply Kd.R_drewN | apply Kd.R_drew)); exact HO365.out) hb); have n3_ := Aside0.mk (Kd.R_below (by (with_reducible repeat (first | apply Kd.R_alloc | apply Kd.R_drewN | apply Kd.R_drew)); exact HO369.out) hb); have n4_ := Aside0.mk (Kd.R_below (by (with_reducible repeat (first | apply Kd.R_alloc | apply Kd.R_drewN | apply Kd.R_drew)); exact HO372.out) hb); have n5_ := Aside0.mk (below_step (by repeat (first | (with_reducible first | exact HB.out | apply below_alloc | apply pw_below_drewN | apply below_drew1) | exact HB.out)) hb); clear HO_5; clear HO_6; clear HO365; clear HO369; clear HO372; clear HB; have HO_5 := n0_; have HO_6 := n1_; have HO365 := n2_; have HO369 := n3_; have HO372 := n4_; have HB := n5_; clear n0_ n1_ n2_ n3_ n4_ n5_; (try clear hb); (try clear hb2); (try clear hk); (try clear hi)))
                          go_meet
                          case rel => exact ⟨_, ((t374 != t375)), (by first | rfl | (simp; done) | (simp [*]; done)), H', ⟨by have := HJ70.out; have := HJ81.out; first | omega | exact Nat.le_refl _⟩, ⟨by (with_reducible repeat (first | apply Kd.R_alloc | apply Kd.R_drewN | apply Kd.R_drew)); exact Kd.R_mono HO_5.out (fun _ hk => hk.2)⟩, ⟨by (with_reducible repeat (first | apply Kd.R_alloc | apply Kd.R_drewN | apply Kd.R_drew)); exact Kd.R_mono HO_6.out (fun _ hk => trivial)⟩, ⟨by (with_reducible repeat (first | apply Kd.R_alloc | apply Kd.R_drewN | apply Kd.R_drew)); exact Kd.R_mono HO369.out (fun _ hk => hk.2)⟩, ⟨by repeat (first | (with_reducible first | exact HB.out | apply below_alloc | apply pw_below_drewN | apply below_drew1) | exact HB.out)⟩⟩
                        · replace c99 := Bool.eq_false_iff.mpr c99
                          subst c99
                          have H1 : (redlinelaw05_EditsBack.j7 kj81 (wrap64 (Int.tmod (IntKind.u64.wrap (a1)) 300)) t350 t353 t366 true) = some r := by rw [if_neg (show ¬ (false = true) by decide)] at H; exact H
                          clear H
                          have H := H1
                          clear H1
                          have H' := Aside0.mk H
                          clear H
                          obtain ⟨Ao107, co107, eo107⟩ := Kd.R_slice HO369.out
                          subst eo107
                          go_wp2_with (first | (go_at_call 19; (with_reducible refine (edits_Invert.calls _ _ t363 t370 _ ?side1 ?side2 A97.out).mono ?_); (case side1 => repeat (first | exact (Kd.R_reads' HO365.out).2.2 | (with_reducible refine Kd.C_alloc ?_ _) | (with_reducible refine Kd.C_drewN ?_ _) | (with_reducible refine Kd.C_drew ?_))); (case side2 => exact (Kd.R_reads' HO365.out).2.1); rintro e w108 ⟨v371, rfl, ho0, hb⟩; have n0_ := Aside0.mk (Kd.R_below (by (with_reducible repeat (first | apply Kd.R_alloc | apply Kd.R_drewN | apply Kd.R_drew)); exact HO_5.out) hb); have n1_ := Aside0.mk (Kd.R_elder' (by (with_reducible repeat (first | apply Kd.R_alloc | apply Kd.R_drewN | apply Kd.R_drew)); exact HO_6.out) (Kd.R_base ho0) hb); have n2_ := Aside0.mk (Kd.R_elder' (by (with_reducible repeat (first | apply Kd.R_alloc | apply Kd.R_drewN | apply Kd.R_drew)); exact HO365.out) (Kd.R_base ho0) hb); have n3_ := Aside0.mk (Kd.R_below (by (with_reducible repeat (first | apply Kd.R_alloc | apply Kd.R_drewN | apply Kd.R_drew)); exact HO369.out) hb); have n4_ := Aside0.mk (Kd.R_lower (Kd.R_new' (Kd.R_new' ho0 (Kd.R_lt (by (with_reducible repeat (first | apply Kd.R_alloc | apply Kd.R_drewN | apply Kd.R_drew)); exact HO_6.out))) (Kd.R_lt (by (with_reducible repeat (first | apply Kd.R_alloc | apply Kd.R_drewN | apply Kd.R_drew)); exact HO365.out))) (below_size (by repeat (first | (with_reducible first | exact HB.out | apply below_alloc | apply pw_below_drewN | apply below_drew1) | exact HB.out)))); have n5_ := Aside0.mk (below_step (by repeat (first | (with_reducible first | exact HB.out | apply below_alloc | apply pw_below_drewN | apply below_drew1) | exact HB.out)) hb); clear HO_5; clear HO_6; clear HO365; clear HO369; clear HB; have HO_5 := n0_; have HO_6 := n1_; have HO365 := n2_; have HO369 := n3_; have HO372 := n4_; have HB := n5_; clear n0_ n1_ n2_ n3_ n4_ n5_; (try clear hb); (try clear hb2); (try clear hk); (try clear hi); (try clear ho0); obtain ⟨Ao109, co109, eo109⟩ := Kd.R_slice HO372.out; subst eo109) | (go_at_call 18; (with_reducible refine (redlineref05_Same.calls kj81 _ _ t370 _ _ t353 false _ ?side1 ?side2 ?side3 ?side4 A98.out).mono ?_); (case side1 => repeat (first | exact (Kd.R_reads' HO372.out).2.2 | (with_reducible refine Kd.C_alloc ?_ _) | (with_reducible refine Kd.C_drewN ?_ _) | (with_reducible refine Kd.C_drew ?_))); (case side2 => exact (Kd.R_reads' HO372.out).2.1); (case side3 => repeat (first | exact (Kd.R_reads' HO_6.out).2.2 | (with_reducible refine Kd.C_alloc ?_ _) | (with_reducible refine Kd.C_drewN ?_ _) | (with_reducible refine Kd.C_drew ?_))); (case side4 => exact (Kd.R_reads' HO_6.out).2.1); rintro e w' ⟨rfl, ⟨nd, rfl⟩⟩))
                          go_meet
                          case rel => exact ⟨_, (true), (by first | rfl | (simp; done) | (simp [*]; done)), H', ⟨by have := HJ70.out; have := HJ81.out; first | omega | exact Nat.le_refl _⟩, ⟨by (with_reducible repeat (first | apply Kd.R_alloc | apply Kd.R_drewN | apply Kd.R_drew)); exact Kd.R_mono HO_5.out (fun _ hk => hk.2)⟩, ⟨by (with_reducible repeat (first | apply Kd.R_alloc | apply Kd.R_drewN | apply Kd.R_drew)); exact Kd.R_mono HO_6.out (fun _ hk => trivial)⟩, ⟨by (with_reducible repeat (first | apply Kd.R_alloc | apply Kd.R_drewN | apply Kd.R_drew)); exact Kd.R_mono HO369.out (fun _ hk => hk.2)⟩, ⟨by repeat (first | (with_reducible first | exact HB.out | apply below_alloc | apply pw_below_drewN | apply below_drew1) | exact HB.out)⟩⟩
                      · rw [if_neg c96] at H
                        have c96b0 : ((t366.length : Int) == (wrap64 (Int.tmod (IntKind.u64.wrap (a1)) 300))) = false := beq_eq_false_iff_ne.mpr c96
                        have c96b1 : ((t366.length : Int) != (wrap64 (Int.tmod (IntKind.u64.wrap (a1)) 300))) = true := bne_iff_ne.mpr c96
                        have H' := Aside0.mk H
                        clear H
                        obtain ⟨Ao110, co110, eo110⟩ := Kd.R_slice HO369.out
                        subst eo110
                        go_wp2
                        go_meet
                        case rel => exact ⟨_, (true), (by first | rfl | (simp; done) | (simp [*]; done)), H', ⟨by have := HJ70.out; have := HJ81.out; first | omega | exact Nat.le_refl _⟩, ⟨by (with_reducible repeat (first | apply Kd.R_alloc | apply Kd.R_drewN | apply Kd.R_drew)); exact Kd.R_mono HO_5.out (fun _ hk => hk.2)⟩, ⟨by (with_reducible repeat (first | apply Kd.R_alloc | apply Kd.R_drewN | apply Kd.R_drew)); exact Kd.R_mono HO_6.out (fun _ hk => trivial)⟩, ⟨by (with_reducible repeat (first | apply Kd.R_alloc | apply Kd.R_drewN | apply Kd.R_drew)); exact Kd.R_mono HO369.out (fun _ hk => hk.2)⟩, ⟨by repeat (first | (with_reducible first | exact HB.out | apply below_alloc | apply pw_below_drewN | apply below_drew1) | exact HB.out)⟩⟩
                    · rw [if_neg c95] at H
                      have c95b0 : (t367 == 0) = false := beq_eq_false_iff_ne.mpr c95
                      have c95b1 : (t367 != 0) = true := bne_iff_ne.mpr c95
                      (first | rw [c95b0] | (simp only [i64_w, i32_w]; rw [c95b0]) | skip)
                      have H' := Aside0.mk H
                      clear H
                      go_wp2
                      go_meet
                      case rel => exact ⟨_, (true), (by first | rfl | (simp; done) | (simp [*]; done)), H', ⟨by have := HJ70.out; have := HJ81.out; first | omega | exact Nat.le_refl _⟩, ⟨by (with_reducible repeat (first | apply Kd.R_alloc | apply Kd.R_drewN | apply Kd.R_drew)); exact Kd.R_mono HO_5.out (fun _ hk => hk.2)⟩, ⟨by (with_reducible repeat (first | apply Kd.R_alloc | apply Kd.R_drewN | apply Kd.R_drew)); exact Kd.R_mono HO_6.out (fun _ hk => trivial)⟩, ⟨by (with_reducible repeat (first | apply Kd.R_alloc | apply Kd.R_drewN | apply Kd.R_drew)); exact Kd.R_mono HO369.out (fun _ hk => hk.2)⟩, ⟨by repeat (first | (with_reducible first | exact HB.out | apply below_alloc | apply pw_below_drewN | apply below_drew1) | exact HB.out)⟩⟩
                  case rest =>
                    clear HC91
                    try clear c1
                    try clear c2
                    try clear p2
                    try clear c3
                    try clear p3
                    try clear q3
                    try clear hx3
                    try clear c4
                    try clear c5
                    try clear c5b0
                    try clear c5b1
                    try clear c6
                    try clear c6b0
                    try clear c6b1
                    try clear p6
                    try clear c7
                    try clear c8
                    try clear c9
                    try clear c15
                    try clear c15b0
                    try clear c15b1
                    try clear c19
                    try clear c24
                    try clear c24b0
                    try clear c24b1
                    try clear c25
                    try clear c26
                    try clear c27
                    try clear c34
                    try clear c34b0
                    try clear c34b1
                    try clear p34
                    try clear q34
                    try clear hx34
                    try clear c35
                    try clear c35b0
                    try clear c35b1
                    try clear c38
                    try clear c50
                    try clear c51
                    try clear c51b0
                    try clear c52
                    try clear c52b0
                    try clear c53
                    try clear c53b0
                    try clear c54
                    try clear c54b0
                    try clear c55
                    try clear c55b0
                    try clear c56
                    try clear c56b0
                    try clear c56b1
                    try clear c59
                    try clear c59b0
                    try clear c60
                    try clear c60b0
                    try clear c61
                    try clear c61b0
                    try clear c62
                    try clear c62b0
                    try clear p64
                    try clear c65
                    try clear c65b0
                    try clear c65b1
                    try clear c76
                    try clear c76b0
                    try clear c76b1
                    try clear c80
                    try clear c85
                    try clear c85b0
                    try clear c85b1
                    try clear c88
                    try clear c95
                    try clear c95b0
                    try clear c95b1
                    try clear c96
                    try clear c96b0
                    try clear c96b1
                    try clear c99
                    try clear hx344_0
                    try clear hx345_0
                    try clear hx346_0
                    try clear hx347_0
                    try clear p2
                    try clear p3
                    try clear p34
                    try clear p344
                    try clear p345
                    try clear p346
                    try clear p347
                    try clear p6
                    try clear p64
                    try clear q3
                    try clear q34
                    try clear q344
                    try clear q345
                    try clear q346
                    try clear q347
                    obtain ⟨kq, x91_90, rfl, HA, HJ90, HO_5, HO_6, HO_10, HB⟩ := hcut
                    cases kq with
                    | zero => exact absurd HA.out (by simp [redlinelaw05_EditsBack.j7])
                    | succ kj90 =>
                      have H := HA.out
                      clear HA
                      simp only [redlinelaw05_EditsBack.j7] at H
                      by_cases c111 : x91_90 = true
                      · subst c111
                        have H1 : (some false) = some r := by rw [if_pos rfl] at H; exact H
                        clear H
                        have H := H1
                        clear H1
                        obtain rfl := Option.some.inj H
                        go_wp2
                        go_ret
                        exact ⟨by first | rfl | (simp [errW_none, errW_some] <;> rfl) | (simp [*, errW_none, errW_some] <;> rfl), by repeat (first | (with_reducible first | exact HB.out | apply below_alloc | apply pw_below_drewN | apply below_drew1) | exact HB.out)⟩
                      · replace c111 := Bool.eq_false_iff.mpr c111
                        subst c111
                        have H1 : (redlinelaw05_EditsBack.l0 kj90 (wrap64 (Int.tmod (IntKind.u64.wrap (a1)) 300)) t350 t353 t366 0 0) = some r := by rw [if_neg (show ¬ (false = true) by decide)] at H; exact H
                        clear H
                        have H := H1
                        clear H1
                        have H' := Aside0.mk H
                        clear H
                        go_wp2
                        go_loopg [11, 12] kj90 (fun kq v11 v12 w' => ∃ (x11_4 : Int) (x12_4 : Int), v11 = .int .i64 x11_4 ∧ v12 = .int .i64 x12_4 ∧ Aside0 (redlinelaw05_EditsBack.l0 kq (wrap64 (Int.tmod (IntKind.u64.wrap (a1)) 300)) t350 t353 t366 x11_4 x12_4 = some r) ∧ Aside0 (kq ≤ kj90) ∧ Aside0 (Kd.R (Kd.int .i64) 3 w' w.heap.size (fun k_ => some k_ ≠ (v368 : Value).ownBlock) (.slice Ao74 t350.length co74) t350) ∧ Aside0 (Kd.R k54 54 w' w.heap.size (fun _ => True) (.slice Ao83 t353.length co83) t353) ∧ Aside0 (Kd.R (Kd.int .i64) 3 w' w.heap.size (fun k_ => some k_ ≠ ((.slice Ao74 t350.length co74) : Value).ownBlock) v368 t366) ∧ Aside0 (Below w.heap.size w w'))
                        case atStart => exact ⟨(0), (0), (by first | rfl | (simp; done) | (simp [*]; done)), (by first | rfl | (simp; done) | (simp [*]; done)), H', ⟨Nat.le_refl _⟩, ⟨by (with_reducible repeat (first | apply Kd.R_alloc | apply Kd.R_drewN | apply Kd.R_drew)); exact HO_5.out⟩, ⟨by (with_reducible repeat (first | apply Kd.R_alloc | apply Kd.R_drewN | apply Kd.R_drew)); exact HO_6.out⟩, ⟨by (with_reducible repeat (first | apply Kd.R_alloc | apply Kd.R_drewN | apply Kd.R_drew)); exact HO_10.out⟩, ⟨by repeat (first | (with_reducible first | exact HB.out | apply below_alloc | apply pw_below_drewN | apply below_drew1) | exact HB.out)⟩⟩
                        case round =>
                          clear H'
                          try clear c1
                          try clear c2
                          try clear p2
                          try clear c3
                          try clear p3
                          try clear q3
                          try clear hx3
                          try clear c4
                          try clear c5
                          try clear c5b0
                          try clear c5b1
                          try clear c6
                          try clear c6b0
                          try clear c6b1
                          try clear p6
                          try clear c7
                          try clear c8
                          try clear c9
                          try clear c11
                          try clear c15
                          try clear c15b0
                          try clear c15b1
                          try clear c19
                          try clear c24
                          try clear c24b0
                          try clear c24b1
                          try clear c25
                          try clear c26
                          try clear c27
                          try clear c34
                          try clear c34b0
                          try clear c34b1
                          try clear p34
                          try clear q34
                          try clear hx34
                          try clear c35
                          try clear c35b0
                          try clear c35b1
                          try clear c38
                          try clear c50
                          try clear c51
                          try clear c51b0
                          try clear c52
                          try clear c52b0
                          try clear c53
                          try clear c53b0
                          try clear c54
                          try clear c54b0
                          try clear c55
                          try clear c55b0
                          try clear c56
                          try clear c56b0
                          try clear c56b1
                          try clear c59
                          try clear c59b0
                          try clear c60
                          try clear c60b0
                          try clear c61
                          try clear c61b0
                          try clear c62
                          try clear c62b0
                          try clear p64
                          try clear c65
                          try clear c65b0
                          try clear c65b1
                          try clear c76
                          try clear c76b0
                          try clear c76b1
                          try clear c80
                          try clear c85
                          try clear c85b0
                          try clear c85b1
                          try clear c88
                          try clear c95
                          try clear c95b0
                          try clear c95b1
                          try clear c96
                          try clear c96b0
                          try clear c96b1
                          try clear c99
                          try clear c111
                          try clear hx344_0
                          try clear hx345_0
                          try clear hx346_0
                          try clear hx347_0
                          try clear p2
                          try clear p3
                          try clear p34
                          try clear p344
                          try clear p345
                          try clear p346
                          try clear p347
                          try clear p6
                          try clear p64
                          try clear q3
                          try clear q34
                          try clear q344
                          try clear q345
                          try clear q346
                          try clear q347
                          obtain ⟨x11_4, x12_4, rfl, rfl, HA, HK4, HO_5, HO_6, HO_10, HB⟩ := hrel
                          cases gk with
                          | zero => exact absurd HA.out (by simp [redlinelaw05_EditsBack.l0])
                          | succ k4 =>
                            have H := HA.out
                            clear HA
                            simp only [redlinelaw05_EditsBack.l0] at H
                            by_cases c112 : x12_4 < (t350.length : Int)
                            · rw [if_pos c112] at H
                              have c112b0 : decide (x12_4 < (t350.length : Int)) = true := decide_eq_true c112
                              clear c112
                              by_cases c113 : 0 ≤ x12_4
                              · rw [if_pos c113] at H
                                have c113b0 : decide (0 ≤ x12_4) = true := decide_eq_true c113
                                clear c113
                                by_cases c114 : (rd t350 x12_4) ≥ 0
                                · rw [if_pos c114] at H
                                  have c114b0 : decide (0 ≤ (rd t350 x12_4)) = true := decide_eq_true c114
                                  clear c114
                                  by_cases c115 : 0 ≤ (rd t350 x12_4)
                                  · rw [if_pos c115] at H
                                    have c115b0 : decide (0 ≤ (rd t350 x12_4)) = true := decide_eq_true c115
                                    clear c115
                                    by_cases c116 : (rd t350 x12_4) < (t366.length : Int)
                                    · rw [if_pos c116] at H
                                      have c116b0 : decide ((rd t350 x12_4) < (t366.length : Int)) = true := decide_eq_true c116
                                      clear c116
                                      by_cases c117 : (rd t366 (rd t350 x12_4)) = x12_4
                                      · rw [if_pos c117] at H
                                        have c117b0 : ((rd t366 (rd t350 x12_4)) == x12_4) = true := beq_iff_eq.mpr c117
                                        have c117b1 : ((rd t366 (rd t350 x12_4)) != x12_4) = false := bne_eq_false_iff_eq.mpr c117
                                        clear c117
                                        have H' := Aside0.mk H
                                        clear H
                                        have p344 : 0 ≤ (x12_4 : Int) := of_decide_eq_true (by first | (with_reducible assumption) | assumption)
                                        have q344 : x12_4 < (t350.length : Int) := of_decide_eq_true (by first | (with_reducible assumption) | assumption)
                                        obtain ⟨ad344, e344, hx344_0⟩ := Kd.at_int (Kd.R_reads' HO_5.out).2.2 x12_4 p344 q344
                                        cases e344
                                        replace p344 := eq_true p344
                                        replace q344 := eq_true q344
                                        have p345 : 0 ≤ (x12_4 : Int) := of_decide_eq_true (by first | (with_reducible assumption) | assumption)
                                        have q345 : x12_4 < (t350.length : Int) := of_decide_eq_true (by first | (with_reducible assumption) | assumption)
                                        obtain ⟨ad345, e345, hx345_0⟩ := Kd.at_int (Kd.R_reads' HO_5.out).2.2 x12_4 p345 q345
                                        obtain rfl : ad344 = ad345 := (by injection e345)
                                        replace p345 := eq_true p345
                                        replace q345 := eq_true q345
                                        obtain ⟨Ao118, co118, eo118⟩ := Kd.R_slice HO_10.out
                                        subst eo118
                                        have p346 : 0 ≤ ((rd t350 x12_4) : Int) := of_decide_eq_true (by first | (with_reducible assumption) | assumption)
                                        have q346 : (rd t350 x12_4) < (t366.length : Int) := of_decide_eq_true (by first | (with_reducible assumption) | assumption)
                                        obtain ⟨ad346, e346, hx346_0⟩ := Kd.at_int (Kd.R_reads' HO_10.out).2.2 (rd t350 x12_4) p346 q346
                                        cases e346
                                        replace p346 := eq_true p346
                                        replace q346 := eq_true q346
                                        go_wp2
                                        go_roundg k4
                                        case measure => have := HJ70.out; have := HJ81.out; have := HJ90.out; have := HK4.out; omega
                                        case rel => exact ⟨(wrap64 (x11_4 + 1)), (wrap64 (x12_4 + 1)), (by first | rfl | (simp; done) | (simp [*]; done)), (by first | rfl | (simp; done) | (simp [*]; done)), H', ⟨by have := HJ70.out; have := HJ81.out; have := HJ90.out; have := HK4.out; omega⟩, ⟨by (with_reducible repeat (first | apply Kd.R_alloc | apply Kd.R_drewN | apply Kd.R_drew)); exact HO_5.out⟩, ⟨by (with_reducible repeat (first | apply Kd.R_alloc | apply Kd.R_drewN | apply Kd.R_drew)); exact HO_6.out⟩, ⟨by (with_reducible repeat (first | apply Kd.R_alloc | apply Kd.R_drewN | apply Kd.R_drew)); exact HO_10.out⟩, ⟨by repeat (first | (with_reducible first | exact HB.out | apply below_alloc | apply pw_below_drewN | apply below_drew1) | exact HB.out)⟩⟩
                                      · rw [if_neg c117] at H
                                        have c117b0 : ((rd t366 (rd t350 x12_4)) == x12_4) = false := beq_eq_false_iff_ne.mpr c117
                                        have c117b1 : ((rd t366 (rd t350 x12_4)) != x12_4) = true := bne_iff_ne.mpr c117
                                        obtain rfl := Option.some.inj H
                                        have p344 : 0 ≤ (x12_4 : Int) := of_decide_eq_true (by first | (with_reducible assumption) | assumption)
                                        have q344 : x12_4 < (t350.length : Int) := of_decide_eq_true (by first | (with_reducible assumption) | assumption)
                                        obtain ⟨ad344, e344, hx344_0⟩ := Kd.at_int (Kd.R_reads' HO_5.out).2.2 x12_4 p344 q344
                                        cases e344
                                        replace p344 := eq_true p344
                                        replace q344 := eq_true q344
                                        have p345 : 0 ≤ (x12_4 : Int) := of_decide_eq_true (by first | (with_reducible assumption) | assumption)
                                        have q345 : x12_4 < (t350.length : Int) := of_decide_eq_true (by first | (with_reducible assumption) | assumption)
                                        obtain ⟨ad345, e345, hx345_0⟩ := Kd.at_int (Kd.R_reads' HO_5.out).2.2 x12_4 p345 q345
                                        obtain rfl : ad344 = ad345 := (by injection e345)
                                        replace p345 := eq_true p345
                                        replace q345 := eq_true q345
                                        obtain ⟨Ao119, co119, eo119⟩ := Kd.R_slice HO_10.out
                                        subst eo119
                                        have p346 : 0 ≤ ((rd t350 x12_4) : Int) := of_decide_eq_true (by first | (with_reducible assumption) | assumption)
                                        have q346 : (rd t350 x12_4) < (t366.length : Int) := of_decide_eq_true (by first | (with_reducible assumption) | assumption)
                                        obtain ⟨ad346, e346, hx346_0⟩ := Kd.at_int (Kd.R_reads' HO_10.out).2.2 (rd t350 x12_4) p346 q346
                                        cases e346
                                        replace p346 := eq_true p346
                                        replace q346 := eq_true q346
                                        go_wp2
                                        go_ret
                                        exact ⟨by first | rfl | (simp [errW_none, errW_some] <;> rfl) | (simp [*, errW_none, errW_some] <;> rfl), by repeat (first | (with_reducible first | exact HB.out | apply below_alloc | apply pw_below_drewN | apply below_drew1) | exact HB.out)⟩
                                    · rw [if_neg c116] at H
                                      exact absurd H (by simp)
                                  · rw [if_neg c115] at H
                                    exact absurd H (by simp)
                                · rw [if_neg c114] at H
                                  have c114b0 : decide (0 ≤ (rd t350 x12_4)) = false := decide_eq_false c114
                                  clear c114
                                  have H' := Aside0.mk H
                                  clear H
                                  have p344 : 0 ≤ (x12_4 : Int) := of_decide_eq_true (by first | (with_reducible assumption) | assumption)
                                  have q344 : x12_4 < (t350.length : Int) := of_decide_eq_true (by first | (with_reducible assumption) | assumption)
                                  obtain ⟨ad344, e344, hx344_0⟩ := Kd.at_int (Kd.R_reads' HO_5.out).2.2 x12_4 p344 q344
                                  cases e344
                                  replace p344 := eq_true p344
                                  replace q344 := eq_true q344
                                  go_wp2
                                  go_roundg k4
                                  case measure => have := HJ70.out; have := HJ81.out; have := HJ90.out; have := HK4.out; omega
                                  case rel => exact ⟨(x11_4), (wrap64 (x12_4 + 1)), (by first | rfl | (simp; done) | (simp [*]; done)), (by first | rfl | (simp; done) | (simp [*]; done)), H', ⟨by have := HJ70.out; have := HJ81.out; have := HJ90.out; have := HK4.out; omega⟩, ⟨by (with_reducible repeat (first | apply Kd.R_alloc | apply Kd.R_drewN | apply Kd.R_drew)); exact HO_5.out⟩, ⟨by (with_reducible repeat (first | apply Kd.R_alloc | apply Kd.R_drewN | apply Kd.R_drew)); exact HO_6.out⟩, ⟨by (with_reducible repeat (first | apply Kd.R_alloc | apply Kd.R_drewN | apply Kd.R_drew)); exact HO_10.out⟩, ⟨by repeat (first | (with_reducible first | exact HB.out | apply below_alloc | apply pw_below_drewN | apply below_drew1) | exact HB.out)⟩⟩
                              · rw [if_neg c113] at H
                                exact absurd H (by simp)
                            · rw [if_neg c112] at H
                              have c112b0 : decide (x12_4 < (t350.length : Int)) = false := decide_eq_false c112
                              clear c112
                              have H' := Aside0.mk H
                              clear H
                              go_wp2
                              go_loopg [11, 13] k4 (fun kq v11 v13 w' => ∃ (x11_5 : Int) (x13_5 : Int), v11 = .int .i64 x11_5 ∧ v13 = .int .i64 x13_5 ∧ Aside0 (redlinelaw05_EditsBack.l1 kq (wrap64 (Int.tmod (IntKind.u64.wrap (a1)) 300)) t350 t353 t366 x11_5 x13_5 = some r) ∧ Aside0 (kq ≤ k4) ∧ Aside0 (Kd.R (Kd.int .i64) 3 w' w.heap.size (fun k_ => some k_ ≠ (v368 : Value).ownBlock) (.slice Ao74 t350.length co74) t350) ∧ Aside0 (Kd.R k54 54 w' w.heap.size (fun _ => True) (.slice Ao83 t353.length co83) t353) ∧ Aside0 (Kd.R (Kd.int .i64) 3 w' w.heap.size (fun k_ => some k_ ≠ ((.slice Ao74 t350.length co74) : Value).ownBlock) v368 t366) ∧ Aside0 (Below w.heap.size w w'))
                              case atStart => exact ⟨(x11_4), (0), (by first | rfl | (simp; done) | (simp [*]; done)), (by first | rfl | (simp; done) | (simp [*]; done)), H', ⟨Nat.le_refl _⟩, ⟨by (with_reducible repeat (first | apply Kd.R_alloc | apply Kd.R_drewN | apply Kd.R_drew)); exact HO_5.out⟩, ⟨by (with_reducible repeat (first | apply Kd.R_alloc | apply Kd.R_drewN | apply Kd.R_drew)); exact HO_6.out⟩, ⟨by (with_reducible repeat (first | apply Kd.R_alloc | apply Kd.R_drewN | apply Kd.R_drew)); exact HO_10.out⟩, ⟨by repeat (first | (with_reducible first | exact HB.out | apply below_alloc | apply pw_below_drewN | apply below_drew1) | exact HB.out)⟩⟩
                              case round =>
                                clear H'
                                try clear c1
                                try clear c2
                                try clear p2
                                try clear c3
                                try clear p3
                                try clear q3
                                try clear hx3
                                try clear c4
                                try clear c5
                                try clear c5b0
                                try clear c5b1
                                try clear c6
                                try clear c6b0
                                try clear c6b1
                                try clear p6
                                try clear c7
                                try clear c8
                                try clear c9
                                try clear c11
                                try clear c15
                                try clear c15b0
                                try clear c15b1
                                try clear c19
                                try clear c24
                                try clear c24b0
                                try clear c24b1
                                try clear c25
                                try clear c26
                                try clear c27
                                try clear c34
                                try clear c34b0
                                try clear c34b1
                                try clear p34
                                try clear q34
                                try clear hx34
                                try clear c35
                                try clear c35b0
                                try clear c35b1
                                try clear c38
                                try clear c50
                                try clear c51
                                try clear c51b0
                                try clear c52
                                try clear c52b0
                                try clear c53
                                try clear c53b0
                                try clear c54
                                try clear c54b0
                                try clear c55
                                try clear c55b0
                                try clear c56
                                try clear c56b0
                                try clear c56b1
                                try clear c59
                                try clear c59b0
                                try clear c60
                                try clear c60b0
                                try clear c61
                                try clear c61b0
                                try clear c62
                                try clear c62b0
                                try clear p64
                                try clear c65
                                try clear c65b0
                                try clear c65b1
                                try clear c76
                                try clear c76b0
                                try clear c76b1
                                try clear c80
                                try clear c85
                                try clear c85b0
                                try clear c85b1
                                try clear c88
                                try clear c95
                                try clear c95b0
                                try clear c95b1
                                try clear c96
                                try clear c96b0
                                try clear c96b1
                                try clear c99
                                try clear c111
                                try clear c112
                                try clear c112b0
                                try clear c113
                                try clear c113b0
                                try clear c114
                                try clear c114b0
                                try clear c115
                                try clear c115b0
                                try clear c116
                                try clear c116b0
                                try clear c117
                                try clear c117b0
                                try clear c117b1
                                try clear hx344_0
                                try clear hx345_0
                                try clear hx346_0
                                try clear hx347_0
                                try clear p2
                                try clear p3
                                try clear p34
                                try clear p344
                                try clear p345
                                try clear p346
                                try clear p347
                                try clear p6
                                try clear p64
                                try clear q3
                                try clear q34
                                try clear q344
                                try clear q345
                                try clear q346
                                try clear q347
                                obtain ⟨x11_5, x13_5, rfl, rfl, HA, HK5, HO_5, HO_6, HO_10, HB⟩ := hrel
                                cases gk with
                                | zero => exact absurd HA.out (by simp [redlinelaw05_EditsBack.l1])
                                | succ k5 =>
                                  have H := HA.out
                                  clear HA
                                  simp only [redlinelaw05_EditsBack.l1] at H
                                  by_cases c120 : x13_5 < (wrap64 (Int.tmod (IntKind.u64.wrap (a1)) 300))
                                  · rw [if_pos c120] at H
                                    have c120b0 : decide (x13_5 < (wrap64 (Int.tmod (IntKind.u64.wrap (a1)) 300))) = true := decide_eq_true c120
                                    clear c120
                                    by_cases c121 : 0 ≤ x13_5
                                    · rw [if_pos c121] at H
                                      have c121b0 : decide (0 ≤ x13_5) = true := decide_eq_true c121
                                      clear c121
                                      by_cases c122 : x13_5 < (t366.length : Int)
                                      · rw [if_pos c122] at H
                                        have c122b0 : decide (x13_5 < (t366.length : Int)) = true := decide_eq_true c122
                                        clear c122
                                        by_cases c123 : (rd t366 x13_5) ≥ 0
                                        · rw [if_pos c123] at H
                                          have c123b0 : decide (0 ≤ (rd t366 x13_5)) = true := decide_eq_true c123
                                          clear c123
                                          have H' := Aside0.mk H
                                          clear H
                                          obtain ⟨Ao124, co124, eo124⟩ := Kd.R_slice HO_10.out
                                          subst eo124
                                          have p347 : 0 ≤ (x13_5 : Int) := of_decide_eq_true (by first | (with_reducible assumption) | assumption)
                                          have q347 : x13_5 < (t366.length : Int) := of_decide_eq_true (by first | (with_reducible assumption) | assumption)
                                          obtain ⟨ad347, e347, hx347_0⟩ := Kd.at_int (Kd.R_reads' HO_10.out).2.2 x13_5 p347 q347
                                          cases e347
                                          replace p347 := eq_true p347
                                          replace q347 := eq_true q347
                                          go_wp2
                                          go_roundg k5
                                          case measure => have := HJ70.out; have := HJ81.out; have := HJ90.out; have := HK4.out; have := HK5.out; omega
                                          case rel => exact ⟨(wrap64 (x11_5 - 1)), (wrap64 (x13_5 + 1)), (by first | rfl | (simp; done) | (simp [*]; done)), (by first | rfl | (simp; done) | (simp [*]; done)), H', ⟨by have := HJ70.out; have := HJ81.out; have := HJ90.out; have := HK4.out; have := HK5.out; omega⟩, ⟨by (with_reducible repeat (first | apply Kd.R_alloc | apply Kd.R_drewN | apply Kd.R_drew)); exact HO_5.out⟩, ⟨by (with_reducible repeat (first | apply Kd.R_alloc | apply Kd.R_drewN | apply Kd.R_drew)); exact HO_6.out⟩, ⟨by (with_reducible repeat (first | apply Kd.R_alloc | apply Kd.R_drewN | apply Kd.R_drew)); exact HO_10.out⟩, ⟨by repeat (first | (with_reducible first | exact HB.out | apply below_alloc | apply pw_below_drewN | apply below_drew1) | exact HB.out)⟩⟩
                                        · rw [if_neg c123] at H
                                          have c123b0 : decide (0 ≤ (rd t366 x13_5)) = false := decide_eq_false c123
                                          clear c123
                                          have H' := Aside0.mk H
                                          clear H
                                          obtain ⟨Ao125, co125, eo125⟩ := Kd.R_slice HO_10.out
                                          subst eo125
                                          have p347 : 0 ≤ (x13_5 : Int) := of_decide_eq_true (by first | (with_reducible assumption) | assumption)
                                          have q347 : x13_5 < (t366.length : Int) := of_decide_eq_true (by first | (with_reducible assumption) | assumption)
                                          obtain ⟨ad347, e347, hx347_0⟩ := Kd.at_int (Kd.R_reads' HO_10.out).2.2 x13_5 p347 q347
                                          cases e347
                                          replace p347 := eq_true p347
                                          replace q347 := eq_true q347
                                          go_wp2
                                          go_roundg k5
                                          case measure => have := HJ70.out; have := HJ81.out; have := HJ90.out; have := HK4.out; have := HK5.out; omega
                                          case rel => exact ⟨(x11_5), (wrap64 (x13_5 + 1)), (by first | rfl | (simp; done) | (simp [*]; done)), (by first | rfl | (simp; done) | (simp [*]; done)), H', ⟨by have := HJ70.out; have := HJ81.out; have := HJ90.out; have := HK4.out; have := HK5.out; omega⟩, ⟨by (with_reducible repeat (first | apply Kd.R_alloc | apply Kd.R_drewN | apply Kd.R_drew)); exact HO_5.out⟩, ⟨by (with_reducible repeat (first | apply Kd.R_alloc | apply Kd.R_drewN | apply Kd.R_drew)); exact HO_6.out⟩, ⟨by (with_reducible repeat (first | apply Kd.R_alloc | apply Kd.R_drewN | apply Kd.R_drew)); exact HO_10.out⟩, ⟨by repeat (first | (with_reducible first | exact HB.out | apply below_alloc | apply pw_below_drewN | apply below_drew1) | exact HB.out)⟩⟩
                                      · rw [if_neg c122] at H
                                        exact absurd H (by simp)
                                    · rw [if_neg c121] at H
                                      exact absurd H (by simp)
                                  · rw [if_neg c120] at H
                                    have c120b0 : decide (x13_5 < (wrap64 (Int.tmod (IntKind.u64.wrap (a1)) 300))) = false := decide_eq_false c120
                                    clear c120
                                    by_cases c126 : x11_5 = 0
                                    · rw [if_pos c126] at H
                                      have c126b0 : (x11_5 == 0) = true := beq_iff_eq.mpr c126
                                      have c126b1 : (x11_5 != 0) = false := bne_eq_false_iff_eq.mpr c126
                                      clear c126
                                      replace H := Option.bind_eq_some_iff.mp H
                                      obtain ⟨t348, A1270, H⟩ := H
                                      replace H : ((redlinelaw05_taken.f k5 t350).bind fun t349 => (some (t348 == (wrap64 ((wrap64 ((t350.length : Int) + (wrap64 (Int.tmod (IntKind.u64.wrap (a1)) 300)))) - (wrap64 (2 * (wrap64 ((t350.length : Int) - t349))))))))) = some r := H
                                      have A127 := Aside0.mk A1270
                                      clear A1270
                                      replace H := Option.bind_eq_some_iff.mp H
                                      obtain ⟨t349, A1280, H⟩ := H
                                      replace H : (some (t348 == (wrap64 ((wrap64 ((t350.length : Int) + (wrap64 (Int.tmod (IntKind.u64.wrap (a1)) 300)))) - (wrap64 (2 * (wrap64 ((t350.length : Int) - t349)))))))) = some r := H
                                      have A128 := Aside0.mk A1280
                                      clear A1280
                                      obtain rfl := Option.some.inj H
                                      go_wp2_with (first | (go_at_call 21; (with_reducible refine (edits_Cost.calls _ _ t353 t348 _ ?side1 ?side2 A127.out).mono ?_); (case side1 => repeat (first | exact (Kd.R_reads' HO_6.out).2.2 | (with_reducible refine Kd.C_alloc ?_ _) | (with_reducible refine Kd.C_drewN ?_ _) | (with_reducible refine Kd.C_drew ?_))); (case side2 => exact (Kd.R_reads' HO_6.out).2.1); rintro e w129 ⟨rfl, hb⟩; have n0_ := Aside0.mk (Kd.R_below (by (with_reducible repeat (first | apply Kd.R_alloc | apply Kd.R_drewN | apply Kd.R_drew)); exact HO_5.out) hb); have n1_ := Aside0.mk (Kd.R_below (by (with_reducible repeat (first | apply Kd.R_alloc | apply Kd.R_drewN | apply Kd.R_drew)); exact HO_6.out) hb); have n2_ := Aside0.mk (Kd.R_below (by (with_reducible repeat (first | apply Kd.R_alloc | apply Kd.R_drewN | apply Kd.R_drew)); exact HO_10.out) hb); have n3_ := Aside0.mk (below_step (by repeat (first | (with_reducible first | exact HB.out | apply below_alloc | apply pw_below_drewN | apply below_drew1) | exact HB.out)) hb); clear HO_5; clear HO_6; clear HO_10; clear HB; have HO_5 := n0_; have HO_6 := n1_; have HO_10 := n2_; have HB := n3_; clear n0_ n1_ n2_ n3_; (try clear hb); (try clear hb2); (try clear hk); (try clear hi)) | (go_at_call 28; (with_reducible refine (redlinelaw05_taken.calls k5 _ _ t350 t349 _ ?side1 ?side2 A128.out).mono ?_); (case side1 => repeat (first | exact (Kd.R_reads' HO_5.out).2.2 | (with_reducible refine Kd.C_alloc ?_ _) | (with_reducible refine Kd.C_drewN ?_ _) | (with_reducible refine Kd.C_drew ?_))); (case side2 => exact (Kd.R_reads' HO_5.out).2.1); rintro e w' ⟨rfl, ⟨nd, rfl⟩⟩))
                                      go_ret
                                      exact ⟨by first | rfl | (simp [errW_none, errW_some] <;> rfl) | (simp [*, errW_none, errW_some] <;> rfl), by repeat (first | (with_reducible first | exact HB.out | apply below_alloc | apply pw_below_drewN | apply below_drew1) | exact HB.out)⟩
                                    · rw [if_neg c126] at H
                                      have c126b0 : (x11_5 == 0) = false := beq_eq_false_iff_ne.mpr c126
                                      have c126b1 : (x11_5 != 0) = true := bne_iff_ne.mpr c126
                                      obtain rfl := Option.some.inj H
                                      go_wp2
                                      go_ret
                                      exact ⟨by first | rfl | (simp [errW_none, errW_some] <;> rfl) | (simp [*, errW_none, errW_some] <;> rfl), by repeat (first | (with_reducible first | exact HB.out | apply below_alloc | apply pw_below_drewN | apply below_drew1) | exact HB.out)⟩
  · replace c4 := Bool.eq_false_iff.mpr c4
    subst c4
    have H1 : (some false) = some r := by rw [if_neg (show ¬ (false = true) by decide)] at H; exact H
    clear H
    have H := H1
    clear H1
    obtain rfl := Option.some.inj H
    go_enter Try.func6, Try.ntmps6
    go_wp2_with (first | ((with_reducible refine gate_callee (f := 25) rfl ?_); refine goesL_ (some 14) rfl rfl Try.func25 (by kernel_rfl) rfl #[] rfl (by (try simp only [List.map_toArray, List.map_cons, List.map_nil]); first | done | rfl | (simp only [List.length_drop, List.length_take]; rfl)) ?_; (with_reducible refine (redlinelaw05_works.calls k  false _ A3.out).mono ?_); rintro e w130 ⟨rfl, hb⟩; refine ⟨_, rfl, ?_⟩; have n0_ := Aside0.mk (below_step (by repeat (first | (with_reducible first | exact HB.out | apply below_alloc | apply pw_below_drewN | apply below_drew1) | exact HB.out)) hb); clear HB; have HB := n0_; clear n0_; (try clear hb); (try clear hb2); (try clear hk); (try clear hi)))
    go_ret
    exact ⟨by first | rfl | (simp [errW_none, errW_some] <;> rfl) | (simp [*, errW_none, errW_some] <;> rfl), by repeat (first | (with_reducible first | exact HB.out | apply below_alloc | apply pw_below_drewN | apply below_drew1) | exact HB.out)⟩

/-- THE ONE PURE STATEMENT of redlinelaw05_EditsBack: yours. -/
def redlinelaw05_EditsBack.Pure : Prop := ∀ (l0 : List Int) (a1 : Int), l0.length ≤ maxLen → l0.length * 8 ≤ 140737488351232 → (∀ x ∈ l0, (Lit.int .i64 x).wf = true) → (Lit.int .i64 a1).wf = true → ∃ k, redlinelaw05_EditsBack.f k l0 a1 = some true
theorem redlinelaw05_EditsBack.walk (P : redlinelaw05_EditsBack.Pure) (a0 : Option Addr) (len0 cap0 : Nat) (z0 : List Int) (a1 : Int) (w : World) (w0 : (a0 = none ∧ len0 = 0 ∧ cap0 = 0 ∧ z0 = []) ∨ ∃ x, a0 = some x ∧ len0 ≤ cap0 ∧ cap0 ≤ maxLen ∧ z0.length = cap0 ∧ (∀ i, i < z0.length → w.cell? (x.add i) = some (.int .i64 (z0.getD i 0))) ∧ ∀ n ∈ z0, (Lit.int .i64 n).wf = true) (y0 : len0 * 8 ≤ 140737488351232) (w1 : (Lit.int .i64 a1).wf = true) :
    Calls Try.prog 6 #[.slice a0 len0 cap0, .int .i64 a1] w fun e w' => e = .returned (.bool true) ∧ Below w.heap.size w w' := by
  obtain ⟨l0, rfl, hr0, hm0, hw0, hc0⟩ := ReadsInt.ofRowC w0
  obtain ⟨k, h⟩ := P l0 a1 hm0 y0 hw0 w1
  refine (redlinelaw05_EditsBack.calls k _ _ l0 a1 true w (Kd.C_of_reads (d := (0 : Int)) (h1 := fun _ => rfl) hr0) hc0 h).mono ?_
  rintro e w' ⟨rfl, hd⟩
  exact ⟨rfl, hd⟩

end Go.Proofs.Ytpkhfeeelkhkaaa.X
