/-
  What DiskPlays keeps true of a disk. No program in sight.
-/
import Derived.Test.YtppgbfkhiofjiaaER7
namespace Go.Proofs.Ytppgbfkhiofjiaa.X
set_option linter.unusedVariables false

structure PInv (i : Nat) (D : DS) : Prop where
  steps : 0 ≤ D.steps ∧ D.steps ≤ i
  left : D.left ≤ 9223372036854775807
  u : D.u + D.c.length ≤ i
theorem PInv.up {i : Nat} {D : DS} (h : PInv i D) : PInv (i + 1) D := by
  obtain ⟨h1, h2, h3⟩ := h
  exact ⟨⟨h1.1, by omega⟩, h2, by omega⟩
theorem PInv.step {i : Nat} {D : DS} (h : PInv i D) : PInv (i + 1) (stepD D).2 ∧ (stepD D).2.u + (stepD D).2.c.length ≤ i := by
  obtain ⟨h1, h2, h3⟩ := h
  obtain ⟨a1, a2, a3, a4⟩ := stepD_c D
  refine ⟨⟨?_, ?_, by rw [a1, a2]; omega⟩, by rw [a1, a2]; exact h3⟩
  · unfold stepD
    split
    · exact ⟨h1.1, by show D.steps ≤ ((i + 1 : Nat) : Int); omega⟩
    · exact ⟨by show 0 ≤ D.steps + 1; omega, by show D.steps + 1 ≤ ((i + 1 : Nat) : Int); omega⟩
  · unfold stepD
    split
    · exact h2
    · show (if 0 < D.left then D.left - 1 else D.left) ≤ _
      split <;> omega
theorem PInv.write {i : Nat} {D : DS} (h : PInv i D) (n : Int) (b : List Int) : PInv (i + 1) (writeD D n b).2 := by
  unfold writeD
  split
  · split
    · split
      · obtain ⟨⟨g1, g2, g3⟩, g4⟩ := h.step
        refine ⟨g1, g2, ?_⟩
        show (stepD D).2.u + ((stepD D).2.c ++ [(n, b)]).length ≤ i + 1
        rw [List.length_append, List.length_singleton]
        omega
      · exact h.step.1
    · exact h.up
  · exact h.up
theorem PInv.flush {i : Nat} {D : DS} (h : PInv i D) : PInv (i + 1) (flushD D).2 := by
  unfold flushD
  split
  · exact h.up
  · split
    · obtain ⟨⟨g1, g2, g3⟩, g4⟩ := h.step
      exact ⟨g1, g2, by show (stepD D).2.u + (stepD D).2.c.length + 0 ≤ i + 1; omega⟩
    · exact h.step.1
theorem PInv.mend {i : Nat} {D : DS} (h : PInv i D) (l : List Bool) : PInv (i + 1) (mendD l D) := by
  obtain ⟨h1, h2, h3⟩ := h
  exact ⟨⟨h1.1, by show D.steps ≤ ((i + 1 : Nat) : Int); omega⟩, by show (-1 : Int) ≤ _; decide, by show D.u + D.c.length + 0 ≤ i + 1; omega⟩
theorem PInv.act {i : Nat} {D : DS} (h : PInv i D) (o : OpV) (ho : o.n ≤ 9223372036854775807) : PInv (i + 1) (actD D o) := by
  unfold actD
  split
  · exact h.write _ _
  · split
    · exact h.flush
    · split
      · obtain ⟨h1, h2, h3⟩ := h.up
        exact ⟨h1, by show (if o.n < -1 then -1 else o.n) ≤ _; split <;> omega, h3⟩
      · split
        · exact h.mend _
        · exact h.up
theorem pinv_new (n : Int) : PInv 0 (newD n) := ⟨⟨Int.le_refl 0, Int.le_refl 0⟩, by show (-1 : Int) ≤ 9223372036854775807; decide, Nat.le_refl 0⟩
end Go.Proofs.Ytppgbfkhiofjiaa.X
