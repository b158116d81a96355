/-
  LinesBack, the plain law: a text's lines are right lines and make the text again; right lines are the lines of their text.
-/
import Derived.Test.YtkodamaoklaibaaDoorX39
import Derived.Test.YtkodamaoklaibaaDoorMore
namespace Go.Proofs.YtkodamaoklaibaaDoor.Z
open Go.RowKit Go.Proofs.YtkodamaoklaibaaDoor.X Go.Proofs.YtkodamaoklaibaaDoorW.PrintWords Go.Proofs.YtkodamaoklaibaaDoorW.PrintLast Go.Proofs.YtkodamaoklaibaaDoorW.PrintMore
set_option linter.unusedVariables false

theorem mem_flat_le {l : List ByteArray} {s : ByteArray} (h : s ∈ l) : s.size ≤ ((l.map (·.data.toList)).flatten).length := by
  induction l with
  | nil => cases h
  | cons x l ih =>
    rw [List.map_cons, List.flatten_cons, List.length_append]
    rcases List.mem_cons.1 h with rfl | h
    · exact Nat.le_add_right _ _
    · have := ih h
      omega
open Classical in
theorem linesBack_pure (s : ByteArray) (l : List ByteArray) (hs : s.size ≤ 4000000) (h1 : l.length ≤ 4000000) (h2 : ((l.map (·.data.toList)).flatten).length ≤ 4000000) : ∃ k, redlinelaw02_LinesBack.f k s l = some true := by
  refine ⟨4000002, ?_⟩
  have hfew := lines_few s
  have hj := join_lines _ s.data.toList (Nat.le_refl _)
  have hr := right_lines _ s.data.toList (Nat.le_refl _)
  have hsz : s.data.toList.length = s.size := rfl
  have j1 := join_f (toB (linesL s.data.toList)) (by omega) (by rw [of_toB, hj]; omega)
  rw [of_toB, hj, toS_of] at j1
  have c1 := check_f (toB (linesL s.data.toList)) (by omega) (fun t ht => by have := mem_flat_le ht; rw [of_toB, hj] at this; omega) 4000002 (by omega)
  rw [of_toB, if_pos hr] at c1
  unfold redlinelaw02_LinesBack.f
  rw [works_run _ (by omega), Option.bind_some, if_pos rfl, lines_Split_f s hs, Option.bind_some, j1, Option.bind_some, if_pos rfl, c1, Option.bind_some, show ((0 : Int) != 0) = false from rfl,
    show (4000002 : Nat) = 4000001 + 1 from rfl, redlinelaw02_LinesBack.j0, if_neg (by simp), check_f l h1 (fun t ht => by have := mem_flat_le ht; omega) _ (by omega), Option.bind_some]
  by_cases hl : right (l.map (·.data.toList))
  · have hb : lines_Split.f (toS (l.map (·.data.toList)).flatten) = some l := by
      rw [lines_Split_f _ (by rw [toS_size]; exact h2), toS_list, lines_join _ hl, ← toB_of rfl]
    rw [if_pos hl, if_pos rfl, join_f l h1 h2, Option.bind_some, hb, Option.bind_some, sameTexts l (by omega) _ (by omega)]
    rfl
  · rw [if_neg hl, if_neg (by omega)]
end Go.Proofs.YtkodamaoklaibaaDoor.Z
