/-
  LinesSplit, the plain law: the program and the reference take a text apart alike, also once the lines have been written over.
-/
import Derived.Test.YtkodamaoklaibaaDoorX20
import Derived.Test.YtkodamaoklaibaaDoorRuns
namespace Go.Proofs.YtkodamaoklaibaaDoor.Z
open Go.RowKit Go.Proofs.YtkodamaoklaibaaDoor.X Go.Proofs.YtkodamaoklaibaaDoorW.PrintWords Go.Proofs.YtkodamaoklaibaaDoorW.PrintLast Go.Proofs.YtkodamaoklaibaaDoorW.PrintMore
set_option linter.unusedVariables false

theorem spoil_run (s : ByteArray) (hs : s.size ≤ 4000000) (K : Nat) (hK : s.size + 1 ≤ K) (d : Nat) : ∀ (i : Nat) (x : List ByteArray), i + d = x.length → x.length ≤ 4000000 → redlinelaw02_LinesSplit.l0 (K + d + 1) s x i = some true := by
  have hfew := lines_few s
  induction d with
  | zero =>
    intro i x hi hx
    rw [redlinelaw02_LinesSplit.l0, if_neg (by omega), lines_Split_f s hs, Option.bind_some, refSplit_f s hs _ (by omega), Option.bind_some, sameTexts _ (by omega) _ (by omega)]
    rfl
  | succ d ih =>
    intro i x hi hx
    rw [show K + (d + 1) + 1 = (K + d + 1) + 1 by omega, redlinelaw02_LinesSplit.l0, if_pos (by omega), if_pos (by omega), wrap_succ i (by omega)]
    exact ih (i + 1) _ (by rw [List.length_set]; omega) (by rw [List.length_set]; exact hx)
theorem linesSplit_pure (s : ByteArray) (hs : s.size ≤ 4000000) : ∃ k, redlinelaw02_LinesSplit.f k s = some true := by
  have hfew := lines_few s
  refine ⟨s.size + 1 + (toB (linesL s.data.toList)).length + 1, ?_⟩
  unfold redlinelaw02_LinesSplit.f
  rw [lines_Split_f s hs, Option.bind_some, refSplit_f s hs _ (by omega), Option.bind_some, sameTexts _ (by omega) _ (by omega), Option.bind_some, if_pos rfl]
  exact spoil_run s hs (s.size + 1) (by omega) _ 0 _ (by omega) (by omega)
end Go.Proofs.YtkodamaoklaibaaDoor.Z
