/-
  LinesJoin holds where what it reads is of bulk at most 1048576: the program and the reference put any such list together alike and look at it alike; it stays as it is.
-/
import Derived.Test.YtkodamaoklaibaaRows
import Derived.Test.YtkodamaoklaibaaPureLinesJoin
import Derived.WalkKit
import Derived.ProofKit
import Derived.OpenShut
import Derived.ShutString
import Derived.ChangeOld
import Derived.Below
import Derived.SliceStrings
import Derived.JoinedCond
import Derived.SizedLaws
namespace Go.Proofs.Ytkodamaoklaibaa.linesJoin
open Go.ChangeShapes Go.WideShapes Go.ChangeAt Go.RowKit
open Go.Proofs.YtkodamaoklaibaaW.PrintWords
open Go.ChangeMaps (open_string shut_string)
set_option linter.unusedVariables false
theorem own : ownKnob Try.prog.godebug = none := by kernel_rfl
theorem laidOut : laidOutB Try.prog = true := by kernel_rfl

section
variable {H : Type} {enc : TypeId × Value → H} {P : Program} {W : World}
theorem strs_bulk : ∀ l : List ByteArray, Rows.uptoBulkAll (H := H) (strs l) = l.length + X.bulk l
  | [] => by simp [strs, Rows.uptoBulkAll, X.bulk]
  | s :: l => by
    have ih := strs_bulk l
    have hs : s.data.toList.length = s.size := rfl
    simp only [strs, List.map_cons, Rows.uptoBulkAll, Rows.uptoBulk, X.bulk, List.sum_cons, List.length_cons] at ih ⊢
    rw [ih, hs]
    omega
/-- A slice of texts among the arguments, opened. -/
theorem open_texts {t e : TypeId} {fuel : Nat} {a0 : Option Addr} {len cap : Nat} {d : DataW H} {p : List MemPlace} (ht : P.underlying t = some (.slice e)) (he : P.underlying e = some .string) (hc : P.cellsOf e = 1)
    (h : DataW.trod enc P W 0 (fun _ => true) true fuel t (Value.slice a0 len cap).cells.toList = some (d, p)) :
    ∃ l : List ByteArray, len = l.length ∧ Kd.C Kd.string W a0 l.length l ∧ l.length ≤ cap ∧ l.length ≤ maxLen ∧ l.length + X.bulk l ≤ Rows.uptoBulk d := by
  rcases open_strings ht he hc h with ⟨hcs, hx⟩ | ⟨a, len', cap', ss, hcs, _, hl, hm, hz, hx, hcell, hsz⟩
  · simp [Value.cells] at hcs
    obtain ⟨rfl, rfl, rfl⟩ := hcs
    exact ⟨[], rfl, ⟨rfl, by simp, fun h => absurd h (Nat.lt_irrefl 0)⟩, Nat.le_refl _, by simp, by simp [X.bulk]⟩
  · simp [Value.cells] at hcs
    obtain ⟨rfl, rfl, rfl⟩ := hcs
    simp only [if_true] at hz
    injection hx with hx1 hx2
    have hlen : (ss.take len).length = len := by rw [List.length_take]; omega
    refine ⟨ss.take len, hlen.symm, ⟨rfl, by rw [hlen]; simp only [maxLen] at hm; omega, fun _ => ⟨a, rfl, fun j s hj => ?_⟩⟩, by rw [hlen]; exact hl, by rw [hlen]; omega, ?_⟩
    · obtain ⟨hj1, hj2⟩ := List.getElem?_eq_some_iff.1 hj
      rw [hlen] at hj1
      refine ⟨[.string s], rfl, rfl, fun i u hu => ?_⟩
      cases i with
      | succ i => simp at hu
      | zero =>
        have hu' : Value.string s = u := by simpa using hu
        subst hu'
        have h1 := hcell j (by omega)
        have h2 : ss.getD j ByteArray.empty = s := by
          rw [List.getElem_take] at hj2
          rw [List.getD_eq_getElem?_getD, List.getElem?_eq_getElem (by omega), hj2]
          rfl
        rw [h2] at h1
        show W.cell? (a.add (j * 1 + 0)) = _
        rw [show j * 1 + 0 = j by omega]
        exact h1
    · subst hx1
      simp only [Rows.uptoBulk, strs_bulk]
      omega
end

theorem upto_small {H : Type} {ds : List (DataW H)} (h : Rows.uptoSmall H ds = true) : Rows.uptoBulkAll ds ≤ 1048576 := of_decide_eq_true h

set_option maxRecDepth 100000 in
theorem lifted (os : Os) (started : os.Started) (H : Type) (enc : TypeId × Value → H) (F0 : Stop.Interp) :
    ReturnsInHanded {} Try.checked os 5 .any ((Rows.OpenSpec.upto Rows.linesJoinSpec).pre6 enc Try.prog Try.f5 Rows.linesJoinUptoRow.domain false) (((Rows.OpenSpec.upto Rows.linesJoinSpec).at F0).post enc Try.prog Try.f5 false true false false) := by
  refine returnsInHanded_of_cond (C := Try.checked) (s := Rows.OpenSpec.upto Rows.linesJoinSpec) (k := Rows.uptoSmall) rfl own started (by kernel_rfl) Try.func5
    (OpenSpec.witness (enc := enc) (C := Try.checked) (s := Rows.OpenSpec.upto Rows.linesJoinSpec) (k := Rows.uptoSmall) rfl false ⟨#[], #[.slice none 0 0], []⟩ 8 (by kernel_rfl) (by kernel_rfl) (by kernel_rfl)
      (x := ([.nil], [], [])) (by kernel_rfl) (by kernel_rfl) (by kernel_rfl)) ?_
  intro W base args ds gs before hval0 hW _ hk _
  have hval : ∀ (j : Nat) t v, Try.f5.params[j]? = some t → args[j]? = some v → Value.okWide Try.prog W .any base t v := hval0
  have hW' := hW
  obtain ⟨p, q, hA0, hV, rfl, hfz, hnd⟩ := hW
  have hA : DataW.TrodAll enc Try.prog W 0 (fun _ => true) true Try.f5.params.toList args.toList ds p := hA0
  rw [Try.params5] at hA hval
  obtain ⟨v0, vs0, d0, ds0, p0, q0, hargs, rfl, rfl, h0, r0⟩ := trodAll_cons hA
  obtain ⟨rfl, rfl, rfl⟩ := trodAll_nil r0
  obtain rfl : args = #[v0] := by cases args; simp_all
  obtain ⟨rfl, rfl⟩ := trodVars_none hV
  obtain ⟨a0, len0, cap0, rfl⟩ := okWide_slice Try.underlying28 (hval 0 28 v0 rfl rfl)
  have k0 := h0
  have lt0 : ∀ x ∈ p0, x.block < W.heap.size := by obtain ⟨m, hm⟩ := k0; exact DataW.trod_lt m _ _ _ hm
  obtain ⟨l0, rfl, hr0, hc0, hm0, hb0⟩ : ∃ l : List ByteArray, len0 = l.length ∧ Kd.C Kd.string W a0 l.length l ∧ l.length ≤ cap0 ∧ l.length ≤ maxLen ∧ l.length + X.bulk l ≤ Rows.uptoBulk d0 := by
    obtain ⟨fuel, hf⟩ := h0
    exact open_texts Try.underlying28 Try.underlying9 (by kernel_rfl) hf
  have hs := upto_small hk
  simp only [List.append_nil, Rows.uptoBulkAll] at hs
  clear hA0 hval0
  obtain ⟨k, hP⟩ := X.linesJoin_pure l0 (by omega) (by omega)
  refine (X.redlinelaw02_LinesJoin.calls k a0 cap0 l0 true W hr0 hc0 hP).mono fun e W' ⟨he, bel⟩ => ?_
  subst he
  exact ⟨_, rfl, _, _, _, [], _, [], hW', trodAll_mk1 (shut_bool Try.underlying4 _), (trodAll_cons_mk (Below.trod laidOut (by kernel_rfl) (of_decide_eq_true (by kernel_rfl)) k0 bel lt0) trodAll_mk0), rfl, bel.frame _, fun h => by cases h⟩
theorem over : Rows.LinesJoinUptoSaid :=
  OpenClaim.holds_of_cond 5 Try.f5 rfl rfl rfl rfl rfl rfl rfl ⟨rfl, rfl, rfl, rfl, rfl⟩ rfl rfl rfl rfl rfl (by kernel_rfl) Try.func5 (by kernel_rfl)
    (of_decide_eq_true (by kernel_rfl)) (by unfold Func.isWrapper; first | (rw [if_pos (by decide +kernel)]; kernel_rfl) | (rw [if_neg (by decide +kernel)]; exact ⟨rfl, rfl⟩))
    (fun os started H enc _ F0 => lifted os started H enc F0)
end Go.Proofs.Ytkodamaoklaibaa.linesJoin
namespace Go.Proofs.Ytkodamaoklaibaa
/-- The row, under a short name, for the claim. -/
theorem linesJoin_holds : Rows.LinesJoinUptoSaid := linesJoin.over
end Go.Proofs.Ytkodamaoklaibaa
