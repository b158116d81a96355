/-
  LinesBack holds where what it reads is of bulk at most 1048576: the lines of a text are right lines and make it again; right lines are the lines of the text that they make.
-/
import Derived.Test.YtkodamaoklaibaaDoorCards
import Derived.Test.YtkodamaoklaibaaDoorTie
import Derived.Test.YtkodamaoklaibaaDoorWit
import Derived.Test.YtkodamaoklaibaaDoorPureBack
import Derived.OpenShut
import Derived.ShutString
import Derived.ChangeOld
import Derived.Below
import Derived.JoinedCond
import Derived.SliceStrings
namespace Go.Proofs.YtkodamaoklaibaaDoor.linesBack
open Go.ChangeShapes Go.WideShapes Go.ChangeAt Go.RowKit
open Go.ChangeMaps (open_string shut_string)
open Go.Proofs.YtkodamaoklaibaaDoorW.PrintWords
set_option linter.unusedVariables false

section
variable {H : Type} {enc : TypeId × Value → H} {P : Program} {W : World}
theorem strs_bulk : ∀ l : List ByteArray, Rows.uptoBulkAll (H := H) (strs l) = l.length + ((l.map (·.data.toList)).flatten).length
  | [] => by simp [strs, Rows.uptoBulkAll]
  | s :: l => by
    have ih := strs_bulk l
    simp only [strs, List.map_cons, Rows.uptoBulkAll, Rows.uptoBulk, List.flatten_cons, List.length_append, List.length_cons] at ih ⊢
    rw [ih]
    omega
/-- A slice of texts among the arguments, opened. -/
theorem open_texts {t e : TypeId} {fuel : Nat} {a0 : Option Addr} {len cap : Nat} {d : DataW H} {p : List MemPlace} (ht : P.underlying t = some (.slice e)) (he : P.underlying e = some .string) (hc : P.cellsOf e = 1)
    (h : DataW.trod enc P W 0 (fun _ => true) true fuel t (Value.slice a0 len cap).cells.toList = some (d, p)) :
    ∃ l : List ByteArray, len = l.length ∧ Kd.C Kd.string W a0 l.length l ∧ l.length ≤ cap ∧ l.length ≤ maxLen ∧ l.length + ((l.map (·.data.toList)).flatten).length ≤ Rows.uptoBulk d := by
  rcases open_strings ht he hc h with ⟨hcs, hx⟩ | ⟨a, len', cap', ss, hcs, _, hl, hm, hz, hx, hcell, hsz⟩
  · simp [Value.cells] at hcs
    obtain ⟨rfl, rfl, rfl⟩ := hcs
    exact ⟨[], rfl, ⟨rfl, by simp, fun h => absurd h (Nat.lt_irrefl 0)⟩, Nat.le_refl _, by simp, by simp⟩
  · simp [Value.cells] at hcs
    obtain ⟨rfl, rfl, rfl⟩ := hcs
    simp only [if_true] at hz
    injection hx with hx1 hx2
    have hlen : (ss.take len).length = len := by rw [List.length_take]; omega
    refine ⟨ss.take len, hlen.symm, ⟨rfl, by rw [hlen]; simp only [maxLen] at hm; omega, fun _ => ⟨a, rfl, fun j s hj => ?_⟩⟩, by rw [hlen]; exact hl, by rw [hlen]; omega, ?_⟩
    · obtain ⟨hj1, hj2⟩ := List.getElem?_eq_some_iff.1 hj
      rw [hlen] at hj1
      refine ⟨[.string s], rfl, rfl, fun i u hu => ?_⟩
      cases i with
      | succ i => simp at hu
      | zero =>
        have hu' : Value.string s = u := by simpa using hu
        subst hu'
        have h1 := hcell j (by omega)
        have h2 : ss.getD j ByteArray.empty = s := by
          rw [List.getElem_take] at hj2
          rw [List.getD_eq_getElem?_getD, List.getElem?_eq_getElem (by omega), hj2]
          rfl
        rw [h2] at h1
        show W.cell? (a.add (j * 1 + 0)) = _
        rw [show j * 1 + 0 = j by omega]
        exact h1
    · subst hx1
      simp only [Rows.uptoBulk, strs_bulk]
      omega
end

theorem reads (os : Os) {H : Type} (enc : TypeId × Value → H) : ∃ places, DataW.whole enc Tryd.prog ((laidWorld os).forCall (fun _ _ => 0) ⟨#[], #[.string ⟨#[]⟩, .slice none 0 0], []⟩).memory Tryd.f6.params.toList Rows.linesBackSpec.vars false #[Value.string ⟨#[]⟩, Value.slice none 0 0].toList 8 = some ([.lit (.string []), .nil], [], places) :=
  ⟨[], by kernel_rfl⟩
set_option maxRecDepth 100000 in
theorem lifted (os : Os) (started : os.Started) (H : Type) (enc : TypeId × Value → H) (F : Stop.Interp) :
    ReturnsInHanded {} Tryd.checked os 6 .any ((Rows.OpenSpec.upto Rows.linesBackSpec).preRow enc Tryd.prog Tryd.f6 Rows.linesBackUptoRow.domain false Rows.linesBackUptoRow.laid) (((Rows.OpenSpec.upto Rows.linesBackSpec).at F).post enc Tryd.prog Tryd.f6 false true false false) := by
  obtain ⟨places, hx⟩ := reads os enc
  refine returnsInHanded_of_row (C := Tryd.checked) (s := Rows.OpenSpec.upto Rows.linesBackSpec) own started (by kernel_rfl) Tryd.func6
    (witness_row_at (enc := enc) (C := Tryd.checked) false (laidWorld os) #[.string ⟨#[]⟩, .slice none 0 0] rfl (by kernel_rfl) (by kernel_rfl) (by kernel_rfl)
      (OpenSpec.preRow_of_cond 8 hx (by kernel_rfl) (fun k hk => by cases hk; kernel_rfl) (by kernel_rfl) (laid_met3 os))) ?_
  intro W base args ds gs before hval0 hW _ hk _ hL _ _
  have hval : ∀ (j : Nat) t v, Tryd.f6.params[j]? = some t → args[j]? = some v → Value.okWide Tryd.prog W .any base t v := hval0
  have hW' := hW
  obtain ⟨p, q, hA0, hV, rfl, hfz, hnd⟩ := hW
  have hA : DataW.TrodAll enc Tryd.prog W 0 (fun _ => true) true Tryd.f6.params.toList args.toList ds p := hA0
  rw [Tryd.params6] at hA hval
  obtain ⟨v0, vs0, d0, ds0, p0, q0, hargs, rfl, rfl, h0, r0⟩ := trodAll_cons hA
  obtain ⟨v1, vs1, d1, ds1, p1, q1, rfl, rfl, rfl, h1, r1⟩ := trodAll_cons r0
  obtain ⟨rfl, rfl, rfl⟩ := trodAll_nil r1
  obtain rfl : args = #[v0, v1] := by cases args; simp_all
  obtain ⟨rfl, rfl⟩ := trodVars_none hV
  obtain ⟨a0, rfl, rfl, rfl, y0⟩ := open_string Tryd.underlying9 (hval 0 9 v0 rfl rfl) h0
  obtain ⟨a1, len1, cap1, rfl⟩ := okWide_slice Tryd.underlying22 (hval 1 22 v1 rfl rfl)
  have k1 := h1
  have lt1 : ∀ x ∈ p1, x.block < W.heap.size := by obtain ⟨m, hm⟩ := k1; exact DataW.trod_lt m _ _ _ hm
  obtain ⟨l1, rfl, hr1, hc1, hm1, hb1⟩ : ∃ l : List ByteArray, len1 = l.length ∧ Kd.C Kd.string W a1 l.length l ∧ l.length ≤ cap1 ∧ l.length ≤ maxLen ∧ l.length + ((l.map (·.data.toList)).flatten).length ≤ Rows.uptoBulk d1 := by
    obtain ⟨fuel, hf⟩ := h1
    exact open_texts Tryd.underlying22 Tryd.underlying9 (by kernel_rfl) hf
  have hs := upto_small (hk _ rfl)
  simp only [List.append_nil, Rows.uptoBulkAll] at hs
  rw [show Rows.uptoBulk (DataW.lit (H := H) (.string a0.data.toList)) = a0.size + 1 from rfl] at hs
  clear hA0 hval0 hk
  obtain ⟨k, hP⟩ := Z.linesBack_pure a0 l1 (by omega) (by omega) (by omega)
  refine (X.redlinelaw02_LinesBack.calls k a0 a1 cap1 l1 true W hr1 hc1 hP).mono fun e W' ⟨he, bel⟩ => ?_
  subst he
  exact ⟨_, rfl, _, _, _, [], _, [], hW', trodAll_mk1 (shut_bool Tryd.underlying4 _), (trodAll_cons_mk (shut_string Tryd.underlying9 y0) (trodAll_cons_mk (Below.trod laidOut (by kernel_rfl) (of_decide_eq_true (by kernel_rfl)) k1 bel lt1) trodAll_mk0)), rfl, bel.frame _, fun h => by cases h⟩
theorem saidUpto : Rows.LinesBackUptoSaid :=
  OpenClaim.holds_of_cond 6 Tryd.f6 rfl rfl rfl rfl rfl rfl rfl ⟨rfl, rfl, rfl, rfl, rfl⟩ rfl rfl rfl rfl rfl (by kernel_rfl) Tryd.func6 (by kernel_rfl)
    (of_decide_eq_true (by kernel_rfl)) (by unfold Func.isWrapper; first | (rw [if_pos (by decide +kernel)]; kernel_rfl) | (rw [if_neg (by decide +kernel)]; exact ⟨rfl, rfl⟩))
    (fun os started H enc _ F => by rw [OpenClaim.pre_eq_preRow]; exact lifted os started H enc F)
theorem plain (f : FuncId) (fn : Func) (hf : Tryd.pinned.checked.prog.funcNamed "redline/redlinelaw02.LinesBack" = some f) (hfn : Tryd.pinned.checked.prog.funcs[f]? = some fn) :
    false = Tryd.pinned.checked.prog.looks [] ∧ ∀ (j : Nat) t, fn.params[j]? = some t → Tryd.pinned.checked.prog.wantsStandIn t = false := by
  obtain rfl : f = 6 := Option.some.inj ((show Tryd.prog.funcNamed "redline/redlinelaw02.LinesBack" = some 6 by kernel_rfl).symm.trans hf) |>.symm
  obtain rfl : fn = Tryd.f6 := (Option.some.inj (Tryd.func6.symm.trans hfn)).symm
  refine ⟨by kernel_rfl, fun j t ht => ?_⟩
  rw [Tryd.params6] at ht
  have ht' : t = 9 ∨ t = 22 := by simpa using Array.mem_of_getElem? ht
  rcases ht' with rfl | rfl
  · exact (show Tryd.prog.wantsStandIn 9 = false by kernel_rfl)
  · exact (show Tryd.prog.wantsStandIn 22 = false by kernel_rfl)
theorem cardUpto : Rows.LinesBackUptoCardSaid :=
  Claim7.holds_tied_plain_at .later [] _ _ _ _ saidUpto (fun _ h => by cases h) (by kernel_rfl) (fun _ h => by cases h) linesBackUpto_row_tie rfl ⟨rfl, rfl⟩ (by kernel_rfl) rfl plain (by kernel_rfl)
end Go.Proofs.YtkodamaoklaibaaDoor.linesBack
namespace Go.Proofs.YtkodamaoklaibaaDoor
/-- The card, under a short name, for the claim. -/
theorem linesBack_card : Rows.LinesBackUptoCardSaid := linesBack.cardUpto
#print axioms linesBack_card
end Go.Proofs.YtkodamaoklaibaaDoor
