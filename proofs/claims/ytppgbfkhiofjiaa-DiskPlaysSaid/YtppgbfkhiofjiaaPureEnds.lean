/-
  What DiskEnds keeps true of a disk and of its clone behind the last flush. No program in sight.
-/
import Derived.Test.YtppgbfkhiofjiaaPureLasts
namespace Go.Proofs.Ytppgbfkhiofjiaa.X
set_option linter.unusedVariables false

structure EInv (i : Nat) (D E : DS) : Prop where
  n : D.n = 4
  down : D.down = false
  left : D.left = -1
  steps : 0 ≤ D.steps ∧ D.steps ≤ i
  u : D.u + D.c.length ≤ i
  en : E.n = 4
  edown : E.down = false
  ec : E.c = []
  ef : E.f = D.f

theorem einv_new : EInv 0 (newD 4) (newD 4) := ⟨rfl, rfl, rfl, ⟨by decide, by decide⟩, by decide, rfl, rfl, rfl, rfl⟩
theorem step_never {D : DS} (h : D.left = -1) : stepD D = (true, { D with steps := D.steps + 1 }) := by
  unfold stepD
  rw [h, if_neg (by decide), if_neg (by decide)]
theorem EInv.up {i : Nat} {D E : DS} (h : EInv i D E) : EInv (i + 1) D E := by
  obtain ⟨h1, h2, h3, h4, h5, h6, h7, h8, h9⟩ := h
  exact ⟨h1, h2, h3, ⟨h4.1, by omega⟩, by omega, h6, h7, h8, h9⟩
theorem einv_write {i : Nat} {D E : DS} (h : EInv i D E) (n : Int) (b : List Int) : EInv (i + 1) (writeD D n b).2 E := by
  unfold writeD
  rw [step_never h.left]
  split
  · split
    · rw [if_pos rfl]
      obtain ⟨h1, h2, h3, h4, h5, h6, h7, h8, h9⟩ := h
      exact ⟨h1, h2, h3, ⟨by show 0 ≤ D.steps + 1; omega, by show D.steps + 1 ≤ ((i + 1 : Nat) : Int); omega⟩, by show D.u + (D.c ++ [(n, b)]).length ≤ i + 1; rw [List.length_append, List.length_singleton]; omega, h6, h7, h8, h9⟩
    · exact h.up
  · exact h.up
theorem flush_never {D : DS} (hd : D.down = false) (h : D.left = -1) : flushD D = (0, settleD (fun _ => true) { D with steps := D.steps + 1 }) := by
  unfold flushD
  rw [if_neg (by rw [hd]; decide), step_never h, if_pos rfl]
theorem einv_flush {i : Nat} {D E : DS} (h : EInv i D E) : EInv (i + 1) (flushD D).2 (flushD D).2 := by
  rw [flush_never h.down h.left]
  obtain ⟨h1, h2, h3, h4, h5, h6, h7, h8, h9⟩ := h
  exact ⟨h1, h2, h3, ⟨by show 0 ≤ D.steps + 1; omega, by show D.steps + 1 ≤ ((i + 1 : Nat) : Int); omega⟩, by show D.u + D.c.length + 0 ≤ i + 1; omega, h1, h2, rfl, rfl⟩
theorem settleF_keeps (kp : Nat → Bool) (k : Int) (m : Nat) : ∀ (c : List (Int × List Int)) (i : Nat) (f : Int → List Int), (∀ j, j < m → kp j = true) → i + c.length ≤ m → settleF kp i c f k = readC k c (f k)
  | [], i, f, _, _ => rfl
  | p :: c, i, f, hk, hl => by
    simp only [List.length_cons] at hl
    rw [settleF, readC, settleF_keeps kp k m c (i + 1) _ hk (by omega), if_pos (hk i (by omega))]
    congr 1
    unfold upd
    by_cases h : p.1 = k
    · rw [if_pos h.symm, if_pos h]
    · rw [if_neg (fun e => h e.symm), if_neg h]
theorem settleF_none (k : Int) : ∀ (c : List (Int × List Int)) (i : Nat) (f : Int → List Int), settleF (keepB []) i c f k = f k
  | [], i, f => rfl
  | p :: c, i, f => by
    rw [settleF, settleF_none k c (i + 1), if_neg (by simp [keepB])]
theorem keep_all (j : Nat) (h : j < 300) : keepB (List.replicate 300 true) j = true := by
  unfold keepB
  rw [List.length_replicate, decide_eq_true h, Bool.true_and, List.getD_eq_getElem?_getD, List.getElem?_replicate, if_pos h]
  rfl
theorem einv_ends {i : Nat} {D E : DS} (h : EInv i D E) (hi : i ≤ 150) {k : Nat} (hk : k < 4) :
    lookD (mendD (List.replicate 300 true) D) k = 0 ∧ lookD (mendD [] D) k = 0 ∧ lookD (flushD D).2 k = 0 ∧ lookD E k = 0 ∧
    readC k (mendD (List.replicate 300 true) D).c ((mendD (List.replicate 300 true) D).f k) = readC k (flushD D).2.c ((flushD D).2.f k) ∧ readC k (mendD [] D).c ((mendD [] D).f k) = readC k E.c (E.f k) := by
  have look : ∀ X : DS, X.down = false → X.n = 4 → lookD X k = 0 := fun X h1 h2 => by
    unfold lookD
    rw [h1, h2, if_neg (by decide), if_neg (by omega), if_neg (by omega)]
  refine ⟨look _ rfl h.n, look _ rfl h.n, ?_, look _ h.edown h.en, ?_, ?_⟩
  · rw [flush_never h.down h.left]
    exact look _ h.down h.n
  · rw [flush_never h.down h.left]
    show settleF (keepB (List.replicate 300 true)) 0 D.c D.f k = settleF (fun _ => true) 0 D.c D.f k
    rw [settleF_all, settleF_keeps _ k 300 D.c 0 D.f keep_all (by have := h.u; omega)]
  · rw [h.ec, h.ef]
    show settleF (keepB []) 0 D.c D.f k = D.f k
    exact settleF_none _ _ _ _
end Go.Proofs.Ytppgbfkhiofjiaa.X
