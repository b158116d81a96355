/-
  What DiskLasts keeps true of a disk and of the first bytes that its sectors may have. No program in sight.
-/
import Derived.Test.YtppgbfkhiofjiaaED6
namespace Go.Proofs.Ytppgbfkhiofjiaa.X
set_option linter.unusedVariables false

def hd (b : List Int) : Int := b.getD 0 0
def tail1 (l : List Int) : List Int := l.drop (l.length - 1)
structure Inv (i : Nat) (D : DS) (may : Nat → List Int) : Prop where
  n : D.n = 3
  steps : 0 ≤ D.steps ∧ D.steps ≤ i
  left : D.left ≤ 9223372036854775807
  u : D.u + D.c.length ≤ i
  len : ∀ k, k < 3 → (may k).length ≤ i + 1
  last : ∀ k, k < 3 → (may k).getLast? = some (hd (readC k D.c (D.f k)))
  base : ∀ k : Nat, k < 3 → hd (D.f k) ∈ may k
  pend : ∀ p ∈ D.c, ∀ k : Nat, k < 3 → p.1 = k → hd p.2 ∈ may k

theorem readC_append (n : Int) : ∀ (c d : List (Int × List Int)) (b : List Int), readC n (c ++ d) b = readC n d (readC n c b)
  | [], d, b => rfl
  | p :: c, d, b => by rw [List.cons_append, readC, readC, readC_append n c d]
theorem settleF_all (k : Int) : ∀ (c : List (Int × List Int)) (i : Nat) (f : Int → List Int), settleF (fun _ => true) i c f k = readC k c (f k)
  | [], i, f => rfl
  | p :: c, i, f => by
    rw [settleF, readC, settleF_all k c (i + 1), if_pos rfl]
    congr 1
    unfold upd
    by_cases h : p.1 = k
    · rw [if_pos h.symm, if_pos h]
    · rw [if_neg (fun e => h e.symm), if_neg h]
theorem settleF_mem (kp : Nat → Bool) (k : Int) : ∀ (c : List (Int × List Int)) (i : Nat) (f : Int → List Int), settleF kp i c f k = f k ∨ ∃ p ∈ c, p.1 = k ∧ settleF kp i c f k = p.2
  | [], i, f => .inl rfl
  | p :: c, i, f => by
    rw [settleF]
    rcases settleF_mem kp k c (i + 1) (if kp i = true then upd f p.1 p.2 else f) with h | ⟨q, hq, h1, h2⟩
    · rw [h]
      by_cases hk : kp i = true
      · rw [if_pos hk]
        unfold upd
        by_cases e : k = p.1
        · rw [if_pos e]
          exact .inr ⟨p, by simp, e.symm, rfl⟩
        · rw [if_neg e]
          exact .inl rfl
      · rw [if_neg hk]
        exact .inl rfl
    · exact .inr ⟨q, by simp [hq], h1, h2⟩

theorem inv_new : Inv 0 (newD 3) (fun _ => [0]) := by
  refine ⟨rfl, ⟨by decide, by decide⟩, by decide, by decide, fun k hk => by simp, fun k hk => rfl, fun k hk => ?_, fun p hp => by cases hp⟩
  show hd zeros64 ∈ [0]
  decide
theorem inv_step {i : Nat} {D : DS} {may : Nat → List Int} (h : Inv i D may) : Inv (i + 1) (stepD D).2 may := by
  obtain ⟨h1, h2, h3, h4, h5, h6, h7, h8⟩ := h
  obtain ⟨a1, a2, a3, a4⟩ := stepD_c D
  refine ⟨a4.trans h1, ?_, ?_, by rw [a1, a2]; omega, fun k hk => by have := h5 k hk; omega, fun k hk => by rw [a1, a3]; exact h6 k hk, fun k hk => by rw [a3]; exact h7 k hk, fun p hp k hk e => h8 p (a1 ▸ hp) k hk e⟩
  · unfold stepD
    split
    · exact ⟨h2.1, by show D.steps ≤ ((i + 1 : Nat) : Int); omega⟩
    · exact ⟨by show 0 ≤ D.steps + 1; omega, by show D.steps + 1 ≤ ((i + 1 : Nat) : Int); omega⟩
  · unfold stepD
    split
    · exact h3
    · show (if 0 < D.left then D.left - 1 else D.left) ≤ _
      split <;> omega
theorem Inv.up {i : Nat} {D : DS} {may : Nat → List Int} (h : Inv i D may) : Inv (i + 1) D may := by
  obtain ⟨h1, h2, h3, h4, h5, h6, h7, h8⟩ := h
  exact ⟨h1, ⟨h2.1, by omega⟩, h3, by omega, fun k hk => by have := h5 k hk; omega, h6, h7, h8⟩
theorem inv_arm {i : Nat} {D : DS} {may : Nat → List Int} (h : Inv i D may) {x : Int} (hx : x ≤ 9223372036854775807) : Inv (i + 1) { D with left := x } may := by
  obtain ⟨h1, h2, h3, h4, h5, h6, h7, h8⟩ := h.up
  exact ⟨h1, h2, hx, h4, h5, h6, h7, h8⟩
def updM (may : Nat → List Int) (n : Nat) (l : List Int) : Nat → List Int := fun k => if k = n then l else may k
theorem inv_write {i : Nat} {D : DS} {may : Nat → List Int} (h : Inv i D may) {n : Nat} (hn : n < 3) (b : List Int) :
    ((writeD D n b).1 = 0 → Inv (i + 1) (writeD D n b).2 (updM may n (may n ++ [hd b]))) ∧ ((writeD D n b).1 ≠ 0 → Inv (i + 1) (writeD D n b).2 may) := by
  unfold writeD
  by_cases c1 : lookD D n = 0
  · rw [if_pos c1]
    by_cases c2 : b.length = 64
    · rw [if_pos c2]
      by_cases c3 : (stepD D).1 = true
      · rw [if_pos c3]
        refine ⟨fun _ => ?_, fun h => absurd rfl h⟩
        obtain ⟨a1, a2, a3, a4⟩ := stepD_c D
        obtain ⟨h1, h2, h3, h4, h5, h6, h7, h8⟩ := h
        obtain ⟨g1, g2, g3, g4, g5, g6, g7, g8⟩ := inv_step ⟨h1, h2, h3, h4, h5, h6, h7, h8⟩
        have key : ∀ k : Nat, updM may n (may n ++ [hd b]) k = if k = n then may k ++ [hd b] else may k := by
          intro k
          unfold updM
          split
          · subst_vars; rfl
          · rfl
        refine ⟨g1, g2, g3, ?_, fun k hk => ?_, fun k hk => ?_, fun k hk => ?_, fun p hp k hk e => ?_⟩
        · show (stepD D).2.u + ((stepD D).2.c ++ [((n : Int), b)]).length ≤ _
          rw [List.length_append, a1, a2]
          simp
          omega
        · rw [key]
          have := h5 k hk
          split <;> simp <;> omega
        · show _ = some (hd (readC k ((stepD D).2.c ++ [((n : Int), b)]) ((stepD D).2.f k)))
          rw [key, readC_append, readC, readC]
          by_cases e : k = n
          · rw [if_pos e, if_pos (by rw [e])]
            simp
          · rw [if_neg e, if_neg (by show ¬ (n : Int) = (k : Int); omega), a1, a3]
            exact h6 k hk
        · show hd ((stepD D).2.f k) ∈ _
          rw [a3, key]
          split
          · exact List.mem_append_left _ (h7 k hk)
          · exact h7 k hk
        · rw [key]
          rcases List.mem_append.1 hp with hp | hp
          · rw [a1] at hp
            have := h8 p hp k hk e
            split
            · exact List.mem_append_left _ this
            · exact this
          · have hp : p = ((n : Int), b) := by simpa using hp
            subst hp
            have e : (n : Int) = (k : Int) := e
            rw [if_pos (by omega)]
            simp
      · rw [if_neg c3]
        exact ⟨fun h => absurd h (by show ¬ ((_ : Int) = 0); simp), fun _ => inv_step h⟩
    · rw [if_neg c2]
      exact ⟨fun h => absurd h (by show ¬ ((_ : Int) = 0); simp), fun _ => h.up⟩
  · rw [if_neg c1]
    exact ⟨fun h => absurd h c1, fun _ => h.up⟩
theorem tail1_last {l : List Int} {x : Int} (h : l.getLast? = some x) : tail1 l = [x] := by
  have hne : l ≠ [] := by rintro rfl; cases h
  obtain ⟨m, y, rfl⟩ : ∃ m y, l = m ++ [y] := ⟨l.dropLast, l.getLast hne, (List.dropLast_concat_getLast hne).symm⟩
  rw [List.getLast?_append] at h
  have : y = x := by simpa using h
  subst this
  unfold tail1
  rw [List.length_append]
  simp
theorem inv_flush {i : Nat} {D : DS} {may : Nat → List Int} (h : Inv i D may) :
    ((flushD D).1 = 0 → Inv (i + 1) (flushD D).2 (fun k => tail1 (may k))) ∧ ((flushD D).1 ≠ 0 → Inv (i + 1) (flushD D).2 may) := by
  unfold flushD
  by_cases c1 : D.down = true
  · rw [if_pos c1]
    exact ⟨fun h => absurd h (by show ¬ ((_ : Int) = 0); simp), fun _ => h.up⟩
  · rw [if_neg c1]
    by_cases c3 : (stepD D).1 = true
    · rw [if_pos c3]
      refine ⟨fun _ => ?_, fun h => absurd rfl h⟩
      obtain ⟨a1, a2, a3, a4⟩ := stepD_c D
      obtain ⟨g1, g2, g3, g4, g5, g6, g7, g8⟩ := inv_step h
      have key : ∀ k : Nat, k < 3 → tail1 (may k) = [hd (readC k D.c (D.f k))] := fun k hk => tail1_last (h.last k hk)
      have fk : ∀ k : Nat, (settleD (fun _ => true) (stepD D).2).f k = readC k D.c (D.f k) := fun k => by
        show settleF (fun _ => true) 0 (stepD D).2.c (stepD D).2.f k = _
        rw [settleF_all, a1, a3]
      refine ⟨g1, g2, g3, ?_, fun k hk => ?_, fun k hk => ?_, fun k hk => ?_, fun p hp => by cases hp⟩
      · show (stepD D).2.u + (stepD D).2.c.length + 0 ≤ _
        omega
      · show (tail1 (may k)).length ≤ _
        rw [key k hk]
        simp
      · show (tail1 (may k)).getLast? = some (hd (readC k [] ((settleD (fun _ => true) (stepD D).2).f k)))
        rw [key k hk, fk]
        rfl
      · show hd ((settleD (fun _ => true) (stepD D).2).f k) ∈ tail1 (may k)
        rw [key k hk, fk]
        simp
    · rw [if_neg c3]
      exact ⟨fun h => absurd h (by show ¬ ((_ : Int) = 0); simp), fun _ => inv_step h⟩
theorem inv_mend {i : Nat} {D : DS} {may : Nat → List Int} (h : Inv i D may) (l : List Bool) {k : Nat} (hk : k < 3) :
    lookD (mendD l D) k = 0 ∧ hd (readC k (mendD l D).c ((mendD l D).f k)) ∈ may k := by
  constructor
  · show (if false = true then (230 : Int) else if (k : Int) < 0 then 2 else if D.n ≤ k then 2 else 0) = 0
    rw [h.n, if_neg (by decide), if_neg (by omega), if_neg (by omega)]
  · show hd (settleF (keepB l) 0 D.c D.f k) ∈ may k
    rcases settleF_mem (keepB l) k D.c 0 D.f with e | ⟨p, hp, e1, e2⟩
    · rw [e]; exact h.base k hk
    · rw [e2]; exact h.pend p hp k hk e1
end Go.Proofs.Ytppgbfkhiofjiaa.X
