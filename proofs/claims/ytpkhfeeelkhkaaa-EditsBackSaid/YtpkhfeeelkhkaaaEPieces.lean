/-
  The pieces of a right script: where they lie, and how long they are together.
-/
import Derived.Test.YtpkhfeeelkhkaaaEChk
namespace Go.Proofs.Ytpkhfeeelkhkaaa.X
open Go.RowKit Go.Proofs.YtpkhfeeelkhkaaaW.PrintWords Go.Proofs.YtpkhfeeelkhkaaaW.PrintLast Go.Proofs.YtpkhfeeelkhkaaaW.PrintMore
set_option linter.unusedVariables false
set_option linter.unusedSimpArgs false

/-- A piece lies in both texts. -/
def OkP (n m : Int) (p : S54 × Bool) : Prop :=
  0 ≤ p.1.f0 ∧ 0 ≤ p.1.f1 ∧ 0 ≤ p.1.f2 ∧ 0 ≤ p.1.f3 ∧ p.1.f0 + p.1.f1 ≤ n ∧ p.1.f2 + p.1.f3 ≤ m ∧ (p.2 = true → p.1.f3 = p.1.f1)
theorem chkG_nil {fst : Bool} {n m a b : Int} (h : chkG [] fst n m a b = 0) : a ≤ n ∧ b ≤ m ∧ n - a = m - b := by
  unfold chkG at h
  by_cases h1 : n < a
  · rw [if_pos h1] at h; omega
  · rw [if_neg h1] at h
    by_cases h2 : m < b
    · rw [if_pos h2] at h; omega
    · rw [if_neg h2] at h
      by_cases h3 : n - a = m - b
      · omega
      · rw [if_neg h3] at h; omega
theorem chkG_cons {c : S54} {l : List S54} {fst : Bool} {n m a b : Int} (h : chkG (c :: l) fst n m a b = 0) :
    Chg c ∧ ¬ (c.f1 = 0 ∧ c.f3 = 0) ∧ a ≤ c.f0 ∧ (fst = false → a < c.f0) ∧ c.f0 - a = c.f2 - b ∧ chkG l false n m (c.f0 + c.f1) (c.f2 + c.f3) = 0 := by
  unfold chkG at h
  by_cases h1 : Chg c
  rotate_left
  · rw [if_pos h1] at h; omega
  rw [if_neg (not_not_intro h1)] at h
  by_cases h2 : c.f1 = 0 ∧ c.f3 = 0
  · rw [if_pos h2] at h; omega
  rw [if_neg h2] at h
  by_cases h3 : c.f0 < a
  · rw [if_pos h3] at h; omega
  rw [if_neg h3] at h
  by_cases h4 : fst = false ∧ c.f0 = a
  · rw [if_pos h4] at h; omega
  rw [if_neg h4] at h
  by_cases h5 : c.f0 - a = c.f2 - b
  rotate_left
  · rw [if_neg h5] at h; omega
  rw [if_pos h5] at h
  refine ⟨h1, h2, by omega, fun hf => ?_, h5, h⟩
  have : ¬ c.f0 = a := fun e => h4 ⟨hf, e⟩
  omega

def lenA (ps : List (S54 × Bool)) : Int := (ps.map fun p => p.1.f1).sum
def lenB (ps : List (S54 × Bool)) : Int := (ps.map fun p => p.1.f3).sum
theorem lenA_append (xs ys : List (S54 × Bool)) : lenA (xs ++ ys) = lenA xs + lenA ys := by simp [lenA]
theorem lenB_append (xs ys : List (S54 × Bool)) : lenB (xs ++ ys) = lenB xs + lenB ys := by simp [lenB]
theorem lenA_cons (p : S54 × Bool) (ys : List (S54 × Bool)) : lenA (p :: ys) = p.1.f1 + lenA ys := by simp [lenA]
theorem lenB_cons (p : S54 × Bool) (ys : List (S54 × Bool)) : lenB (p :: ys) = p.1.f3 + lenB ys := by simp [lenB]

/-- The pieces of a right script. -/
structure Right (l : List S54) (n m a b : Int) : Prop where
  chg : ∀ c ∈ l, Chg c
  le_n : a ≤ n
  le_m : b ≤ m
  ok : ∀ p ∈ pieces l n a b, OkP n m p
  lenA : lenA (pieces l n a b) = n - a
  lenB : lenB (pieces l n a b) = m - b

theorem right_of_chk (n m : Int) : ∀ (l : List S54) (fst : Bool) (a b : Int), 0 ≤ a → 0 ≤ b → chkG l fst n m a b = 0 → Right l n m a b
  | [], fst, a, b, ha, hb, h => by
    obtain ⟨h1, h2, h3⟩ := chkG_nil h
    refine ⟨(fun c hc => by cases hc), h1, h2, ?_, ?_, ?_⟩
    · intro p hp
      unfold pieces at hp
      split at hp
      · simp only [List.mem_singleton] at hp
        subst hp
        exact ⟨by omega, by simp only; omega, by omega, by simp only; omega, by simp only; omega, by simp only; omega, fun _ => rfl⟩
      · cases hp
    · unfold pieces
      split
      · rw [lenA_cons]; simp [X.lenA]
      · simp [X.lenA]; omega
    · unfold pieces
      split
      · rw [lenB_cons]; simp [X.lenB]; omega
      · simp [X.lenB]; omega
  | c :: l, fst, a, b, ha, hb, h => by
    obtain ⟨h1, h2, h3, h4, h5, h6⟩ := chkG_cons h
    obtain ⟨⟨x0, x1⟩, ⟨y0, y1⟩, ⟨z0, z1⟩, ⟨t0, t1⟩⟩ := h1
    have R := right_of_chk n m l false (c.f0 + c.f1) (c.f2 + c.f3) (by omega) (by omega) h6
    have r1 := R.le_n
    have r2 := R.le_m
    refine ⟨fun c' hc => ?_, by omega, by omega, ?_, ?_, ?_⟩
    · rcases List.mem_cons.1 hc with rfl | hc
      · exact ⟨⟨x0, x1⟩, ⟨y0, y1⟩, ⟨z0, z1⟩, ⟨t0, t1⟩⟩
      · exact R.chg _ hc
    · intro p hp
      unfold pieces at hp
      rcases List.mem_append.1 hp with hp | hp
      · split at hp
        · simp only [List.mem_singleton] at hp
          subst hp
          exact ⟨by omega, by simp only; omega, by omega, by simp only; omega, by simp only; omega, by simp only; omega, fun _ => rfl⟩
        · cases hp
      · rcases List.mem_cons.1 hp with rfl | hp
        · exact ⟨x0, y0, z0, t0, r1, r2, fun e => by cases e⟩
        · exact R.ok _ hp
    · unfold pieces
      rw [lenA_append, lenA_cons, R.lenA]
      split
      · rw [lenA_cons]; simp [X.lenA]; omega
      · simp [X.lenA]; omega
    · unfold pieces
      rw [lenB_append, lenB_cons, R.lenB]
      split
      · rw [lenB_cons]; simp [X.lenB]; omega
      · simp [X.lenB]; omega

theorem lenA_nonneg {n m : Int} : ∀ {ps : List (S54 × Bool)}, (∀ p ∈ ps, OkP n m p) → 0 ≤ lenA ps
  | [], _ => by simp [lenA]
  | p :: ps, h => by
    rw [lenA_cons]
    have h1 := (h p List.mem_cons_self).2.1
    have h2 := lenA_nonneg (fun q hq => h q (List.mem_cons_of_mem _ hq))
    omega
theorem lenB_nonneg {n m : Int} : ∀ {ps : List (S54 × Bool)}, (∀ p ∈ ps, OkP n m p) → 0 ≤ lenB ps
  | [], _ => by simp [lenB]
  | p :: ps, h => by
    rw [lenB_cons]
    have h1 := (h p List.mem_cons_self).2.2.2.1
    have h2 := lenB_nonneg (fun q hq => h q (List.mem_cons_of_mem _ hq))
    omega
theorem lenA_take {n m : Int} {ps : List (S54 × Bool)} (h : ∀ p ∈ ps, OkP n m p) (k : Nat) : lenA (ps.take k) ≤ lenA ps := by
  have h1 : lenA ps = lenA (ps.take k) + lenA (ps.drop k) := by rw [← lenA_append, List.take_append_drop]
  have h2 := lenA_nonneg (fun q hq => h q (List.mem_of_mem_drop hq) : ∀ q ∈ ps.drop k, OkP n m q)
  omega
theorem lenB_take {n m : Int} {ps : List (S54 × Bool)} (h : ∀ p ∈ ps, OkP n m p) (k : Nat) : lenB (ps.take k) ≤ lenB ps := by
  have h1 : lenB ps = lenB (ps.take k) + lenB (ps.drop k) := by rw [← lenB_append, List.take_append_drop]
  have h2 := lenB_nonneg (fun q hq => h q (List.mem_of_mem_drop hq) : ∀ q ∈ ps.drop k, OkP n m q)
  omega

/-- What a piece keeps. -/
def keep1 (p : S54 × Bool) : List Int := (List.range p.1.f1.toNat).map fun (i : Nat) => if p.2 = true then p.1.f2 + (i : Int) else -1
def keepOf (ps : List (S54 × Bool)) : List Int := ps.flatMap keep1
theorem keep1_length (p : S54 × Bool) : (keep1 p).length = p.1.f1.toNat := by simp [keep1]
theorem keepOf_cons (p : S54 × Bool) (ps : List (S54 × Bool)) : keepOf (p :: ps) = keep1 p ++ keepOf ps := rfl
theorem keepOf_append (xs ys : List (S54 × Bool)) : keepOf (xs ++ ys) = keepOf xs ++ keepOf ys := List.flatMap_append
theorem keepOf_length {n m : Int} : ∀ {ps : List (S54 × Bool)}, (∀ p ∈ ps, OkP n m p) → ((keepOf ps).length : Int) = lenA ps
  | [], _ => by simp [keepOf, lenA]
  | p :: ps, h => by
    rw [keepOf_cons, lenA_cons, List.length_append, keep1_length]
    have h1 := (h p List.mem_cons_self).2.1
    have h2 := keepOf_length (fun q hq => h q (List.mem_cons_of_mem _ hq))
    omega
theorem take_succ {α : Type} {xs : List α} {k : Nat} {x : α} (h : xs[k]? = some x) : xs.take (k + 1) = xs.take k ++ [x] := by
  obtain ⟨hk, he⟩ := List.getElem?_eq_some_iff.1 h
  rw [List.take_succ_eq_append_getElem hk, he]
theorem keepOf_succ {ps : List (S54 × Bool)} {k : Nat} {p : S54 × Bool} (h : ps[k]? = some p) : keepOf (ps.take (k + 1)) = keepOf (ps.take k) ++ keep1 p := by
  rw [take_succ h, keepOf_append]
  simp [keepOf]
theorem keepOf_take_le {l : List S54} {n m : Int} (R : Right l n m 0 0) (k : Nat) : ((keepOf ((pieces l n 0 0).take k)).length : Int) ≤ n := by
  rw [keepOf_length (n := n) (m := m) (fun p hp => R.ok p (List.mem_of_mem_take hp))]
  have := lenA_take R.ok k
  have := R.lenA
  omega
end Go.Proofs.Ytpkhfeeelkhkaaa.X
