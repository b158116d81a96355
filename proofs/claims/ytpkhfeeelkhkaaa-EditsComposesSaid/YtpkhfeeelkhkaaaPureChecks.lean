/-
  EditsChecks, the plain law: which lists are edit scripts, what they keep, their inverse and their cost are told by program and reference alike.
-/
import Derived.Test.YtpkhfeeelkhkaaaEPlain
namespace Go.Proofs.Ytpkhfeeelkhkaaa.X
open Go.RowKit Go.Proofs.YtpkhfeeelkhkaaaW.PrintWords Go.Proofs.YtpkhfeeelkhkaaaW.PrintLast Go.Proofs.YtpkhfeeelkhkaaaW.PrintMore
set_option linter.unusedVariables false

theorem refKeep_f (l : List S54) (n m : Int) (hn : n ≤ 2000) (hm : m ≤ 2000) (hl : l.length ≤ 4398046511104) : ∃ K, ∀ k, K ≤ k → redlineref05_Keep.f k l n m = some (if chk l n m = 0 then (keepOf (pieces l n 0 0), 0) else ([], 50)) := by
  have h1 : ∀ k, 2 * l.length + 2 ≤ k → redlineref05_Check.f k l n m = some (chk l n m) := fun k hk => fuel_le (fun k => redlineref05_Check.mono _ _ _ k) hk (rcheck_f l (by omega) n m (by omega) (by omega))
  by_cases hc : chk l n m = 0
  · have R := right_of_chk n m l true 0 0 (by omega) (by omega) hc
    have h0 : 0 ≤ n := R.le_n
    obtain ⟨d, hd⟩ : ∃ d : Nat, n - 0 + ((l.length : Int) - ((0 : Nat) : Int)) = d := ⟨(n + l.length).toNat, by omega⟩
    have h2 := (refKeep_loop l n m hn hm hl d [] 0 0 0 (keepOf (pieces l n 0 0)) (by omega) (by omega) h0 (by omega) (by omega) rfl hd (.inl ⟨hc, rfl⟩)).1
    refine ⟨2 * l.length + 2 + (2 * d + 1), fun k hk => ?_⟩
    unfold redlineref05_Keep.f
    rw [h1 k (by omega), Option.bind_some, if_pos hc, if_pos hc]
    exact h2 k (by omega)
  · refine ⟨2 * l.length + 2, fun k hk => ?_⟩
    unfold redlineref05_Keep.f
    rw [h1 k hk, Option.bind_some, if_neg hc, if_neg hc]

theorem sameInts_run (l : List Int) (h1 : l.length ≤ 17592186044416) (d : Nat) : ∀ i : Nat, i + d = l.length → redlineref04_SameInts.l0 (d + 1) l l i = some true := by
  induction d with
  | zero =>
    intro i hi
    rw [redlineref04_SameInts.l0, if_neg (by omega)]
  | succ d ih =>
    intro i hi
    rw [redlineref04_SameInts.l0, if_pos (by omega), if_pos (by omega), if_pos (by omega), if_pos rfl, w64 (by omega) (by omega), show (i : Int) + 1 = ((i + 1 : Nat) : Int) by omega]
    exact ih (i + 1) (by omega)
theorem sameInts_refl (l : List Int) (h1 : l.length ≤ 17592186044416) (k : Nat) (hk : l.length + 1 ≤ k) : redlineref04_SameInts.f k l l = some true := by
  unfold redlineref04_SameInts.f
  rw [if_pos rfl]
  exact fuel_le (fun k => redlineref04_SameInts.mono_l k _ _ _) hk (sameInts_run l h1 l.length 0 (by omega))
theorem sameCh_run (l : List S54) (h1 : l.length ≤ 4398046511104) (d : Nat) : ∀ i : Nat, i + d = l.length → redlineref05_Same.l0 (d + 1) l l i = some true := by
  induction d with
  | zero =>
    intro i hi
    rw [redlineref05_Same.l0, if_neg (by omega)]
  | succ d ih =>
    intro i hi
    rw [redlineref05_Same.l0, if_pos (by omega), if_pos (by omega), if_pos (by omega), if_neg (by simp), w64 (by omega) (by omega), show (i : Int) + 1 = ((i + 1 : Nat) : Int) by omega]
    exact ih (i + 1) (by omega)
theorem sameCh_refl (l : List S54) (h1 : l.length ≤ 4398046511104) (k : Nat) (hk : l.length + 1 ≤ k) : redlineref05_Same.f k l l = some true := by
  unfold redlineref05_Same.f
  rw [if_pos rfl]
  exact fuel_le (fun k => redlineref05_Same.mono_l k _ _ _) hk (sameCh_run l h1 l.length 0 (by omega))

theorem refInvert_run (l : List S54) (h1 : l.length ≤ 4398046511104) (d : Nat) : ∀ (i : Nat), i + d = l.length → redlineref05_Invert.l0 (d + 1) l ((l.take i).map inv1) i = some (l.map inv1) := by
  induction d with
  | zero =>
    intro i hi
    rw [redlineref05_Invert.l0, if_neg (by omega), List.take_of_length_le (by omega)]
  | succ d ih =>
    intro i hi
    have hil : i < l.length := by omega
    have e : rd_T54 l (i : Int) = l[i] := by
      unfold rd_T54
      rw [Int.toNat_natCast, List.getD_eq_getElem?_getD, List.getElem?_eq_getElem hil]
      rfl
    have e2 : (l.take i).map inv1 ++ [inv1 l[i]] = (l.take (i + 1)).map inv1 := by
      rw [List.take_add_one, List.getElem?_eq_getElem hil, List.map_append]
      rfl
    have e3 := ih (i + 1) (by omega)
    rw [← e2] at e3
    rw [redlineref05_Invert.l0, if_pos (by omega), if_pos (by omega), if_pos (by rw [List.length_map, List.length_take]; omega), w64 (by omega) (by omega), show (i : Int) + 1 = ((i + 1 : Nat) : Int) by omega, e]
    exact e3
theorem refInvert_f (l : List S54) (h1 : l.length ≤ 4398046511104) (k : Nat) (hk : l.length + 1 ≤ k) : redlineref05_Invert.f k l = some (l.map inv1) :=
  fuel_le (fun k => redlineref05_Invert.mono_l k _ _ _) hk (refInvert_run l h1 l.length 0 (by omega))

/-- The reference's step. -/
def stepM (x k : Int) : Int := mn (x + mn (mx 0 k) 2147483647) 2147483647
theorem stepM_range (x k : Int) (h0 : 0 ≤ x) : 0 ≤ stepM x k ∧ stepM x k ≤ 2147483647 := by
  unfold stepM mn mx
  repeat' split
  all_goals omega
theorem stepM_max (k : Int) : stepM 2147483647 k = 2147483647 := by
  unfold stepM mn mx
  repeat' split
  all_goals omega
theorem stepM_none {x k : Int} (h : costS x k = none) (h0 : 0 ≤ x) (h1 : x ≤ 2147483647) : stepM x k = 2147483647 := by
  unfold costS at h
  by_cases h2 : 2147483647 - x < k
  · unfold stepM mn mx
    repeat' split
    all_goals omega
  · rw [if_neg h2] at h
    cases h
theorem stepM_some {x k n : Int} (h : costS x k = some n) (h0 : 0 ≤ x) (h1 : x ≤ 2147483647) : stepM x k = n := by
  unfold costS at h
  by_cases h2 : 2147483647 - x < k
  · rw [if_pos h2] at h
    cases h
  · rw [if_neg h2] at h
    injection h with h
    subst h
    unfold stepM mn mx
    repeat' split
    all_goals omega
theorem stepM_wrap (x k : Int) (h0 : 0 ≤ x) (h1 : x ≤ 2147483647) : mn (wrap64 (x + (mn (mx 0 k) 2147483647))) 2147483647 = stepM x k := by
  have : wrap64 (x + (mn (mx 0 k) 2147483647)) = x + (mn (mx 0 k) 2147483647) := by
    refine w64 ?_ ?_ <;> (unfold mn mx; repeat' split) <;> omega
  rw [this]
  rfl
theorem refCost_run (l : List S54) (hl : l.length ≤ 4398046511104) (d : Nat) : ∀ (i : Nat) (x : Int), i + d = l.length → 0 ≤ x → x ≤ 2147483647 →
    redlineref05_Cost.l0 (d + 1) l x i = some ((l.drop i).foldl (fun x c => stepM (stepM x c.f1) c.f3) x) := by
  induction d with
  | zero =>
    intro i x hi h0 h1
    rw [redlineref05_Cost.l0, if_neg (by omega), List.drop_of_length_le (by omega)]
    rfl
  | succ d ih =>
    intro i x hi h0 h1
    have hdr := drop_T54 l (i : Int) (by omega) (by omega)
    rw [show ((i : Int) + 1).toNat = i + 1 by omega, Int.toNat_natCast] at hdr
    have s1 := stepM_range x (rd_T54 l (i : Int)).f1 h0
    have s2 := stepM_range (stepM x (rd_T54 l (i : Int)).f1) (rd_T54 l (i : Int)).f3 s1.1
    rw [redlineref05_Cost.l0, if_pos (by omega), if_pos (by omega), stepM_wrap x _ h0 h1, stepM_wrap _ _ s1.1 s1.2, w64 (by omega) (by omega), show (i : Int) + 1 = ((i + 1 : Nat) : Int) by omega, ih (i + 1) _ (by omega) s2.1 s2.2, hdr]
    rfl
theorem fold_max (l : List S54) : l.foldl (fun x c => stepM (stepM x c.f1) c.f3) 2147483647 = 2147483647 := by
  induction l with
  | nil => rfl
  | cons c l ih => rw [List.foldl_cons, stepM_max, stepM_max, ih]
theorem fold_cost : ∀ (l : List S54) (x : Int), 0 ≤ x → x ≤ 2147483647 → l.foldl (fun x c => stepM (stepM x c.f1) c.f3) x = costG l x
  | [], x, _, _ => rfl
  | c :: l, x, h0, h1 => by
    rw [List.foldl_cons, costG]
    cases h : costS x c.f1 with
    | none =>
      dsimp only
      rw [stepM_none h h0 h1, stepM_max, fold_max]
    | some n1 =>
      dsimp only
      have r1 := costS_range h h0 h1
      rw [stepM_some h h0 h1]
      cases h2 : costS n1 c.f3 with
      | none =>
        dsimp only
        rw [stepM_none h2 r1.1 r1.2, fold_max]
      | some n2 =>
        dsimp only
        have r2 := costS_range h2 r1.1 r1.2
        rw [stepM_some h2 r1.1 r1.2]
        exact fold_cost l n2 r2.1 r2.2
theorem refCost_f (l : List S54) (hl : l.length ≤ 4398046511104) (k : Nat) (hk : l.length + 1 ≤ k) : redlineref05_Cost.f k l = some (costG l 0) := by
  have := refCost_run l hl l.length 0 0 (by omega) (by omega) (by omega)
  rw [List.drop_zero, fold_cost l 0 (by omega) (by omega)] at this
  exact fuel_le (fun k => redlineref05_Cost.mono_l k _ _ _) hk this

theorem editsChecks_pure (l : List S54) (n m : Int) (hl : l.length < 4398046511104) (hn : n ≤ 9223372036854775807) (hm : m ≤ 9223372036854775807) : ∃ k, redlinelaw05_EditsChecks.f k l n m = some true := by
  have c1 : ∀ k, 2 * l.length + 2 ≤ k → redlineref05_Check.f k l n m = some (chk l n m) := fun k hk => fuel_le (fun k => redlineref05_Check.mono _ _ _ k) hk (rcheck_f l (by omega) n m hn hm)
  have c2 : ∀ k, 2 * l.length + 2 ≤ k → edits_Check.f k l n m = some (chk l n m) := fun k hk => fuel_le (fun k => edits_Check.mono _ _ _ k) (by omega) (check_f l (by omega) n m hn hm)
  have big : ∀ k, 2 * l.length + 2 ≤ k → redlinelaw05_EditsChecks.j0 (k + 1) l n m true = some true := by
    intro k hk
    rw [redlinelaw05_EditsChecks.j0, if_pos rfl, c1 k hk, c2 k hk]
    simp
  unfold redlinelaw05_EditsChecks.f redlinelaw05_small.f
  simp only [Option.bind_some, decide_eq_true_eq]
  by_cases h1 : n ≤ 2000
  rotate_left
  · exact ⟨2 * l.length + 2 + 1, by rw [if_neg h1]; exact big _ (by omega)⟩
  by_cases h2 : m ≤ 2000
  rotate_left
  · refine ⟨2 * l.length + 2 + 1, ?_⟩
    rw [if_pos h1]
    have : (!decide (m ≤ 2000)) = true := by simp [h2]
    rw [this]
    exact big _ (by omega)
  obtain ⟨K, hK⟩ := refKeep_f l n m h1 h2 (by omega)
  obtain ⟨p, hp⟩ : ∃ p, (if chk l n m = 0 then keepOf (pieces l n 0 0) else []) = p := ⟨_, rfl⟩
  have e1 : edits_Keep.f l n m = some (p, chk l n m) := by
    unfold edits_Keep.f
    rw [if_pos ⟨by omega, hn, hm⟩, ← hp]
    by_cases hc : chk l n m = 0
    · rw [if_pos hc, if_pos (by omega), if_pos hc, hc]
    · rw [if_neg hc, if_neg hc]
  have e2 : ∀ k, K ≤ k → redlineref05_Keep.f k l n m = some (p, chk l n m) := by
    intro k hk
    rw [hK k hk, ← hp]
    by_cases hc : chk l n m = 0
    · rw [if_pos hc, if_pos hc, hc]
    · rcases chk_or l n m with h | h
      · exact absurd h hc
      · rw [if_neg hc, if_neg hc, h]
  have hpl : p.length ≤ 2000 := by
    rw [← hp]
    by_cases hc : chk l n m = 0
    · rw [if_pos hc]
      have R := right_of_chk n m l true 0 0 (by omega) (by omega) hc
      have h3 := keepOf_length R.ok
      rw [R.lenA] at h3
      omega
    · rw [if_neg hc]
      simp
  have f1 : edits_Invert.f l = some (l.map inv1) := by
    unfold edits_Invert.f
    rw [if_pos (by omega)]
  refine ⟨(K + 2 * l.length + 2 + p.length + 1 + l.length + 1) + 1, ?_⟩
  rw [if_pos h1]
  have : (!decide (m ≤ 2000)) = false := by simp [h2]
  rw [this, redlinelaw05_EditsChecks.j0, if_neg (by simp)]
  simp only [Option.bind_some, List.nil_append, List.length_nil]
  rw [if_pos (by omega), e1, e2 _ (by omega), c1 _ (by omega), c2 _ (by omega)]
  simp only [Option.bind_some]
  rw [if_pos trivial, if_pos trivial, sameInts_refl p (by omega) _ (by omega), Option.bind_some, if_pos rfl, f1, refInvert_f l (by omega) _ (by omega)]
  simp only [Option.bind_some]
  rw [sameCh_refl _ (by rw [List.length_map]; omega) _ (by rw [List.length_map]; omega), Option.bind_some, if_pos rfl, refCost_f l (by omega) _ (by omega)]
  unfold edits_Cost.f
  simp only [Option.bind_some]
  rw [if_pos trivial, sameCh_refl l (by omega) _ (by omega)]
  rfl
end Go.Proofs.Ytpkhfeeelkhkaaa.X
