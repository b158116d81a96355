/-
  EditsChain, the plain law: putting scripts together is associative, and one that keeps all adds nothing.
-/
import Derived.Test.YtpkhfeeelkhkaaaX31
import Derived.Test.YtpkhfeeelkhkaaaELaws
namespace Go.Proofs.Ytpkhfeeelkhkaaa.Y
open Go.RowKit Go.Proofs.Ytpkhfeeelkhkaaa.X Go.Proofs.YtpkhfeeelkhkaaaW.PrintWords Go.Proofs.YtpkhfeeelkhkaaaW.PrintLast Go.Proofs.YtpkhfeeelkhkaaaW.PrintMore
set_option linter.unusedVariables false

theorem sameInts_run (l : List Int) (h1 : l.length ≤ 17592186044416) (d : Nat) : ∀ i : Nat, i + d = l.length → redlineref04_SameInts.l0 (d + 1) l l i = some true := by
  induction d with
  | zero =>
    intro i hi
    rw [redlineref04_SameInts.l0, if_neg (by omega)]
  | succ d ih =>
    intro i hi
    rw [redlineref04_SameInts.l0, if_pos (by omega), if_pos (by omega), if_pos (by omega), if_pos rfl, w64 (by omega) (by omega), show (i : Int) + 1 = ((i + 1 : Nat) : Int) by omega]
    exact ih (i + 1) (by omega)
theorem sameInts_refl (l : List Int) (h1 : l.length ≤ 17592186044416) (k : Nat) (hk : l.length + 1 ≤ k) : redlineref04_SameInts.f k l l = some true := by
  unfold redlineref04_SameInts.f
  rw [if_pos rfl]
  exact fuel_le (fun k => redlineref04_SameInts.mono_l k _ _ _) hk (sameInts_run l h1 l.length 0 (by omega))
theorem sameCh_run (l : List S54) (h1 : l.length ≤ 4398046511104) (d : Nat) : ∀ i : Nat, i + d = l.length → redlineref05_Same.l0 (d + 1) l l i = some true := by
  induction d with
  | zero =>
    intro i hi
    rw [redlineref05_Same.l0, if_neg (by omega)]
  | succ d ih =>
    intro i hi
    rw [redlineref05_Same.l0, if_pos (by omega), if_pos (by omega), if_pos (by omega), if_neg (by simp), w64 (by omega) (by omega), show (i : Int) + 1 = ((i + 1 : Nat) : Int) by omega]
    exact ih (i + 1) (by omega)
theorem sameCh_refl (l : List S54) (h1 : l.length ≤ 4398046511104) (k : Nat) (hk : l.length + 1 ≤ k) : redlineref05_Same.f k l l = some true := by
  unfold redlineref05_Same.f
  rw [if_pos rfl]
  exact fuel_le (fun k => redlineref05_Same.mono_l k _ _ _) hk (sameCh_run l h1 l.length 0 (by omega))

/-- The given example. -/
theorem works_run (k : Nat) (hk : 4 ≤ k) : redlinelaw05_works.f k = some true := by
  have hok : okM [0, -1, 2] 0 4 = true := rfl
  have h1 := make_ok (l := [0, -1, 2]) (m := 4) (by simp) (by omega) (by omega) hok
  have h2 := keep_script (l := [0, -1, 2]) (m := 4) (by simp) (by omega) (by omega) hok
  have h3 : scriptOf [0, -1, 2] 4 = [⟨1, 1, 1, 1⟩, ⟨3, 0, 3, 1⟩] := rfl
  have h4 : edits_Cost.f [⟨1, 1, 1, 1⟩, ⟨3, 0, 3, 1⟩] = some 3 := rfl
  rw [h3] at h1 h2
  have h2' : edits_Keep.f [⟨1, 1, 1, 1⟩, ⟨3, 0, 3, 1⟩] 3 4 = some ([0, -1, 2], 0) := h2
  unfold redlinelaw05_works.f
  rw [h1, Option.bind_some, h2', Option.bind_some]
  dsimp only
  rw [if_pos rfl, sameCh_refl _ (by simp) k (by simp only [List.length_cons, List.length_nil]; omega), Option.bind_some, if_pos rfl, if_pos rfl, sameInts_refl _ (by simp) k (by simp only [List.length_cons, List.length_nil]; omega), Option.bind_some, if_pos rfl, h4]
  rfl

/-- What Kept gives is a rising list, as long as what it was made of. -/
theorem kept_run (l : List Int) (m : Int) (hl : l.length ≤ 1000) (hm : m ≤ 1000) (d : Nat) : ∀ (i : Nat) (next : Int) (acc : List Int), i + d = l.length → 0 ≤ next → next ≤ 1001 → acc.length ≤ i →
    ∃ res, redlinelaw05_Kept.l0 (d + 1) l m acc next i = some (acc ++ res) ∧ okM res next m = true ∧ res.length = d := by
  induction d with
  | zero =>
    intro i next acc hi h0 h1 hacc
    exact ⟨[], by rw [redlinelaw05_Kept.l0, if_neg (by omega), List.append_nil], rfl, rfl⟩
  | succ d ih =>
    intro i next acc hi h0 h1 hacc
    have p1 : (i : Int) < (l.length : Int) := by omega
    have p2 : (0 : Int) ≤ (i : Int) := by omega
    have p3 : acc.length < 17592186044416 := by omega
    have hw := wrap_succ i (by omega)
    rw [redlinelaw05_Kept.l0, if_pos p1, if_pos p2, hw]
    generalize (wrap64 ((wrap64 (next + (wrap64 (Int.tmod (IntKind.u64.wrap (rd l (i : Int))) 4)))) - 1)) = v
    have bad : ∃ res, redlinelaw05_Kept.l0 (d + 1) l m (acc ++ [(-1)]) next ((i + 1 : Nat) : Int) = some (acc ++ res) ∧ okM res next m = true ∧ res.length = d + 1 := by
      obtain ⟨res, e1, e2, e3⟩ := ih (i + 1) next (acc ++ [-1]) (by omega) h0 h1 (by rw [List.length_append]; simp; omega)
      refine ⟨-1 :: res, by rw [e1]; simp, ?_, by simp [e3]⟩
      rw [okM, if_pos rfl]
      exact e2
    by_cases h2 : v < next
    · rw [if_pos h2, if_pos p3]
      exact bad
    · rw [if_neg h2]
      by_cases h3 : v ≥ m
      · rw [if_pos h3, if_pos p3]
        exact bad
      · have hw2 : Aside0 (wrap64 (v + 1) = v + 1) := ⟨w64 (by omega) (by omega)⟩
        rw [if_neg h3, if_pos p3, hw2.out]
        obtain ⟨res, e1, e2, e3⟩ := ih (i + 1) (v + 1) (acc ++ [v]) (by omega) (by omega) (by omega) (by rw [List.length_append]; simp; omega)
        refine ⟨v :: res, by rw [e1]; simp, ?_, by simp [e3]⟩
        have q1 : decide (next ≤ v) = true := by simp; omega
        have q2 : decide (v < m) = true := by simp; omega
        rw [okM, if_neg (by omega), q1, q2, e2]
        rfl
theorem kept_f (l : List Int) (m : Int) (hl : l.length ≤ 1000) (hm : m ≤ 1000) : ∃ res, okM res 0 m = true ∧ res.length = l.length ∧ ∀ k, l.length + 1 ≤ k → redlinelaw05_Kept.f k l m = some res := by
  obtain ⟨res, e1, e2, e3⟩ := kept_run l m hl hm l.length 0 0 [] (by omega) (by omega) (by omega) (by simp)
  exact ⟨res, e2, e3, fun k hk => fuel_le (fun k => redlinelaw05_Kept.mono_l k _ _ _ _ _) hk e1⟩

theorem modM (x : Int) : 0 ≤ wrap64 (Int.tmod (IntKind.u64.wrap x) 100) ∧ wrap64 (Int.tmod (IntKind.u64.wrap x) 100) ≤ 100 := by
  have h1 : 0 ≤ IntKind.u64.wrap x := by
    rw [IntKind.wrap_u64]
    omega
  have h2 := Int.tmod_nonneg (100 : Int) h1
  have h3 := Int.tmod_lt_of_pos (IntKind.u64.wrap x) (b := 100) (by omega)
  generalize Int.tmod (IntKind.u64.wrap x) 100 = y at h2 h3 ⊢
  rw [w64 (by omega) (by omega)]
  omega

theorem script_length (l : List Int) (m : Int) : (scriptOf l m).length ≤ l.length + 1 := restM_length l 0 0 0 m

theorem editsChain_pure (p q s : List Int) (a3 : Int) : ∃ k, redlinelaw05_EditsChain.f k p q s a3 = some true := by
  have big : ∀ k, redlinelaw05_EditsChain.j0 (k + 1) p q s a3 true = some true := by
    intro k
    rw [redlinelaw05_EditsChain.j0, if_pos rfl]
  have W : ∀ k, 4 ≤ k → redlinelaw05_works.f k = some true := works_run
  unfold redlinelaw05_EditsChain.f
  by_cases h1 : (p.length : Int) > 100
  · exact ⟨4 + 1, by rw [W _ (by omega), Option.bind_some, if_pos rfl, if_pos h1]; exact big 4⟩
  by_cases h2 : (q.length : Int) > 100
  · exact ⟨4 + 1, by rw [W _ (by omega), Option.bind_some, if_pos rfl, if_neg h1, if_pos h2]; exact big 4⟩
  by_cases h3 : (s.length : Int) > 100
  · refine ⟨4 + 1, ?_⟩
    have e : decide ((s.length : Int) > 100) = true := by simpa using h3
    rw [W _ (by omega), Option.bind_some, if_pos rfl, if_neg h1, if_neg h2, e]
    exact big 4
  obtain ⟨m0, m1⟩ := modM a3
  obtain ⟨A, okA, lA, kA⟩ := kept_f p q.length (by omega) (by omega)
  obtain ⟨B, okB, lB, kB⟩ := kept_f q s.length (by omega) (by omega)
  obtain ⟨m, hm⟩ : ∃ m, wrap64 (Int.tmod (IntKind.u64.wrap a3) 100) = m := ⟨_, rfl⟩
  rw [hm] at m0 m1
  obtain ⟨C, okC, lC, kC⟩ := kept_f s m (by omega) (by omega)
  have okA' : okM A 0 B.length = true := by rw [lB]; exact okA
  have okB' : okM B 0 C.length = true := by rw [lC]; exact okB
  have rA := ok_mem okA'
  have mA := make_ok (l := A) (m := q.length) (by omega) (by omega) (by omega) okA
  have mB := make_ok (l := B) (m := s.length) (by omega) (by omega) (by omega) okB
  have mC := make_ok (l := C) (m := m) (by omega) (by omega) (by omega) okC
  have okAB := comp_ok B s.length okB A 0 0 (by omega) okA' (fun j _ hj => by rcases ok_range B 0 _ okB j hj with h | h; exact .inl h; exact .inr h.1)
  have okBC := comp_ok C m okC B 0 0 (by omega) okB' (fun j _ hj => by rcases ok_range C 0 _ okC j hj with h | h; exact .inl h; exact .inr h.1)
  have lAB : (A.map (thenL B)).length = p.length := by rw [List.length_map, lA]
  have lBC : (B.map (thenL C)).length = q.length := by rw [List.length_map, lB]
  have c1 : edits_Compose.f (scriptOf A q.length) (scriptOf B s.length) p.length q.length s.length = some (scriptOf (A.map (thenL B)) s.length, 0) := by
    have := compose_scripts (p := A) (q := B) (m := s.length) (by omega) (by omega) (by omega) (by omega) okA' okB
    rw [lA, lB] at this
    exact this
  have c2 : edits_Compose.f (scriptOf B s.length) (scriptOf C m) q.length s.length m = some (scriptOf (B.map (thenL C)) m, 0) := by
    have := compose_scripts (p := B) (q := C) (m := m) (by omega) (by omega) (by omega) (by omega) okB' okC
    rw [lB, lC] at this
    exact this
  have c3 : edits_Compose.f (scriptOf (A.map (thenL B)) s.length) (scriptOf C m) p.length s.length m = some (scriptOf ((A.map (thenL B)).map (thenL C)) m, 0) := by
    have := compose_scripts (p := A.map (thenL B)) (q := C) (m := m) (by omega) (by omega) (by omega) (by omega) (by rw [lC]; exact okAB) okC
    rw [lAB, lC] at this
    exact this
  have c4 : edits_Compose.f (scriptOf A q.length) (scriptOf (B.map (thenL C)) m) p.length q.length m = some (scriptOf (A.map (thenL (B.map (thenL C)))) m, 0) := by
    have := compose_scripts (p := A) (q := B.map (thenL C)) (m := m) (by omega) (by omega) (by omega) (by omega) (by rw [lBC]; exact okA) okBC
    rw [lA, lBC] at this
    exact this
  have c5 : edits_Compose.f (scriptOf A q.length) [] p.length q.length q.length = some (scriptOf A q.length, 0) := by
    have := compose_none_right (p := A) (m := q.length) (by omega) (by omega) (by omega) okA
    rw [lA] at this
    exact this
  have c6 : edits_Compose.f [] (scriptOf A q.length) p.length p.length q.length = some (scriptOf A q.length, 0) := by
    have := compose_none_left (p := A) (m := q.length) (by omega) (by omega) (by omega) okA
    rw [lA] at this
    exact this
  rw [comp_assoc A B C rA] at c3
  have s1 := script_length (A.map (thenL (B.map (thenL C)))) m
  rw [List.length_map, lA] at s1
  have s2 := script_length A q.length
  rw [lA] at s2
  have e3 : decide ((s.length : Int) > 100) = false := by simpa using h3
  refine ⟨1000 + 1 + 1 + 1, ?_⟩
  rw [W _ (by omega), Option.bind_some, if_pos rfl, if_neg h1, if_neg h2, e3, redlinelaw05_EditsChain.j0, if_neg (by simp), kA _ (by omega), Option.bind_some, kB _ (by omega), Option.bind_some, hm, kC _ (by omega), Option.bind_some, mA, Option.bind_some, mB, Option.bind_some, mC, Option.bind_some]
  dsimp only
  rw [if_pos rfl, if_pos rfl, redlinelaw05_EditsChain.j1, if_neg (by simp), c1, Option.bind_some, c2, Option.bind_some]
  dsimp only
  rw [if_pos rfl, redlinelaw05_EditsChain.j2, if_neg (by simp), c3, Option.bind_some, c4, Option.bind_some, c5, Option.bind_some, c6, Option.bind_some]
  dsimp only
  rw [if_pos rfl, if_pos rfl, if_pos rfl, if_pos rfl, sameCh_refl _ (by omega) _ (by omega), Option.bind_some, if_pos rfl, sameCh_refl _ (by omega) _ (by omega), Option.bind_some, if_pos rfl]
  rfl
end Go.Proofs.Ytpkhfeeelkhkaaa.Y
namespace Go.Proofs.Ytpkhfeeelkhkaaa.Pure
open Go.Proofs.Ytpkhfeeelkhkaaa.X
theorem EditsChain : redlinelaw05_EditsChain.Pure := fun p q s a3 _ _ _ _ _ _ _ _ _ _ => Y.editsChain_pure p q s a3
end Go.Proofs.Ytpkhfeeelkhkaaa.Pure
