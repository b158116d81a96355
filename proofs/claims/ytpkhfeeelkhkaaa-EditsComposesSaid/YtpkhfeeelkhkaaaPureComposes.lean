/-
  EditsComposes, the plain law: two scripts are put together, or refused, by program and reference alike.
-/
import Derived.Test.YtpkhfeeelkhkaaaX26
import Derived.Test.YtpkhfeeelkhkaaaPureChecks
import Derived.Test.YtpkhfeeelkhkaaaECompose
namespace Go.Proofs.Ytpkhfeeelkhkaaa.X
open Go.RowKit Go.Proofs.YtpkhfeeelkhkaaaW.PrintWords Go.Proofs.YtpkhfeeelkhkaaaW.PrintLast Go.Proofs.YtpkhfeeelkhkaaaW.PrintMore
set_option linter.unusedVariables false

/-- The lines that are kept rise, and lie in the second text. -/
def okM : List Int → Int → Int → Bool
  | [], _, _ => true
  | k :: l, b, m => if k = -1 then okM l b m else (decide (b ≤ k) && decide (k < m) && okM l (k + 1) m)
def buildM : List Int → Int → Int → Int → Int → List S54 → List S54
  | [], i, a, b, m, acc => reachL acc a b i m
  | k :: l, i, a, b, m, acc => if k = -1 then buildM l (i + 1) a b m acc else buildM l (i + 1) (i + 1) (k + 1) m (reachL acc a b i k)
theorem makeG_eq : ∀ (l : List Int) (i a b m : Int) (acc : List S54), makeG l i a b m acc = if okM l b m = true then (buildM l i a b m acc, 0) else ([], 50)
  | [], i, a, b, m, acc => by simp [makeG, okM, buildM]
  | k :: l, i, a, b, m, acc => by
    rw [makeG, okM, buildM]
    by_cases h1 : k = -1
    · rw [if_pos h1, if_pos h1, if_pos h1, makeG_eq l]
    · rw [if_neg h1, if_neg h1, if_neg h1]
      by_cases h2 : k < b ∨ m ≤ k
      · rw [if_pos h2, if_neg]
        simp only [Bool.and_eq_true, decide_eq_true_eq]
        rintro ⟨⟨h3, h4⟩, _⟩
        omega
      · rw [if_neg h2, makeG_eq l]
        have e1 : decide (b ≤ k) = true := by simp; omega
        have e2 : decide (k < m) = true := by simp; omega
        rw [e1, e2, Bool.true_and, Bool.true_and]

theorem makeRef_one (l : List Int) (m : Int) (hl : l.length ≤ 4398046511104) (d : Nat) : ∀ (k i : Nat) (last : Int), i + d = l.length →
    redlineref05_Make.l0 (k + d + 1) l m last i = if okM (l.drop i) (last + 1) m = true then (if m < 0 then some ([], 50) else redlineref05_Make.l1 k l m [] 0 0 0) else some ([], 50) := by
  induction d with
  | zero =>
    intro k i last hi
    rw [redlineref05_Make.l0, if_neg (by omega), List.drop_of_length_le (by omega), okM, if_pos rfl]
  | succ d ih =>
    intro k i last hi
    have p1 : (i : Int) < (l.length : Int) := by omega
    have p2 : (0 : Int) ≤ (i : Int) := by omega
    have hdr := drop_int l (i : Int) p2 p1
    rw [toNat_succ, Int.toNat_natCast] at hdr
    have hw := wrap_succ i (by omega)
    rw [show k + (d + 1) + 1 = (k + d + 1) + 1 by omega, redlineref05_Make.l0, if_pos p1, if_pos p2, hdr, okM, hw]
    generalize rd l (i : Int) = x
    by_cases h1 : x = -1
    · rw [if_pos h1, if_pos h1, ih k (i + 1) last (by omega)]
    · rw [if_neg h1, if_neg h1]
      by_cases h2 : x ≤ last
      · have e1 : decide (last + 1 ≤ x) = false := by simp; omega
        rw [if_pos h2, e1]
        rfl
      · have e1 : decide (last + 1 ≤ x) = true := by simp; omega
        rw [if_neg h2, e1]
        by_cases h3 : x ≥ m
        · have e2 : decide (x < m) = false := by simp; omega
          rw [if_pos h3, e2]
          rfl
        · have e2 : decide (x < m) = true := by simp; omega
          rw [if_neg h3, e2, ih k (i + 1) x (by omega), Bool.true_and, Bool.true_and]

theorem makeRef_two (l : List Int) (m : Int) (hl : l.length < 4398046511104) (hm : m ≤ 4398046511104) (d : Nat) : ∀ (i : Nat) (a b : Int) (acc : List S54), i + d = l.length → 0 ≤ a → a ≤ i → 0 ≤ b → b ≤ m → acc.length ≤ i → okM (l.drop i) b m = true →
    redlineref05_Make.l1 (d + 2) l m acc a b i = some (buildM (l.drop i) i a b m acc, 0) := by
  induction d with
  | zero =>
    intro i a b acc hi a0 a1 b0 b1 hacc hok
    have p1 : ¬ (i : Int) < (l.length : Int) := by omega
    have p2 : (i : Int) ≤ (l.length : Int) := by omega
    have p3 : ¬ (i : Int) + 1 ≤ (l.length : Int) := by omega
    have p4 : acc.length < 4398046511104 := by omega
    have w1 : Aside0 (wrap64 ((i : Int) + 1) = (i : Int) + 1) := ⟨w64 (by omega) (by omega)⟩
    have w2 : Aside0 (wrap64 ((i : Int) - a) = (i : Int) - a) := ⟨w64 (by omega) (by omega)⟩
    have w3 : Aside0 (wrap64 (m - b) = m - b) := ⟨w64 (by omega) (by omega)⟩
    rw [List.drop_of_length_le (by omega), show 0 + 2 = (0 + 1) + 1 from rfl, redlineref05_Make.l1, if_pos p2, if_neg p1, w1.out, w2.out, w3.out, buildM]
    unfold reachL
    by_cases h1 : (i : Int) > a
    · rw [if_pos h1, if_pos p4, redlineref05_Make.l1, if_neg p3, if_pos (.inl h1)]
    · rw [if_neg h1]
      by_cases h2 : m > b
      · rw [if_pos h2, if_pos p4, redlineref05_Make.l1, if_neg p3, if_pos (.inr h2)]
      · rw [if_neg h2, redlineref05_Make.l1, if_neg p3, if_neg (by omega)]
  | succ d ih =>
    intro i a b acc hi a0 a1 b0 b1 hacc hok
    have p1 : (i : Int) < (l.length : Int) := by omega
    have p0 : (i : Int) ≤ (l.length : Int) := by omega
    have p2 : (0 : Int) ≤ (i : Int) := by omega
    have p4 : acc.length < 4398046511104 := by omega
    have hdr := drop_int l (i : Int) p2 p1
    rw [toNat_succ, Int.toNat_natCast] at hdr
    have hw : Aside0 (wrap64 ((i : Int) + 1) = ((i + 1 : Nat) : Int)) := ⟨wrap_succ i (by omega)⟩
    have w2 : Aside0 (wrap64 ((i : Int) - a) = (i : Int) - a) := ⟨w64 (by omega) (by omega)⟩
    rw [hdr, okM] at hok
    rw [show d + 1 + 2 = (d + 2) + 1 by omega, redlineref05_Make.l1, if_pos p0, if_pos p1, if_pos p2, hdr, buildM, hw.out, w2.out]
    generalize rd l (i : Int) = x at hok ⊢
    by_cases h1 : x = -1
    · rw [if_pos h1] at hok
      rw [if_pos h1, if_pos h1, ih (i + 1) a b acc (by omega) a0 (by omega) b0 b1 (by omega) hok]
      rfl
    · rw [if_neg h1, Bool.and_eq_true, Bool.and_eq_true, decide_eq_true_eq, decide_eq_true_eq] at hok
      obtain ⟨⟨g1, g2⟩, g3⟩ := hok
      have w3 : Aside0 (wrap64 (x - b) = x - b) := ⟨w64 (by omega) (by omega)⟩
      have w4 : Aside0 (wrap64 (x + 1) = x + 1) := ⟨w64 (by omega) (by omega)⟩
      have hlen := reachL_length acc a b i x
      have hI := ih (i + 1) ((i : Int) + 1) (x + 1) (reachL acc a b i x) (by omega) (by omega) (by omega) (by omega) (by omega) (by omega) g3
      rw [if_neg h1, if_neg h1, w3.out, w4.out]
      have e : ((i + 1 : Nat) : Int) = (i : Int) + 1 := by omega
      rw [e] at hI ⊢
      by_cases h2 : (i : Int) > a
      · have hr : reachL acc a b i x = acc ++ [⟨a, i - a, b, x - b⟩] := by unfold reachL; rw [if_pos (Or.inl h2)]
        rw [hr] at hI ⊢
        rw [if_pos h2, if_pos p4]
        exact hI
      · by_cases h3 : x > b
        · have hr : reachL acc a b i x = acc ++ [⟨a, i - a, b, x - b⟩] := by unfold reachL; rw [if_pos (Or.inr h3)]
          rw [hr] at hI ⊢
          rw [if_neg h2, if_pos h3, if_pos p4]
          exact hI
        · have hr : reachL acc a b i x = acc := by unfold reachL; rw [if_neg (by omega)]
          rw [hr] at hI ⊢
          rw [if_neg h2, if_neg h3]
          exact hI

theorem makeG_length : ∀ (l : List Int) (i a b m : Int) (acc : List S54), (makeG l i a b m acc).1.length ≤ acc.length + l.length + 1
  | [], i, a, b, m, acc => by
    have := reachL_length acc a b i m
    rw [makeG]
    simp only [List.length_nil]
    omega
  | k :: l, i, a, b, m, acc => by
    rw [makeG, List.length_cons]
    by_cases h1 : k = -1
    · rw [if_pos h1]
      have := makeG_length l (i + 1) a b m acc
      omega
    · rw [if_neg h1]
      by_cases h2 : k < b ∨ m ≤ k
      · rw [if_pos h2]
        simp
      · rw [if_neg h2]
        have := makeG_length l (i + 1) (i + 1) (k + 1) m (reachL acc a b i k)
        have := reachL_length acc a b i k
        omega
theorem make_length {l : List Int} {m : Int} {r : List S54 × Int} (h : edits_Make.f l m = some r) : r.1.length ≤ l.length + 1 := by
  unfold edits_Make.f at h
  split at h
  · split at h
    · injection h with h
      subst h
      simp
    · injection h with h
      subst h
      have := makeG_length l 0 0 0 m []
      simp only [List.length_nil] at this
      omega
  · cases h

/-- Program and reference make the same script. -/
theorem refMake_f (l : List Int) (m : Int) (hl : l.length < 4398046511104) (hm : m ≤ 4398046511104) : ∃ r, edits_Make.f l m = some r ∧ ∀ k, 2 * l.length + 3 ≤ k → redlineref05_Make.f k l m = some r := by
  have e1 := makeRef_one l m (by omega) l.length (l.length + 2) 0 (-1) (by omega)
  rw [List.drop_zero, show (-1 : Int) + 1 = 0 from rfl] at e1
  have lift : ∀ {r}, redlineref05_Make.l0 (l.length + 2 + l.length + 1) l m (-1) ((0 : Nat) : Int) = some r → ∀ k, 2 * l.length + 3 ≤ k → redlineref05_Make.f k l m = some r := by
    intro r hr k hk
    unfold redlineref05_Make.f
    exact fuel_le (fun k => (redlineref05_Make.mono_l k).1 _ _ _ _) (by omega) hr
  unfold edits_Make.f
  rw [if_pos ⟨hl, by omega⟩]
  by_cases hneg : m < 0
  · rw [if_pos hneg]
    refine ⟨_, rfl, lift ?_⟩
    rw [e1, if_pos hneg]
    split <;> rfl
  · rw [if_neg hneg, makeG_eq]
    refine ⟨_, rfl, lift ?_⟩
    rw [e1, if_neg hneg]
    by_cases hok : okM l 0 m = true
    · rw [if_pos hok, if_pos hok]
      exact makeRef_two l m hl hm l.length 0 0 0 [] (by omega) (by omega) (by omega) (by omega) (by omega) (by simp) (by rw [List.drop_zero]; exact hok)
    · rw [if_neg hok, if_neg hok]

/-! ### Compose -/
theorem compRef_loop (m : Int) (p q : List Int) (hp : p.length ≤ 4398046511104) (hq : ∀ t ∈ p, t < q.length ∧ (t = -1 ∨ 0 ≤ t)) (d : Nat) : ∀ (k i : Nat), i + d = p.length →
    redlineref05_Compose.l0 (k + d + 1) m p q ((p.take i).map (thenL q)) i = (redlineref05_Make.f (k) (p.map (thenL q)) m).bind fun r => some (r.1, r.2) := by
  induction d with
  | zero =>
    intro k i hi
    rw [redlineref05_Compose.l0, if_neg (by omega), List.take_of_length_le (by omega)]
  | succ d ih =>
    intro k i hi
    have hil : i < p.length := by omega
    have p1 : (i : Int) < (p.length : Int) := by omega
    have p2 : (0 : Int) ≤ (i : Int) := by omega
    have p3 : ((p.take i).map (thenL q)).length < 17592186044416 := by rw [List.length_map, List.length_take]; omega
    have e : rd p (i : Int) = p[i] := by
      unfold rd
      rw [Int.toNat_natCast, List.getD_eq_getElem?_getD, List.getElem?_eq_getElem hil]
      rfl
    have e2 : (p.take i).map (thenL q) ++ [thenL q p[i]] = (p.take (i + 1)).map (thenL q) := by
      rw [List.take_add_one, List.getElem?_eq_getElem hil, List.map_append]
      rfl
    have hI := ih k (i + 1) (by omega)
    rw [← e2] at hI
    obtain ⟨g1, g2⟩ := hq p[i] (List.getElem_mem hil)
    have hw := wrap_succ i (by omega)
    rw [show k + (d + 1) + 1 = (k + d + 1) + 1 by omega, redlineref05_Compose.l0, if_pos p1, if_pos p2, e, hw]
    by_cases h0 : 0 ≤ p[i]
    · have ht : thenL q p[i] = rd q p[i] := by unfold thenL; rw [if_pos h0]
      rw [ht] at hI
      rw [if_pos h0, if_pos h0, if_pos g1, if_pos p3]
      exact hI
    · have h1 : p[i] = -1 := by rcases g2 with h | h; exact h; exact absurd h h0
      have ht : thenL q p[i] = -1 := by unfold thenL; rw [if_neg h0, h1]
      rw [ht] at hI
      rw [if_neg h0, if_pos p3]
      exact hI

theorem keepOf_range {n m : Int} : ∀ {ps : List (S54 × Bool)}, (∀ p ∈ ps, OkP n m p) → ∀ t ∈ keepOf ps, t < m ∧ (t = -1 ∨ 0 ≤ t) ∨ t = -1
  | [], _, t, ht => by cases ht
  | p :: ps, h, t, ht => by
    rw [keepOf_cons, List.mem_append] at ht
    rcases ht with ht | ht
    · obtain ⟨g0, g1, g2, g3, g4, g5, g6⟩ := h p List.mem_cons_self
      unfold keep1 at ht
      rw [List.mem_map] at ht
      obtain ⟨i, hi, rfl⟩ := ht
      rw [List.mem_range] at hi
      by_cases hp : p.2 = true
      · rw [if_pos hp]
        have := g6 hp
        exact .inl ⟨by omega, .inr (by omega)⟩
      · rw [if_neg hp]
        exact .inr rfl
    · exact keepOf_range (fun q hq => h q (List.mem_cons_of_mem _ hq)) t ht

theorem keep_res (l : List S54) (n m : Int) (hn : n ≤ 2000) (hm : m ≤ 2000) (hl : l.length < 4398046511104) : ∃ p e, edits_Keep.f l n m = some (p, e) ∧ (∃ K, ∀ k, K ≤ k → redlineref05_Keep.f k l n m = some (p, e)) ∧ (e = 0 → (p.length : Int) = n ∧ ∀ t ∈ p, t < m ∧ (t = -1 ∨ 0 ≤ t) ∨ t = -1) ∧ p.length ≤ 2000 ∧ (e = 0 → 0 ≤ n) := by
  obtain ⟨K, hK⟩ := refKeep_f l n m hn hm (by omega)
  by_cases hc : chk l n m = 0
  · have R := right_of_chk n m l true 0 0 (by omega) (by omega) hc
    have h3 := keepOf_length R.ok
    rw [R.lenA] at h3
    have h0 := R.le_n
    refine ⟨keepOf (pieces l n 0 0), 0, ?_, ⟨K, fun k hk => by rw [hK k hk, if_pos hc]⟩, fun _ => ⟨by omega, keepOf_range R.ok⟩, by omega, fun _ => h0⟩
    unfold edits_Keep.f
    rw [if_pos ⟨by omega, by omega, by omega⟩, if_pos hc, if_pos (by omega)]
  · have h50 : chk l n m = 50 := (chk_or l n m).resolve_left hc
    refine ⟨[], 50, ?_, ⟨K, fun k hk => by rw [hK k hk, if_neg hc]⟩, fun h => by omega, by simp, fun h => by omega⟩
    unfold edits_Keep.f
    rw [if_pos ⟨by omega, by omega, by omega⟩, if_neg hc, h50]

/-- Program and reference put two scripts together alike. -/
theorem refCompose_f (x y : List S54) (n m k0 : Int) (hn : n ≤ 2000) (hm : m ≤ 2000) (hk0 : k0 ≤ 2000) (hx : x.length < 4398046511104) (hy : y.length < 4398046511104) :
    ∃ r, edits_Compose.f x y n m k0 = some r ∧ r.1.length ≤ 4398046511104 ∧ ∃ K, ∀ k, K ≤ k → redlineref05_Compose.f k x y n m k0 = some r := by
  obtain ⟨p, e1, f1, ⟨K1, g1⟩, hp, hpl, hn0⟩ := keep_res x n m hn hm hx
  obtain ⟨q, e2, f2, ⟨K2, g2⟩, hq, hql, hm0⟩ := keep_res y m k0 hm hk0 hy
  unfold edits_Compose.f
  rw [f1, Option.bind_some]
  by_cases h1 : e1 = 0
  rotate_left
  · refine ⟨([], e1), by dsimp only; rw [if_neg h1], by simp, K1, fun k hk => ?_⟩
    unfold redlineref05_Compose.f
    rw [g1 k hk, Option.bind_some]
    dsimp only
    rw [if_neg h1]
  subst h1
  dsimp only
  rw [if_pos rfl, f2, Option.bind_some]
  by_cases h2 : e2 = 0
  rotate_left
  · refine ⟨([], e2), by dsimp only; rw [if_neg h2], by simp, K1 + K2, fun k hk => ?_⟩
    unfold redlineref05_Compose.f
    rw [g1 k (by omega), Option.bind_some]
    dsimp only
    rw [if_pos rfl, g2 k (by omega), Option.bind_some]
    dsimp only
    rw [if_neg h2]
  subst h2
  have hqm := (hq rfl).1
  have hm1 : 0 ≤ m := hm0 rfl
  have hin : ∀ t ∈ p, t < q.length ∧ (t = -1 ∨ 0 ≤ t) := by
    intro t ht
    rcases (hp rfl).2 t ht with ⟨a, b⟩ | a
    · exact ⟨by omega, b⟩
    · exact ⟨by omega, .inl a⟩
  obtain ⟨r, hr, hR⟩ := refMake_f (p.map (thenL q)) k0 (by rw [List.length_map]; omega) (by omega)
  refine ⟨r, ?_, ?_, K1 + K2 + (2 * p.length + 3 + p.length + 1), fun k hk => ?_⟩
  · dsimp only
    rw [if_pos rfl, if_pos (fun t ht => (hin t ht).1), hr]
  · have := make_length hr
    rw [List.length_map] at this
    omega
  · unfold redlineref05_Compose.f
    rw [g1 k (by omega), Option.bind_some]
    dsimp only
    rw [if_pos rfl, g2 k (by omega), Option.bind_some]
    dsimp only
    rw [if_pos rfl]
    have hc := compRef_loop k0 p q (by omega) hin p.length (2 * p.length + 3) 0 (by omega)
    rw [hR _ (by rw [List.length_map]; omega), Option.bind_some] at hc
    exact fuel_le (fun k => redlineref05_Compose.mono_l k _ _ _ _ _) (by omega) hc

theorem editsComposes_pure (x y : List S54) (n m k0 : Int) (hx : x.length < 4398046511104) (hy : y.length < 4398046511104) : ∃ k, redlinelaw05_EditsComposes.f k x y n m k0 = some true := by
  have big : redlinelaw05_EditsComposes.j0 1 x y n m k0 true = some true := by
    rw [redlinelaw05_EditsComposes.j0, if_pos rfl]
  unfold redlinelaw05_EditsComposes.f redlinelaw05_small.f
  simp only [Option.bind_some, decide_eq_true_eq]
  by_cases h1 : n ≤ 2000
  rotate_left
  · exact ⟨1, by rw [if_neg h1]; exact big⟩
  by_cases h2 : m ≤ 2000
  rotate_left
  · exact ⟨1, by rw [if_pos h1, if_neg h2]; exact big⟩
  by_cases h3 : k0 ≤ 2000
  rotate_left
  · refine ⟨1, ?_⟩
    rw [if_pos h1, if_pos h2]
    have : (!decide (k0 ≤ 2000)) = true := by simp [h3]
    rw [this]
    exact big
  obtain ⟨r, hr, hl, K, hK⟩ := refCompose_f x y n m k0 h1 h2 h3 hx hy
  refine ⟨(K + r.1.length + 1) + 1, ?_⟩
  rw [if_pos h1, if_pos h2]
  have : (!decide (k0 ≤ 2000)) = false := by simp [h3]
  rw [this, redlinelaw05_EditsComposes.j0, if_neg (by simp)]
  simp only [Option.bind_some, List.nil_append, List.length_nil]
  rw [if_pos (by omega), if_pos (by omega), hr, hK _ (by omega)]
  simp only [Option.bind_some]
  rw [if_pos trivial, sameCh_refl r.1 hl _ (by omega)]
  rfl
end Go.Proofs.Ytpkhfeeelkhkaaa.X
