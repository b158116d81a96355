/-
  What both Checks come to: one plain function of the list and the two lengths.
-/
import Derived.Test.YtpkhfeeelkhkaaaX3
import Derived.Test.YtpkhfeeelkhkaaaX7
import Derived.Test.YtpkhfeeelkhkaaaERuns
namespace Go.Proofs.Ytpkhfeeelkhkaaa.X
open Go.RowKit Go.Proofs.YtpkhfeeelkhkaaaW.PrintWords Go.Proofs.YtpkhfeeelkhkaaaW.PrintLast Go.Proofs.YtpkhfeeelkhkaaaW.PrintMore
set_option linter.unusedVariables false
set_option linter.unusedSimpArgs false

instance (n : Int) : Decidable (Cnt n) := inferInstanceAs (Decidable (_ ∧ _))
instance (c : S54) : Decidable (Chg c) := inferInstanceAs (Decidable (_ ∧ _ ∧ _ ∧ _))
/-- A list of changes behind the places a and b. -/
def chkG : List S54 → Bool → Int → Int → Int → Int → Int
  | [], _, n, m, a, b => if n < a then 50 else if m < b then 50 else if n - a = m - b then 0 else 50
  | c :: l, fst, n, m, a, b =>
    if ¬ Chg c then 50 else if c.f1 = 0 ∧ c.f3 = 0 then 50 else if c.f0 < a then 50 else if fst = false ∧ c.f0 = a then 50 else if c.f0 - a = c.f2 - b then chkG l false n m (c.f0 + c.f1) (c.f2 + c.f3) else 50
def chk (l : List S54) (n m : Int) : Int := chkG l true n m 0 0

theorem count_some (x : Int) : edits_count.f x = some (decide (Cnt x)) := by
  unfold edits_count.f Cnt
  split
  · rename_i h
    have : 0 ≤ x := h
    simp [this]
  · rename_i h
    have : ¬ 0 ≤ x := h
    simp [this]
theorem rcount_some (x : Int) : redlineref05_count.f x = some (decide (Cnt x)) := by
  unfold redlineref05_count.f Cnt
  split
  · rename_i h
    have : 0 ≤ x := h
    simp [this]
  · rename_i h
    have : ¬ 0 ≤ x := h
    simp [this]
theorem w64 {x : Int} (h0 : -9223372036854775808 ≤ x) (h1 : x ≤ 9223372036854775807) : wrap64 x = x := by
  unfold wrap64
  omega

theorem check_l0 (l0 : List S54) (hl : l0.length ≤ 9223372036854775806) (n m : Int) (hn : n ≤ 9223372036854775807) (hm : m ≤ 9223372036854775807) (d : Nat) : ∀ (i a b : Int), 0 ≤ i → i + d = l0.length → 0 ≤ a → a ≤ 4294967296 → 0 ≤ b → b ≤ 4294967296 →
    edits_Check.l0 (2 * d + 1) n m a b l0 l0.length i = some (chkG (l0.drop i.toNat) (decide (i = 0)) n m a b) := by
  induction d with
  | zero =>
    intro i a b hi0 hi1 ha0 ha1 hb0 hb1
    rw [List.drop_of_length_le (by omega), show 2 * 0 + 1 = 0 + 1 from rfl]
    simp only [edits_Check.l0]
    rw [if_neg (by omega)]
    unfold chkG
    by_cases h1 : a > n
    · rw [if_pos h1, if_pos h1]
    · rw [if_neg h1, if_neg h1]
      by_cases h2 : b > m
      · rw [if_pos h2, if_pos h2]
      · rw [if_neg h2, if_neg h2, w64 (by omega) (by omega), w64 (by omega) (by omega)]
        by_cases h3 : n - a = m - b
        · rw [if_pos h3, if_pos h3]
        · rw [if_neg h3, if_neg h3]
  | succ d ih =>
    intro i a b hi0 hi1 ha0 ha1 hb0 hb1
    rw [drop_T54 l0 i hi0 (by omega), show 2 * (d + 1) + 1 = (2 * d + 1 + 1) + 1 by omega]
    simp only [edits_Check.l0, count_some, Option.bind_some]
    rw [if_pos (by omega), if_pos hi0, if_pos (by omega)]
    generalize hc : rd_T54 l0 i = c
    simp only [decide_eq_true_eq]
    have J : ∀ (bb : Bool), edits_Check.j1 (2 * d + 2) n m a b i l0 l0.length i bb c.f0 c.f1 c.f2 c.f3 = if bb = true then (some 50) else (if (wrap64 (c.f0 - a)) < 0 then (some 50) else (if i > 0 then (if (wrap64 (c.f0 - a)) = 0 then (some 50) else (if (wrap64 (c.f0 - a)) = (wrap64 (c.f2 - b)) then (edits_Check.l0 (2 * d + 1) n m (wrap64 (c.f0 + c.f1)) (wrap64 (c.f2 + c.f3)) l0 l0.length (wrap64 (i + 1))) else (some 50))) else (if (wrap64 (c.f0 - a)) = (wrap64 (c.f2 - b)) then (edits_Check.l0 (2 * d + 1) n m (wrap64 (c.f0 + c.f1)) (wrap64 (c.f2 + c.f3)) l0 l0.length (wrap64 (i + 1))) else (some 50)))) := by
      intro bb
      rw [edits_Check.j1]
    unfold chkG
    by_cases g0 : Cnt c.f0
    rotate_left
    · rw [if_neg g0, J, if_pos rfl, if_pos (fun h => g0 h.1)]
    by_cases g1 : Cnt c.f1
    rotate_left
    · rw [if_pos g0, if_neg g1, J, if_pos rfl, if_pos (fun h => g1 h.2.1)]
    by_cases g2 : Cnt c.f2
    rotate_left
    · rw [if_pos g0, if_pos g1, if_neg g2, J, if_pos rfl, if_pos (fun h => g2 h.2.2.1)]
    by_cases g3 : Cnt c.f3
    rotate_left
    · rw [if_pos g0, if_pos g1, if_pos g2, if_neg g3, J, if_pos rfl, if_pos (fun h => g3 h.2.2.2)]
    rw [if_pos g0, if_pos g1, if_pos g2, if_pos g3, if_neg (not_not_intro ⟨g0, g1, g2, g3⟩ : ¬ ¬ Chg c), J, J]
    obtain ⟨x0, x1⟩ := g0
    obtain ⟨y0, y1⟩ := g1
    obtain ⟨z0, z1⟩ := g2
    obtain ⟨t0, t1⟩ := g3
    rw [w64 (show -9223372036854775808 ≤ c.f0 - a by omega) (by omega), w64 (show -9223372036854775808 ≤ c.f2 - b by omega) (by omega), w64 (show -9223372036854775808 ≤ c.f0 + c.f1 by omega) (by omega),
      w64 (show -9223372036854775808 ≤ c.f2 + c.f3 by omega) (by omega), w64 (show -9223372036854775808 ≤ i + 1 by omega) (by omega), ih (i + 1) _ _ (by omega) (by omega) (by omega) (by omega) (by omega) (by omega), show decide (i + 1 = 0) = false from decide_eq_false (by omega)]
    by_cases k1 : c.f1 = 0 ∧ c.f3 = 0
    · rw [if_pos k1, if_pos k1.1, if_pos (by simp [k1.2])]
    · rw [if_neg k1]
      have hb : (if c.f1 = 0 then (if (c.f3 == 0) = true then some (50 : Int) else
          (if c.f0 - a < 0 then some 50 else if i > 0 then (if c.f0 - a = 0 then some 50 else if c.f0 - a = c.f2 - b then some (chkG (l0.drop (i + 1).toNat) false n m (c.f0 + c.f1) (c.f2 + c.f3)) else some 50) else if c.f0 - a = c.f2 - b then some (chkG (l0.drop (i + 1).toNat) false n m (c.f0 + c.f1) (c.f2 + c.f3)) else some 50))
        else (if false = true then some 50 else (if c.f0 - a < 0 then some 50 else if i > 0 then (if c.f0 - a = 0 then some 50 else if c.f0 - a = c.f2 - b then some (chkG (l0.drop (i + 1).toNat) false n m (c.f0 + c.f1) (c.f2 + c.f3)) else some 50) else if c.f0 - a = c.f2 - b then some (chkG (l0.drop (i + 1).toNat) false n m (c.f0 + c.f1) (c.f2 + c.f3)) else some 50)))
        = (if c.f0 - a < 0 then some 50 else if i > 0 then (if c.f0 - a = 0 then some 50 else if c.f0 - a = c.f2 - b then some (chkG (l0.drop (i + 1).toNat) false n m (c.f0 + c.f1) (c.f2 + c.f3)) else some 50) else if c.f0 - a = c.f2 - b then some (chkG (l0.drop (i + 1).toNat) false n m (c.f0 + c.f1) (c.f2 + c.f3)) else some 50) := by
        by_cases h1 : c.f1 = 0
        · have h3 : ¬ c.f3 = 0 := fun h => k1 ⟨h1, h⟩
          rw [if_pos h1, if_neg (by simpa using h3)]
        · rw [if_neg h1, if_neg (by simp)]
      rw [hb]
      have e1 : (c.f0 - a < 0) ↔ c.f0 < a := by omega
      have e2 : (c.f0 - a = 0) ↔ c.f0 = a := by omega
      have e3 : decide (i = 0) = false ↔ i > 0 := by rw [decide_eq_false_iff_not]; omega
      simp only [e1, e2, e3]
      by_cases h1 : c.f0 < a
      · simp [h1]
      · by_cases h2 : i > 0
        · by_cases h3 : c.f0 = a
          · simp [h1, h2, h3]
          · by_cases h4 : c.f0 - a = c.f2 - b <;> simp [h1, h2, h3, h4]
        · by_cases h4 : c.f0 - a = c.f2 - b <;> simp [h1, h2, h4]

theorem check_f (l : List S54) (hl : l.length ≤ 9223372036854775806) (n m : Int) (hn : n ≤ 9223372036854775807) (hm : m ≤ 9223372036854775807) : edits_Check.f (2 * l.length + 1) l n m = some (chk l n m) :=
  check_l0 l hl n m hn hm l.length 0 0 0 (by omega) (by omega) (by omega) (by omega) (by omega) (by omega)

theorem chkG_neg (n m : Int) (h : n < 0 ∨ m < 0) : ∀ (l : List S54) (fst : Bool) (a b : Int), 0 ≤ a → 0 ≤ b → chkG l fst n m a b = 50
  | [], fst, a, b, ha, hb => by
    unfold chkG
    by_cases h1 : n < a
    · rw [if_pos h1]
    · rw [if_neg h1, if_pos (by omega)]
  | c :: l, fst, a, b, ha, hb => by
    unfold chkG
    by_cases hc : Chg c
    · have h2 := chkG_neg n m h l false (c.f0 + c.f1) (c.f2 + c.f3) (by have := hc.1.1; have := hc.2.1.1; omega) (by have := hc.2.2.1.1; have := hc.2.2.2.1; omega)
      rw [h2]
      simp
    · rw [if_pos hc]

theorem rcheck_l0 (l0 : List S54) (hl : l0.length ≤ 9223372036854775806) (n m : Int) (hn : n ≤ 9223372036854775807) (hm : m ≤ 9223372036854775807) (d : Nat) : ∀ (i a b : Int), 0 ≤ i → i + d = l0.length → 0 ≤ a → a ≤ 4294967296 → 0 ≤ b → b ≤ 4294967296 →
    redlineref05_Check.l0 (2 * d + 1) l0 n m a b i = some (chkG (l0.drop i.toNat) (decide (i = 0)) n m a b) := by
  induction d with
  | zero =>
    intro i a b hi0 hi1 ha0 ha1 hb0 hb1
    rw [List.drop_of_length_le (by omega), show 2 * 0 + 1 = 0 + 1 from rfl]
    simp only [redlineref05_Check.l0]
    rw [if_neg (by omega)]
    unfold chkG
    by_cases h1 : a > n
    · rw [if_pos h1, if_pos h1]
    · rw [if_neg h1, if_neg h1]
      by_cases h2 : b > m
      · rw [if_pos h2, if_pos h2]
      · rw [if_neg h2, if_neg h2, w64 (by omega) (by omega), w64 (by omega) (by omega)]
        by_cases h3 : n - a = m - b
        · rw [if_pos h3, if_pos h3]
        · rw [if_neg h3, if_neg h3]
  | succ d ih =>
    intro i a b hi0 hi1 ha0 ha1 hb0 hb1
    rw [drop_T54 l0 i hi0 (by omega), show 2 * (d + 1) + 1 = (2 * d + 1 + 1) + 1 by omega]
    simp only [redlineref05_Check.l0, rcount_some, Option.bind_some]
    rw [if_pos (by omega), if_pos hi0]
    generalize hc : rd_T54 l0 i = c
    simp only [decide_eq_true_eq]
    have J : ∀ (bb : Bool), redlineref05_Check.j2 (2 * d + 2) l0 n m a b i bb c.f0 c.f1 c.f2 c.f3 = if bb = true then (some 50) else (if (wrap64 (c.f0 - a)) = (wrap64 (c.f2 - b)) then (if c.f0 < a then (some 50) else (if i > 0 then (if c.f0 = a then (some 50) else (redlineref05_Check.l0 (2 * d + 1) l0 n m (wrap64 (c.f0 + c.f1)) (wrap64 (c.f2 + c.f3)) (wrap64 (i + 1)))) else (redlineref05_Check.l0 (2 * d + 1) l0 n m (wrap64 (c.f0 + c.f1)) (wrap64 (c.f2 + c.f3)) (wrap64 (i + 1))))) else (some 50)) := by
      intro bb
      rw [redlineref05_Check.j2]
    unfold chkG
    by_cases g0 : Cnt c.f0
    rotate_left
    · rw [if_neg g0, J, if_pos rfl, if_pos (fun h => g0 h.1)]
    by_cases g1 : Cnt c.f1
    rotate_left
    · rw [if_pos g0, if_neg g1, J, if_pos rfl, if_pos (fun h => g1 h.2.1)]
    by_cases g2 : Cnt c.f2
    rotate_left
    · rw [if_pos g0, if_pos g1, if_neg g2, J, if_pos rfl, if_pos (fun h => g2 h.2.2.1)]
    by_cases g3 : Cnt c.f3
    rotate_left
    · rw [if_pos g0, if_pos g1, if_pos g2, if_neg g3, J, if_pos rfl, if_pos (fun h => g3 h.2.2.2)]
    rw [if_pos g0, if_pos g1, if_pos g2, if_pos g3, if_neg (not_not_intro ⟨g0, g1, g2, g3⟩ : ¬ ¬ Chg c), J]
    obtain ⟨x0, x1⟩ := g0
    obtain ⟨y0, y1⟩ := g1
    obtain ⟨z0, z1⟩ := g2
    obtain ⟨t0, t1⟩ := g3
    rw [w64 (show -9223372036854775808 ≤ c.f0 - a by omega) (by omega), w64 (show -9223372036854775808 ≤ c.f2 - b by omega) (by omega), w64 (show -9223372036854775808 ≤ c.f0 + c.f1 by omega) (by omega),
      w64 (show -9223372036854775808 ≤ c.f2 + c.f3 by omega) (by omega), w64 (show -9223372036854775808 ≤ i + 1 by omega) (by omega), w64 (show -9223372036854775808 ≤ c.f1 + c.f3 by omega) (by omega),
      ih (i + 1) _ _ (by omega) (by omega) (by omega) (by omega) (by omega) (by omega), show decide (i + 1 = 0) = false from decide_eq_false (by omega)]
    have e0 : (c.f1 + c.f3 == 0) = true ↔ (c.f1 = 0 ∧ c.f3 = 0) := by rw [beq_iff_eq]; omega
    have e3 : decide (i = 0) = false ↔ i > 0 := by rw [decide_eq_false_iff_not]; omega
    simp only [e0, e3]
    by_cases k1 : c.f1 = 0 ∧ c.f3 = 0
    · simp [k1]
    · by_cases h1 : c.f0 < a
      · by_cases h4 : c.f0 - a = c.f2 - b <;> simp [k1, h1, h4]
      · by_cases h2 : i > 0
        · by_cases h3 : c.f0 = a
          · by_cases h4 : c.f0 - a = c.f2 - b <;> simp [k1, h1, h2, h3, h4]
          · by_cases h4 : c.f0 - a = c.f2 - b <;> simp [k1, h1, h2, h3, h4]
        · by_cases h4 : c.f0 - a = c.f2 - b <;> simp [k1, h1, h2, h4]

theorem rcheck_f (l : List S54) (hl : l.length ≤ 9223372036854775806) (n m : Int) (hn : n ≤ 9223372036854775807) (hm : m ≤ 9223372036854775807) : redlineref05_Check.f (2 * l.length + 2) l n m = some (chk l n m) := by
  have h := rcheck_l0 l hl n m hn hm l.length 0 0 0 (by omega) (by omega) (by omega) (by omega) (by omega) (by omega)
  unfold redlineref05_Check.f
  rw [show 2 * l.length + 2 = (2 * l.length + 1) + 1 from rfl, redlineref05_Check.j0, redlineref05_Check.j0]
  by_cases h1 : n < 0
  · rw [if_pos h1, if_pos rfl, chk, chkG_neg n m (.inl h1) l true 0 0 (by omega) (by omega)]
  · rw [if_neg h1]
    by_cases h2 : m < 0
    · rw [if_pos (by simpa using h2), chk, chkG_neg n m (.inr h2) l true 0 0 (by omega) (by omega)]
    · rw [if_neg (by simpa using h2), h]
      rfl
end Go.Proofs.Ytpkhfeeelkhkaaa.X
