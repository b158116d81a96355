/-
  A script's kept lines told from both sides: each pair is met in both, and the costs are the same.
-/
import Derived.Test.YtpkhfeeelkhkaaaEReach
namespace Go.Proofs.Ytpkhfeeelkhkaaa.Y
open Go.RowKit Go.Proofs.Ytpkhfeeelkhkaaa.X Go.Proofs.YtpkhfeeelkhkaaaW.PrintWords Go.Proofs.YtpkhfeeelkhkaaaW.PrintLast Go.Proofs.YtpkhfeeelkhkaaaW.PrintMore
set_option linter.unusedVariables false

/-- How many numbers are told. -/
def cnt : List Int → Nat
  | [] => 0
  | k :: l => (if 0 ≤ k then 1 else 0) + cnt l
theorem cnt_append : ∀ xs ys : List Int, cnt (xs ++ ys) = cnt xs + cnt ys
  | [], ys => by simp [cnt]
  | x :: xs, ys => by rw [List.cons_append, cnt, cnt, cnt_append xs ys]; omega
theorem cnt_rep : ∀ n : Nat, cnt (List.replicate n (-1)) = 0
  | 0 => rfl
  | n + 1 => by rw [List.replicate_succ, cnt, cnt_rep n]; simp
theorem cnt_run_nat (b : Int) (h : 0 ≤ b) : ∀ n : Nat, cnt (run b (n : Int)) = n
  | 0 => rfl
  | n + 1 => by
    rw [show ((n + 1 : Nat) : Int) = (n : Int) + 1 by omega, run_succ b n (by omega), cnt_append, cnt_run_nat b h n, cnt, cnt, if_pos (by omega)]
theorem cnt_run (b n : Int) (h : 0 ≤ b) (hn : 0 ≤ n) : cnt (run b n) = n.toNat := by
  obtain ⟨k, rfl⟩ : ∃ k : Nat, n = (k : Int) := ⟨n.toNat, by omega⟩
  rw [cnt_run_nat b h k]
  omega
def sA : List S54 → Int
  | [] => 0
  | c :: l => c.f1 + sA l
def sB : List S54 → Int
  | [] => 0
  | c :: l => c.f3 + sB l
theorem sA_inv : ∀ l : List S54, sA (l.map inv1) = sB l
  | [] => rfl
  | c :: l => by rw [List.map_cons, sA, sB, sA_inv l]; rfl
theorem sB_inv : ∀ l : List S54, sB (l.map inv1) = sA l
  | [] => rfl
  | c :: l => by rw [List.map_cons, sB, sA, sB_inv l]; rfl
theorem keep_cons (c : S54) (l : List S54) (n a b : Int) (h : a ≤ c.f0) : keepOf (pieces (c :: l) n a b) = run b (c.f0 - a) ++ (List.replicate c.f1.toNat (-1) ++ keepOf (pieces l n (c.f0 + c.f1) (c.f2 + c.f3))) := by
  simp only [pieces]
  rw [keepOf_append, keepOf_gap a b c.f0 h, keepOf_cons, keep1_out]
theorem rd_rep (n i : Nat) (ys : List Int) (h : i < n) : rd (List.replicate n (-1) ++ ys) (i : Int) = -1 := by
  rw [rd_left _ _ i (by simpa using h)]
  unfold rd
  rw [Int.toNat_natCast, List.getD_eq_getElem?_getD, List.getElem?_replicate, if_pos h]
  rfl

theorem back_script (n m : Int) : ∀ (l : List S54) (fst : Bool) (a b : Int), 0 ≤ a → 0 ≤ b → chkG l fst n m a b = 0 →
    ((keepOf (pieces l n a b)).length : Int) = n - a ∧ ((keepOf (pieces (l.map inv1) m b a)).length : Int) = m - b ∧ cnt (keepOf (pieces l n a b)) = cnt (keepOf (pieces (l.map inv1) m b a)) ∧
    ((keepOf (pieces l n a b)).length : Int) = cnt (keepOf (pieces l n a b)) + sA l ∧ ((keepOf (pieces (l.map inv1) m b a)).length : Int) = cnt (keepOf (pieces (l.map inv1) m b a)) + sB l ∧
    ∀ i : Nat, i < (keepOf (pieces l n a b)).length → 0 ≤ rd (keepOf (pieces l n a b)) (i : Int) →
      ∃ j : Nat, rd (keepOf (pieces l n a b)) (i : Int) = b + j ∧ j < (keepOf (pieces (l.map inv1) m b a)).length ∧ rd (keepOf (pieces (l.map inv1) m b a)) (j : Int) = a + i
  | [], fst, a, b, h0, h1, h => by
    obtain ⟨g1, g2, g3⟩ := chkG_nil h
    simp only [List.map_nil, pieces]
    rw [keepOf_gap a b n g1, keepOf_gap b a m g2, run_length, run_length, cnt_run b _ h1 (by omega), cnt_run a _ h0 (by omega)]
    refine ⟨by omega, by omega, by omega, by simp only [sA]; omega, by simp only [sB]; omega, fun i hi _ => ⟨i, ?_, by omega, ?_⟩⟩
    · rw [rd_run b (n - a) i (by omega)]
    · rw [rd_run a (m - b) i (by omega)]
  | c :: l, fst, a, b, h0, h1, h => by
    obtain ⟨⟨⟨x0, x1⟩, ⟨y0, y1⟩, ⟨z0, z1⟩, ⟨t0, t1⟩⟩, h2, h3, h4, h5, h6⟩ := chkG_cons h
    obtain ⟨i1, i2, i3, i4, i5, i6⟩ := back_script n m l false (c.f0 + c.f1) (c.f2 + c.f3) (by omega) (by omega) h6
    have e1 := keep_cons c l n a b h3
    have e2 := keep_cons (inv1 c) (l.map inv1) m b a (by show b ≤ c.f2; omega)
    rw [show (inv1 c).f0 = c.f2 from rfl, show (inv1 c).f1 = c.f3 from rfl, show (inv1 c).f2 = c.f0 from rfl, show (inv1 c).f3 = c.f1 from rfl] at e2
    rw [List.map_cons, e1, e2]
    generalize keepOf (pieces l n (c.f0 + c.f1) (c.f2 + c.f3)) = K at i1 i3 i4 i6 ⊢
    generalize keepOf (pieces (l.map inv1) m (c.f2 + c.f3) (c.f0 + c.f1)) = B at i2 i3 i5 i6 ⊢
    have r1 : (run b (c.f0 - a)).length = (c.f0 - a).toNat := run_length _ _
    have r2 : (run a (c.f2 - b)).length = (c.f2 - b).toNat := run_length _ _
    have q1 := cnt_run b (c.f0 - a) h1 (by omega)
    have q2 := cnt_run a (c.f2 - b) h0 (by omega)
    refine ⟨?_, ?_, ?_, ?_, ?_, ?_⟩
    · rw [List.length_append, List.length_append, List.length_replicate, r1]; omega
    · rw [List.length_append, List.length_append, List.length_replicate, r2]; omega
    · rw [cnt_append, cnt_append, cnt_append, cnt_append, cnt_rep, cnt_rep, q1, q2]; omega
    · rw [List.length_append, List.length_append, List.length_replicate, r1, cnt_append, cnt_append, cnt_rep, q1, sA]; omega
    · rw [List.length_append, List.length_append, List.length_replicate, r2, cnt_append, cnt_append, cnt_rep, q2, sB]; omega
    · intro i hi hr
      rw [List.length_append, List.length_append, List.length_replicate, r1] at hi
      by_cases c1 : i < (c.f0 - a).toNat
      · refine ⟨i, ?_, ?_, ?_⟩
        · rw [rd_left _ _ i (by omega), rd_run b (c.f0 - a) i (by omega)]
        · rw [List.length_append, r2]; omega
        · rw [rd_left _ _ i (by omega), rd_run a (c.f2 - b) i (by omega)]
      · obtain ⟨i', rfl⟩ : ∃ i', i = (run b (c.f0 - a)).length + i' := ⟨i - (run b (c.f0 - a)).length, by omega⟩
        rw [rd_right] at hr ⊢
        by_cases c2 : i' < c.f1.toNat
        · rw [rd_rep _ _ _ c2] at hr
          omega
        · obtain ⟨i2', rfl⟩ : ∃ i2', i' = (List.replicate c.f1.toNat (-1 : Int)).length + i2' := ⟨i' - (List.replicate c.f1.toNat (-1 : Int)).length, by rw [List.length_replicate]; omega⟩
          rw [rd_right] at hr ⊢
          obtain ⟨j, g1, g2, g3⟩ := i6 i2' (by rw [List.length_replicate] at hi; omega) hr
          refine ⟨(run a (c.f2 - b)).length + ((List.replicate c.f3.toNat (-1 : Int)).length + j), ?_, ?_, ?_⟩
          · rw [g1, r2, List.length_replicate]; omega
          · rw [List.length_append, List.length_append]; omega
          · rw [rd_right, rd_right, g3, r1, List.length_replicate]; omega

theorem cost_sum (n m : Int) : ∀ (l : List S54) (fst : Bool) (a b c : Int), chkG l fst n m a b = 0 → 0 ≤ a → 0 ≤ b → 0 ≤ c → c + (n - a) + (m - b) ≤ 2147483647 → costG l c = c + sA l + sB l ∧ 0 ≤ sA l ∧ 0 ≤ sB l ∧ sA l ≤ n - a ∧ sB l ≤ m - b
  | [], fst, a, b, c, h, h0, h1, h2, h3 => by
    obtain ⟨g1, g2, g3⟩ := chkG_nil h
    simp only [costG, sA, sB]
    omega
  | x :: l, fst, a, b, c, h, h0, h1, h2, h3 => by
    obtain ⟨⟨⟨x0, x1⟩, ⟨y0, y1⟩, ⟨z0, z1⟩, ⟨t0, t1⟩⟩, h2', h3', h4, h5, h6⟩ := chkG_cons h
    obtain ⟨_, j1, j2, j3, j4⟩ := cost_sum n m l false (x.f0 + x.f1) (x.f2 + x.f3) 0 h6 (by omega) (by omega) (by omega) (by omega)
    obtain ⟨i1, _⟩ := cost_sum n m l false (x.f0 + x.f1) (x.f2 + x.f3) (c + x.f1 + x.f3) h6 (by omega) (by omega) (by omega) (by omega)
    have s1 : costS c x.f1 = some (c + x.f1) := by
      unfold costS
      rw [if_neg (by omega)]
      split
      · rfl
      · rw [show x.f1 = 0 by omega]
    have s2 : costS (c + x.f1) x.f3 = some (c + x.f1 + x.f3) := by
      unfold costS
      rw [if_neg (by omega)]
      split
      · rfl
      · rw [show x.f3 = 0 by omega]
    refine ⟨?_, by simp only [sA]; omega, by simp only [sB]; omega, by simp only [sA]; omega, by simp only [sB]; omega⟩
    rw [costG, s1]
    dsimp only
    rw [s2]
    dsimp only
    rw [i1, sA, sB]
    omega
theorem inv_inv (l : List S54) : (l.map inv1).map inv1 = l := by
  rw [List.map_map]
  conv => rhs; rw [← List.map_id l]
  exact List.map_congr_left fun c _ => rfl
end Go.Proofs.Ytpkhfeeelkhkaaa.Y
