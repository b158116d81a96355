/-
  Laws of scripts over plain lists: Make and Keep are one another's inverse; lists of kept lines put one behind the other.
-/
import Derived.Test.YtpkhfeeelkhkaaaECompose
namespace Go.Proofs.Ytpkhfeeelkhkaaa.Y
open Go.RowKit Go.Proofs.Ytpkhfeeelkhkaaa.X Go.Proofs.YtpkhfeeelkhkaaaW.PrintWords Go.Proofs.YtpkhfeeelkhkaaaW.PrintLast Go.Proofs.YtpkhfeeelkhkaaaW.PrintMore
set_option linter.unusedVariables false

theorem fuel_le {α : Type} {F : Nat → Option α} (h : ∀ k, LeO (F k) (F (k + 1))) {k k' : Nat} (hk : k ≤ k') {r : α} (e : F k = some r) : F k' = some r := by
  induction hk with
  | refl => exact e
  | step _ ih => exact h _ _ ih
theorem chkG_mk {c : S54} {l : List S54} {fst : Bool} {n m a b : Int} (h1 : Chg c) (h2 : ¬ (c.f1 = 0 ∧ c.f3 = 0)) (h3 : a ≤ c.f0) (h4 : fst = false → a < c.f0) (h5 : c.f0 - a = c.f2 - b) (h6 : chkG l false n m (c.f0 + c.f1) (c.f2 + c.f3) = 0) :
    chkG (c :: l) fst n m a b = 0 := by
  unfold chkG
  rw [if_neg (not_not_intro h1), if_neg h2, if_neg (by omega), if_neg (fun h => by have := h4 h.1; omega), if_pos h5]
  exact h6
theorem chkG_nil_mk {fst : Bool} {n m a b : Int} (h1 : a ≤ n) (h2 : b ≤ m) (h3 : n - a = m - b) : chkG [] fst n m a b = 0 := by
  unfold chkG
  rw [if_neg (by omega), if_neg (by omega), if_pos h3]

theorem keep1_out (c : S54) : keep1 (c, false) = List.replicate c.f1.toNat (-1) := by
  unfold keep1
  simp [List.map_const']

theorem toNat_succ (i : Nat) : ((i : Int) + 1).toNat = i + 1 := by omega
theorem wrap_succ (i : Nat) (h : i ≤ 4398046511104) : wrap64 ((i : Int) + 1) = ((i + 1 : Nat) : Int) := by rw [w64 (by omega) (by omega)]; omega
/-- The lines that are kept rise, and lie in the second text. -/
def okM : List Int → Int → Int → Bool
  | [], _, _ => true
  | k :: l, b, m => if k = -1 then okM l b m else (decide (b ≤ k) && decide (k < m) && okM l (k + 1) m)
def buildM : List Int → Int → Int → Int → Int → List S54 → List S54
  | [], i, a, b, m, acc => reachL acc a b i m
  | k :: l, i, a, b, m, acc => if k = -1 then buildM l (i + 1) a b m acc else buildM l (i + 1) (i + 1) (k + 1) m (reachL acc a b i k)
theorem makeG_eq : ∀ (l : List Int) (i a b m : Int) (acc : List S54), makeG l i a b m acc = if okM l b m = true then (buildM l i a b m acc, 0) else ([], 50)
  | [], i, a, b, m, acc => by simp [makeG, okM, buildM]
  | k :: l, i, a, b, m, acc => by
    rw [makeG, okM, buildM]
    by_cases h1 : k = -1
    · rw [if_pos h1, if_pos h1, if_pos h1, makeG_eq l]
    · rw [if_neg h1, if_neg h1, if_neg h1]
      by_cases h2 : k < b ∨ m ≤ k
      · rw [if_pos h2, if_neg]
        simp only [Bool.and_eq_true, decide_eq_true_eq]
        rintro ⟨⟨h3, h4⟩, _⟩
        omega
      · rw [if_neg h2, makeG_eq l]
        have e1 : decide (b ≤ k) = true := by simp; omega
        have e2 : decide (k < m) = true := by simp; omega
        rw [e1, e2, Bool.true_and, Bool.true_and]

/-- The script of the rest alone. -/
def restM : List Int → Int → Int → Int → Int → List S54
  | [], i, a, b, m => reachL [] a b i m
  | k :: l, i, a, b, m => if k = -1 then restM l (i + 1) a b m else reachL [] a b i k ++ restM l (i + 1) (i + 1) (k + 1) m
theorem reachL_acc (acc : List S54) (a b i k : Int) : reachL acc a b i k = acc ++ reachL [] a b i k := by
  unfold reachL
  split <;> simp
theorem buildM_acc : ∀ (l : List Int) (i a b m : Int) (acc : List S54), buildM l i a b m acc = acc ++ restM l i a b m
  | [], i, a, b, m, acc => by rw [buildM, restM, reachL_acc]
  | k :: l, i, a, b, m, acc => by
    rw [buildM, restM]
    by_cases h : k = -1
    · rw [if_pos h, if_pos h, buildM_acc l]
    · rw [if_neg h, if_neg h, buildM_acc l, reachL_acc, List.append_assoc]

/-- Lines that are kept in a row. -/
def run (b len : Int) : List Int := (List.range len.toNat).map fun (i : Nat) => b + (i : Int)
theorem run_zero (b : Int) : run b 0 = [] := rfl
theorem run_one (b : Int) : run b 1 = [b] := by simp [run]
theorem run_succ (b len : Int) (h : 0 ≤ len) : run b (len + 1) = run b len ++ [b + len] := by
  unfold run
  rw [show (len + 1).toNat = len.toNat + 1 by omega, List.range_succ, List.map_append, List.map_cons, List.map_nil, Int.toNat_of_nonneg h]
theorem keep1_run (a len b bb : Int) : keep1 (⟨a, len, b, bb⟩, true) = run b len := by
  unfold keep1 run
  simp
theorem keepOf_gap (a0 b0 a : Int) (h : a0 ≤ a) : keepOf (if a0 < a then [((⟨a0, a - a0, b0, a - a0⟩ : S54), true)] else []) = run b0 (a - a0) := by
  split
  · show keep1 _ ++ [] = _
    rw [List.append_nil, keep1_run]
  · rw [show a - a0 = 0 by omega]
    rfl

theorem round_rest (n m : Int) (hn : n ≤ 2147483647) (hm : m ≤ 2147483647) : ∀ (l : List Int) (i a b a0 b0 : Int) (fst : Bool), i + l.length = n → 0 ≤ a0 → a0 ≤ a → a ≤ i → 0 ≤ b0 → b - b0 = a - a0 → b ≤ m → (fst = false → a0 < a) → okM l b m = true →
    chkG (restM l i a b m) fst n m a0 b0 = 0 ∧ keepOf (pieces (restM l i a b m) n a0 b0) = run b0 (a - a0) ++ (List.replicate (i - a).toNat (-1) ++ l)
  | [], i, a, b, a0, b0, fst, hi, h0, h1, h2, h3, h4, h5, h6, h7 => by
    have hin : i = n := by simpa using hi
    subst hin
    rw [restM]
    unfold reachL
    by_cases hc : a < i ∨ b < m
    · rw [if_pos hc, List.nil_append]
      have hend : chkG [] false i m (a + (i - a)) (b + (m - b)) = 0 := chkG_nil_mk (by omega) (by omega) (by omega)
      refine ⟨chkG_mk ⟨⟨by show 0 ≤ a; omega, by show a ≤ _; omega⟩, ⟨by show 0 ≤ i - a; omega, by show i - a ≤ _; omega⟩, ⟨by show 0 ≤ b; omega, by show b ≤ _; omega⟩, ⟨by show 0 ≤ m - b; omega, by show m - b ≤ _; omega⟩⟩ (by show ¬ (i - a = 0 ∧ m - b = 0); omega) h1 h6 (by show a - a0 = b - b0; omega) hend, ?_⟩
      simp only [pieces]
      rw [keepOf_append, keepOf_gap a0 b0 a h1, keepOf_cons, keep1_out, if_neg (by omega)]
      simp [keepOf]
    · rw [if_neg hc]
      have ha : a = i := by omega
      have hb : b = m := by omega
      refine ⟨chkG_nil_mk (by omega) (by omega) (by omega), ?_⟩
      simp only [pieces]
      rw [← ha, keepOf_gap a0 b0 a h1, show a - a = 0 by omega]
      simp
  | k :: l, i, a, b, a0, b0, fst, hi, h0, h1, h2, h3, h4, h5, h6, h7 => by
    have hi' : i + 1 + l.length = n := by rw [List.length_cons] at hi; omega
    rw [restM]
    rw [okM] at h7
    by_cases hk : k = -1
    · rw [if_pos hk] at h7
      rw [if_pos hk]
      obtain ⟨g1, g2⟩ := round_rest n m hn hm l (i + 1) a b a0 b0 fst hi' h0 h1 (by omega) h3 h4 h5 h6 h7
      refine ⟨g1, ?_⟩
      rw [g2, hk, show (i + 1 - a).toNat = (i - a).toNat + 1 by omega, List.replicate_succ', List.append_assoc]
      rfl
    · rw [if_neg hk, Bool.and_eq_true, Bool.and_eq_true, decide_eq_true_eq, decide_eq_true_eq] at h7
      obtain ⟨⟨e1, e2⟩, e3⟩ := h7
      rw [if_neg hk]
      unfold reachL
      by_cases hc : a < i ∨ b < k
      · rw [if_pos hc, List.nil_append, List.singleton_append]
        obtain ⟨g1, g2⟩ := round_rest n m hn hm l (i + 1) (i + 1) (k + 1) i k false hi' (by omega) (by omega) (by omega) (by omega) (by omega) (by omega) (fun _ => by omega) e3
        have q1 : a + (i - a) = i := by omega
        have q2 : b + (k - b) = k := by omega
        refine ⟨chkG_mk ⟨⟨by show 0 ≤ a; omega, by show a ≤ _; omega⟩, ⟨by show 0 ≤ i - a; omega, by show i - a ≤ _; omega⟩, ⟨by show 0 ≤ b; omega, by show b ≤ _; omega⟩, ⟨by show 0 ≤ k - b; omega, by show k - b ≤ _; omega⟩⟩ (by show ¬ (i - a = 0 ∧ k - b = 0); omega) h1 h6 (by show a - a0 = b - b0; omega) (by show chkG _ false n m (a + (i - a)) (b + (k - b)) = 0; rw [q1, q2]; exact g1), ?_⟩
        simp only [pieces]
        rw [keepOf_append, keepOf_gap a0 b0 a h1, keepOf_cons, keep1_out, q1, q2, g2, show i + 1 - i = 1 by omega, run_one, show i + 1 - (i + 1) = 0 by omega]
        simp
      · rw [if_neg hc, List.nil_append]
        have ha : a = i := by omega
        have hb : b = k := by omega
        obtain ⟨g1, g2⟩ := round_rest n m hn hm l (i + 1) (i + 1) (k + 1) a0 b0 fst hi' h0 (by omega) (by omega) h3 (by omega) (by omega) (fun hf => by have := h6 hf; omega) e3
        refine ⟨g1, ?_⟩
        rw [g2, ha, show i + 1 - a0 = (i - a0) + 1 by omega, run_succ b0 (i - a0) (by omega), show i + 1 - (i + 1) = 0 by omega, show i - i = 0 by omega, show b0 + (i - a0) = k by omega]
        simp

/-- The script of a rising list. -/
def scriptOf (l : List Int) (m : Int) : List S54 := restM l 0 0 0 m
theorem make_ok {l : List Int} {m : Int} (hl : l.length < 4398046511104) (h0 : 0 ≤ m) (hm : m ≤ 9223372036854775807) (hok : okM l 0 m = true) : edits_Make.f l m = some (scriptOf l m, 0) := by
  unfold edits_Make.f
  rw [if_pos ⟨hl, hm⟩, if_neg (by omega), makeG_eq, if_pos hok, buildM_acc, List.nil_append]
  rfl
theorem script_chk {l : List Int} {m : Int} (hl : (l.length : Int) ≤ 2147483647) (h0 : 0 ≤ m) (hm : m ≤ 2147483647) (hok : okM l 0 m = true) : chk (scriptOf l m) l.length m = 0 :=
  (round_rest l.length m hl hm l 0 0 0 0 0 true (by omega) (by omega) (by omega) (by omega) (by omega) (by omega) h0 (fun h => by cases h) hok).1
theorem script_keep {l : List Int} {m : Int} (hl : (l.length : Int) ≤ 2147483647) (h0 : 0 ≤ m) (hm : m ≤ 2147483647) (hok : okM l 0 m = true) : keepOf (pieces (scriptOf l m) l.length 0 0) = l := by
  have := (round_rest l.length m hl hm l 0 0 0 0 0 true (by omega) (by omega) (by omega) (by omega) (by omega) (by omega) h0 (fun h => by cases h) hok).2
  unfold scriptOf
  rw [this]
  simp [run]
theorem restM_length : ∀ (l : List Int) (i a b m : Int), (restM l i a b m).length ≤ l.length + 1
  | [], i, a, b, m => by
    have := reachL_length [] a b i m
    rw [restM]
    simpa using this.2
  | k :: l, i, a, b, m => by
    rw [restM, List.length_cons]
    by_cases h : k = -1
    · rw [if_pos h]
      have := restM_length l (i + 1) a b m
      omega
    · rw [if_neg h, List.length_append]
      have := restM_length l (i + 1) (i + 1) (k + 1) m
      have := (reachL_length [] a b i k).2
      simp only [List.length_nil] at this
      omega
/-- What is kept is told back. -/
theorem keep_script {l : List Int} {m : Int} (hl : (l.length : Int) ≤ 2147483647) (h0 : 0 ≤ m) (hm : m ≤ 2147483647) (hok : okM l 0 m = true) : edits_Keep.f (scriptOf l m) l.length m = some (l, 0) := by
  have hr := restM_length l 0 0 0 m
  unfold edits_Keep.f
  rw [if_pos ⟨by unfold scriptOf; omega, by omega, by omega⟩, if_pos (script_chk hl h0 hm hok), if_pos (by omega), script_keep hl h0 hm hok]

/-! ### One behind the other -/
theorem rd_cons (x : Int) (l : List Int) (j : Nat) : rd (x :: l) ((j + 1 : Nat) : Int) = rd l (j : Int) := by
  unfold rd
  simp
theorem rd_zero (x : Int) (l : List Int) : rd (x :: l) 0 = x := rfl
/-- In a rising list every number is none or lies between. -/
theorem ok_range : ∀ (l : List Int) (b m : Int), okM l b m = true → ∀ j : Nat, j < l.length → rd l (j : Int) = -1 ∨ (b ≤ rd l (j : Int) ∧ rd l (j : Int) < m)
  | [], b, m, _, j, hj => absurd hj (by simp)
  | k :: l, b, m, h, j, hj => by
    rw [okM] at h
    by_cases hk : k = -1
    · rw [if_pos hk] at h
      cases j with
      | zero => exact .inl hk
      | succ j =>
        rw [rd_cons]
        exact ok_range l b m h j (by simpa using hj)
    · rw [if_neg hk, Bool.and_eq_true, Bool.and_eq_true, decide_eq_true_eq, decide_eq_true_eq] at h
      obtain ⟨⟨h1, h2⟩, h3⟩ := h
      cases j with
      | zero => exact .inr ⟨h1, h2⟩
      | succ j =>
        rw [rd_cons]
        rcases ok_range l (k + 1) m h3 j (by simpa using hj) with g | ⟨g1, g2⟩
        · exact .inl g
        · exact .inr ⟨by omega, g2⟩
theorem ok_rise : ∀ (l : List Int) (b m : Int), okM l b m = true → ∀ i j : Nat, i < j → j < l.length → rd l (i : Int) ≠ -1 → rd l (j : Int) ≠ -1 → rd l (i : Int) < rd l (j : Int)
  | [], b, m, _, i, j, _, hj, _, _ => absurd hj (by simp)
  | k :: l, b, m, h, i, j, hij, hj, hi1, hj1 => by
    rw [okM] at h
    obtain ⟨j, rfl⟩ : ∃ j', j = j' + 1 := ⟨j - 1, by omega⟩
    rw [rd_cons] at hj1 ⊢
    have hjl : j < l.length := by simpa using hj
    by_cases hk : k = -1
    · rw [if_pos hk] at h
      cases i with
      | zero => exact absurd hk hi1
      | succ i =>
        rw [rd_cons] at hi1 ⊢
        exact ok_rise l b m h i j (by omega) hjl hi1 hj1
    · rw [if_neg hk, Bool.and_eq_true, Bool.and_eq_true, decide_eq_true_eq, decide_eq_true_eq] at h
      obtain ⟨⟨h1, h2⟩, h3⟩ := h
      cases i with
      | zero =>
        rcases ok_range l (k + 1) m h3 j hjl with g | ⟨g1, g2⟩
        · exact absurd g hj1
        · show k < _
          omega
      | succ i =>
        rw [rd_cons] at hi1 ⊢
        exact ok_rise l (k + 1) m h3 i j (by omega) hjl hi1 hj1
theorem comp_ok (q : List Int) (m : Int) (hq : okM q 0 m = true) : ∀ (p : List Int) (b B : Int), 0 ≤ b → okM p b q.length = true → (∀ j : Nat, b ≤ (j : Int) → j < q.length → rd q (j : Int) = -1 ∨ B ≤ rd q (j : Int)) → okM (p.map (thenL q)) B m = true
  | [], b, B, _, _, _ => rfl
  | k :: p, b, B, hb, h, hB => by
    rw [okM] at h
    rw [List.map_cons, okM]
    by_cases hk : k = -1
    · rw [if_pos hk] at h
      have : thenL q k = -1 := by unfold thenL; rw [if_neg (by omega), hk]
      rw [if_pos this]
      exact comp_ok q m hq p b B hb h hB
    · rw [if_neg hk, Bool.and_eq_true, Bool.and_eq_true, decide_eq_true_eq, decide_eq_true_eq] at h
      obtain ⟨⟨h1, h2⟩, h3⟩ := h
      have e : thenL q k = rd q k := by unfold thenL; rw [if_pos (by omega)]
      obtain ⟨j, hj⟩ : ∃ j : Nat, k = (j : Int) := ⟨k.toNat, by omega⟩
      subst hj
      have hjl : j < q.length := by omega
      rw [e]
      by_cases hv : rd q (j : Int) = -1
      · rw [if_pos hv]
        exact comp_ok q m hq p ((j : Int) + 1) B (by omega) h3 (fun i hi hil => hB i (by omega) hil)
      · rw [if_neg hv, Bool.and_eq_true, Bool.and_eq_true, decide_eq_true_eq, decide_eq_true_eq]
        have g1 := (hB j h1 hjl).resolve_left hv
        have g2 := ((ok_range q 0 m hq j hjl).resolve_left hv).2
        refine ⟨⟨g1, g2⟩, comp_ok q m hq p ((j : Int) + 1) (rd q (j : Int) + 1) (by omega) h3 (fun i hi hil => ?_)⟩
        by_cases hi2 : rd q (i : Int) = -1
        · exact .inl hi2
        · have := ok_rise q 0 m hq j i (by omega) hil hv hi2
          exact .inr (by omega)
theorem ok_mem {l : List Int} {b m : Int} (h : okM l b m = true) : ∀ t ∈ l, t = -1 ∨ (b ≤ t ∧ t < m) := by
  intro t ht
  obtain ⟨j, hj, rfl⟩ := List.getElem_of_mem ht
  have := ok_range l b m h j hj
  have e : rd l (j : Int) = l[j] := by
    unfold rd
    rw [Int.toNat_natCast, List.getD_eq_getElem?_getD, List.getElem?_eq_getElem hj]
    rfl
  rwa [e] at this
theorem comp_assoc (p q r : List Int) (hp : ∀ t ∈ p, t = -1 ∨ (0 ≤ t ∧ t < q.length)) : (p.map (thenL q)).map (thenL r) = p.map (thenL (q.map (thenL r))) := by
  rw [List.map_map]
  refine List.map_congr_left fun t ht => ?_
  show thenL r (thenL q t) = thenL (q.map (thenL r)) t
  rcases hp t ht with h | ⟨h1, h2⟩
  · subst h
    rfl
  · have e1 : thenL q t = rd q t := by unfold thenL; rw [if_pos h1]
    have e2 : thenL (q.map (thenL r)) t = rd (q.map (thenL r)) t := by unfold thenL; rw [if_pos h1]
    rw [e1, e2]
    unfold rd
    have hl : t.toNat < q.length := by omega
    rw [List.getD_eq_getElem?_getD, List.getD_eq_getElem?_getD, List.getElem?_map, List.getElem?_eq_getElem hl]
    rfl
theorem run_rd (n t : Int) (h0 : 0 ≤ t) (h1 : t < n) : rd (run 0 n) t = t := by
  unfold rd run
  rw [List.getD_eq_getElem?_getD, List.getElem?_map, List.getElem?_range (by omega)]
  simp
  omega
theorem run_length (b n : Int) : (run b n).length = n.toNat := by simp [run]
theorem comp_id (p : List Int) (n : Int) (hp : ∀ t ∈ p, t = -1 ∨ (0 ≤ t ∧ t < n)) : p.map (thenL (run 0 n)) = p := by
  conv => rhs; rw [← List.map_id p]
  refine List.map_congr_left fun t ht => ?_
  rcases hp t ht with h | ⟨h1, h2⟩
  · subst h
    rfl
  · unfold thenL
    rw [if_pos h1, run_rd n t h1 h2]
    rfl
theorem id_comp (p : List Int) : (run 0 p.length).map (thenL p) = p := by
  apply List.ext_getElem?
  intro i
  unfold run
  rw [List.getElem?_map, List.getElem?_map]
  by_cases h : i < p.length
  · rw [List.getElem?_range (by omega), List.getElem?_eq_getElem h]
    show some (thenL p (0 + (i : Int))) = _
    unfold thenL rd
    rw [Int.zero_add, if_pos (by omega), Int.toNat_natCast, List.getD_eq_getElem?_getD, List.getElem?_eq_getElem h]
    rfl
  · rw [List.getElem?_eq_none (by simp; omega), List.getElem?_eq_none (by omega)]
    rfl
theorem keep_none (n : Int) (h0 : 0 ≤ n) (hn : n ≤ 17592186044416) : edits_Keep.f [] n n = some (run 0 n, 0) := by
  have hc : chk [] n n = 0 := chkG_nil_mk h0 h0 rfl
  unfold edits_Keep.f
  rw [if_pos ⟨by simp, by omega, by omega⟩, if_pos hc, if_pos hn]
  simp only [pieces]
  have := keepOf_gap 0 0 n h0
  rw [show n - 0 = n by omega] at this
  rw [show n - 0 = n by omega, this]

/-- Putting scripts together puts what they keep together. -/
theorem compose_scripts {p q : List Int} {m : Int} (hp : (p.length : Int) ≤ 1000) (hq : (q.length : Int) ≤ 1000) (hm : m ≤ 1000) (h0 : 0 ≤ m) (okp : okM p 0 q.length = true) (okq : okM q 0 m = true) :
    edits_Compose.f (scriptOf p q.length) (scriptOf q m) p.length q.length m = some (scriptOf (p.map (thenL q)) m, 0) := by
  have k1 := keep_script (l := p) (m := q.length) (by omega) (by omega) (by omega) okp
  have k2 := keep_script (l := q) (m := m) (by omega) h0 (by omega) okq
  have okc := comp_ok q m okq p 0 0 (by omega) okp (fun j _ hj => by rcases ok_range q 0 m okq j hj with h | h; exact .inl h; exact .inr h.1)
  have hin : ∀ t ∈ p, t < (q.length : Int) := fun t ht => by rcases ok_mem okp t ht with h | h <;> omega
  unfold edits_Compose.f
  rw [k1, Option.bind_some]
  dsimp only
  rw [if_pos rfl, k2, Option.bind_some]
  dsimp only
  rw [if_pos rfl, if_pos hin, make_ok (by rw [List.length_map]; omega) h0 (by omega) okc]
theorem compose_none_right {p : List Int} {m : Int} (hp : (p.length : Int) ≤ 1000) (hm : m ≤ 1000) (h0 : 0 ≤ m) (okp : okM p 0 m = true) : edits_Compose.f (scriptOf p m) [] p.length m m = some (scriptOf p m, 0) := by
  have k1 := keep_script (l := p) (m := m) (by omega) h0 (by omega) okp
  have k2 := keep_none m h0 (by omega)
  have hin : ∀ t ∈ p, t < ((run 0 m).length : Int) := fun t ht => by rw [run_length]; rcases ok_mem okp t ht with h | h <;> omega
  have hid := comp_id p m (fun t ht => by rcases ok_mem okp t ht with h | h; exact .inl h; exact .inr h)
  unfold edits_Compose.f
  rw [k1, Option.bind_some]
  dsimp only
  rw [if_pos rfl, k2, Option.bind_some]
  dsimp only
  rw [if_pos rfl, if_pos hin, hid, make_ok (by omega) h0 (by omega) okp]
theorem compose_none_left {p : List Int} {m : Int} (hp : (p.length : Int) ≤ 1000) (hm : m ≤ 1000) (h0 : 0 ≤ m) (okp : okM p 0 m = true) : edits_Compose.f [] (scriptOf p m) p.length p.length m = some (scriptOf p m, 0) := by
  have k1 := keep_none p.length (by omega) (by omega)
  have k2 := keep_script (l := p) (m := m) (by omega) h0 (by omega) okp
  have hin : ∀ t ∈ run 0 (p.length : Int), t < (p.length : Int) := fun t ht => by
    unfold run at ht
    rw [List.mem_map] at ht
    obtain ⟨i, hi, rfl⟩ := ht
    rw [List.mem_range] at hi
    omega
  unfold edits_Compose.f
  rw [k1, Option.bind_some]
  dsimp only
  rw [if_pos rfl, k2, Option.bind_some]
  dsimp only
  rw [if_pos rfl, if_pos hin, id_comp, make_ok (by omega) h0 (by omega) okp]
end Go.Proofs.Ytpkhfeeelkhkaaa.Y
