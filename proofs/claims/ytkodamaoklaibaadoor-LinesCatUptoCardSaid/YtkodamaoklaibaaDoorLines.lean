/-
  Lines over plain lists of bytes: taking apart, and the laws of it.
-/
import Derived.Lib.SplitLaws
import Derived.Lib.IndexLaws
namespace Go.Proofs.YtkodamaoklaibaaDoor.Z
set_option linter.unusedVariables false

/-- The lines of a text. -/
def linesL : List UInt8 → List (List UInt8)
  | [] => []
  | c :: s => if c = 10 then [10] :: linesL s else match linesL s with
    | [] => [[c]]
    | l :: r => (c :: l) :: r
/-- The pieces of SplitAfter: one more, behind the last line feed. -/
def cutL : List UInt8 → List (List UInt8)
  | [] => [[]]
  | c :: s => if c = 10 then [10] :: cutL s else match cutL s with
    | [] => [[c]]
    | l :: r => (c :: l) :: r

theorem lines_feed : ∀ (u v : List UInt8), (10 : UInt8) ∉ u → linesL (u ++ 10 :: v) = (u ++ [10]) :: linesL v
  | [], v, _ => by simp [linesL]
  | c :: u, v, h => by
    have h1 : c ≠ 10 := fun e => h (by simp [e])
    have h2 : (10 : UInt8) ∉ u := fun e => h (by simp [e])
    rw [List.cons_append, linesL, if_neg h1, lines_feed u v h2]
    rfl
theorem lines_none : ∀ (u : List UInt8), (10 : UInt8) ∉ u → u ≠ [] → linesL u = [u]
  | [], _, h => absurd rfl h
  | c :: u, h, _ => by
    have h1 : c ≠ 10 := fun e => h (by simp [e])
    have h2 : (10 : UInt8) ∉ u := fun e => h (by simp [e])
    rw [linesL, if_neg h1]
    cases u with
    | nil => rfl
    | cons d u => rw [lines_none (d :: u) h2 (by simp)]
theorem cut_feed : ∀ (u v : List UInt8), (10 : UInt8) ∉ u → cutL (u ++ 10 :: v) = (u ++ [10]) :: cutL v
  | [], v, _ => by simp [cutL]
  | c :: u, v, h => by
    have h1 : c ≠ 10 := fun e => h (by simp [e])
    have h2 : (10 : UInt8) ∉ u := fun e => h (by simp [e])
    rw [List.cons_append, cutL, if_neg h1, cut_feed u v h2]
    rfl
theorem cut_none : ∀ (u : List UInt8), (10 : UInt8) ∉ u → cutL u = [u]
  | [], _ => rfl
  | c :: u, h => by
    have h1 : c ≠ 10 := fun e => h (by simp [e])
    have h2 : (10 : UInt8) ∉ u := fun e => h (by simp [e])
    rw [cutL, if_neg h1, cut_none u h2]
theorem cut_ne : ∀ s : List UInt8, cutL s ≠ []
  | [] => by simp [cutL]
  | c :: s => by
    rw [cutL]
    split
    · simp
    · split <;> simp
/-- A text is without line feed, or it has a first one. -/
theorem feed_cases (s : List UInt8) : (10 : UInt8) ∉ s ∨ ∃ u v, s = u ++ 10 :: v ∧ (10 : UInt8) ∉ u := by
  by_cases h : (10 : UInt8) ∈ s
  · obtain ⟨u, v, e, hu⟩ := List.eq_append_cons_of_mem h
    exact .inr ⟨u, v, e, hu⟩
  · exact .inl h

/-- The pieces but an empty last one are the lines. -/
theorem lines_cut (n : Nat) : ∀ s : List UInt8, s.length ≤ n → ∃ (p : List (List UInt8)) (x : List UInt8), cutL s = p ++ [x] ∧ (linesL s = if x = [] then p else p ++ [x]) := by
  induction n with
  | zero =>
    intro s hs
    obtain rfl : s = [] := List.length_eq_zero_iff.1 (by omega)
    exact ⟨[], [], rfl, rfl⟩
  | succ n ih =>
    intro s hs
    rcases feed_cases s with h | ⟨u, v, rfl, hu⟩
    · by_cases h0 : s = []
      · subst h0
        exact ⟨[], [], rfl, rfl⟩
      · exact ⟨[], s, by rw [cut_none s h]; rfl, by rw [if_neg h0, lines_none s h h0]; rfl⟩
    · obtain ⟨p, x, e1, e2⟩ := ih v (by simp at hs; omega)
      refine ⟨(u ++ [10]) :: p, x, by rw [cut_feed u v hu, e1]; rfl, ?_⟩
      rw [lines_feed u v hu, e2]
      split <;> rfl

theorem indexByte_none : ∀ u : List UInt8, (10 : UInt8) ∉ u → Lib.indexByte u 10 = -1
  | [], _ => rfl
  | c :: u, h => by
    have h1 : (c == 10) = false := by rw [beq_eq_false_iff_ne]; exact fun e => h (by simp [e])
    have h2 : (10 : UInt8) ∉ u := fun e => h (by simp [e])
    rw [Lib.indexByte, indexByte_none u h2, h1]
    rfl
theorem indexByte_feed : ∀ (u v : List UInt8), (10 : UInt8) ∉ u → Lib.indexByte (u ++ 10 :: v) 10 = u.length
  | [], v, _ => by simp [Lib.indexByte]
  | c :: u, v, h => by
    have h1 : (c == 10) = false := by rw [beq_eq_false_iff_ne]; exact fun e => h (by simp [e])
    have h2 : (10 : UInt8) ∉ u := fun e => h (by simp [e])
    have ih := indexByte_feed u v h2
    have h3 : (((u.length : Nat) : Int) == -1) = false := by rw [beq_eq_false_iff_ne]; omega
    rw [List.cons_append, Lib.indexByte, h1, ih, h3]
    simp
/-- The library's cutting. -/
theorem splitK_cut (n : Nat) : ∀ s : List UInt8, s.length ≤ n → Lib.splitK [10] 1 (s.count 10) s = cutL s := by
  induction n with
  | zero =>
    intro s hs
    obtain rfl : s = [] := List.length_eq_zero_iff.1 (by omega)
    rfl
  | succ n ih =>
    intro s hs
    rcases feed_cases s with h | ⟨u, v, rfl, hu⟩
    · rw [List.count_eq_zero.2 h, cut_none s h]
      rfl
    · have e : (u ++ 10 :: v).count 10 = v.count 10 + 1 := by rw [List.count_append, List.count_eq_zero.2 hu, List.count_cons_self]; omega
      have hi : Lib.index (u ++ 10 :: v) [10] = u.length := by rw [Lib.index_one, indexByte_feed u v hu]
      rw [e, Lib.splitK, hi, if_neg (by simp), cut_feed u v hu, ← ih v (by simp at hs; omega)]
      congr 1
      · rw [Int.toNat_natCast, List.take_append, List.take_of_length_le (by omega)]
        simp
      · rw [Int.toNat_natCast]
        congr 1
        rw [show u.length + [(10 : UInt8)].length = (u ++ [(10 : UInt8)]).length by simp, show u ++ 10 :: v = (u ++ [10]) ++ v by simp, List.drop_left]

/-! ### lines make their text again -/
theorem join_lines (n : Nat) : ∀ s : List UInt8, s.length ≤ n → (linesL s).flatten = s := by
  induction n with
  | zero =>
    intro s hs
    obtain rfl : s = [] := List.length_eq_zero_iff.1 (by omega)
    rfl
  | succ n ih =>
    intro s hs
    rcases feed_cases s with h | ⟨u, v, rfl, hu⟩
    · by_cases h0 : s = []
      · subst h0; rfl
      · rw [lines_none s h h0]; simp
    · rw [lines_feed u v hu, List.flatten_cons, ih v (by simp at hs; omega)]
      simp
theorem lines_len (n : Nat) : ∀ s : List UInt8, s.length ≤ n → (linesL s).length ≤ s.length := by
  induction n with
  | zero =>
    intro s hs
    obtain rfl : s = [] := List.length_eq_zero_iff.1 (by omega)
    simp [linesL]
  | succ n ih =>
    intro s hs
    rcases feed_cases s with h | ⟨u, v, rfl, hu⟩
    · by_cases h0 : s = []
      · subst h0; simp [linesL]
      · rw [lines_none s h h0]
        have := List.length_pos_iff.2 h0
        simp
        omega
    · rw [lines_feed u v hu]
      have := ih v (by simp at hs; omega)
      simp
      omega
/-- A right line: its only line feed is at its end; one that is not the last has it. -/
def whole (l : List UInt8) : Prop := ∃ u, (10 : UInt8) ∉ u ∧ l = u ++ [10]
def open_ (l : List UInt8) : Prop := (10 : UInt8) ∉ l ∧ l ≠ []
def right : List (List UInt8) → Prop
  | [] => True
  | [l] => whole l ∨ open_ l
  | l :: m :: r => whole l ∧ right (m :: r)
theorem right_cons {l : List UInt8} {r : List (List UInt8)} (h : whole l) (hr : right r) : right (l :: r) := by
  cases r with
  | nil => exact .inl h
  | cons m r => exact ⟨h, hr⟩
theorem right_lines (n : Nat) : ∀ s : List UInt8, s.length ≤ n → right (linesL s) := by
  induction n with
  | zero =>
    intro s hs
    obtain rfl : s = [] := List.length_eq_zero_iff.1 (by omega)
    exact trivial
  | succ n ih =>
    intro s hs
    rcases feed_cases s with h | ⟨u, v, rfl, hu⟩
    · by_cases h0 : s = []
      · subst h0; exact trivial
      · rw [lines_none s h h0]
        exact .inr ⟨h, h0⟩
    · rw [lines_feed u v hu]
      exact right_cons ⟨u, hu, rfl⟩ (ih v (by simp at hs; omega))
theorem lines_join : ∀ l : List (List UInt8), right l → linesL l.flatten = l
  | [], _ => rfl
  | [l], h => by
    rw [List.flatten_cons, List.flatten_nil, List.append_nil]
    rcases h with ⟨u, hu, rfl⟩ | ⟨h1, h2⟩
    · rw [show u ++ [(10 : UInt8)] = u ++ 10 :: [] from rfl, lines_feed u [] hu]
      rfl
    · exact lines_none l h1 h2
  | l :: m :: r, h => by
    obtain ⟨⟨u, hu, rfl⟩, hr⟩ := h
    rw [List.flatten_cons, List.append_assoc, List.singleton_append, lines_feed u _ hu, lines_join (m :: r) hr]

/-! ### how many lines; the last one -/
/-- The line feeds of a text are its lines but an open last one. -/
theorem count_lines (n : Nat) : ∀ s : List UInt8, s.length ≤ n → (s = [] ∧ linesL s = []) ∨ ∃ p x, linesL s = p ++ [x] ∧ (x.getLast? = some 10 ∧ s.count 10 = p.length + 1 ∨ x.getLast? ≠ some 10 ∧ s.count 10 = p.length) := by
  induction n with
  | zero =>
    intro s hs
    exact .inl ⟨List.length_eq_zero_iff.1 (by omega), by rw [List.length_eq_zero_iff.1 (show s.length = 0 by omega)]; rfl⟩
  | succ n ih =>
    intro s hs
    rcases feed_cases s with h | ⟨u, v, rfl, hu⟩
    · by_cases h0 : s = []
      · subst h0; exact .inl ⟨rfl, rfl⟩
      · refine .inr ⟨[], s, by rw [lines_none s h h0]; rfl, .inr ⟨fun e => h (List.mem_of_getLast? e), by rw [List.count_eq_zero.2 h]; rfl⟩⟩
    · have e : (u ++ 10 :: v).count 10 = v.count 10 + 1 := by rw [List.count_append, List.count_eq_zero.2 hu, List.count_cons_self]; omega
      rw [lines_feed u v hu, e]
      right
      rcases ih v (by simp at hs; omega) with ⟨rfl, hv⟩ | ⟨p, x, e1, e2⟩
      · exact ⟨[], u ++ [10], by rw [hv]; rfl, .inl ⟨by simp, rfl⟩⟩
      · refine ⟨(u ++ [10]) :: p, x, by rw [e1]; rfl, ?_⟩
        rcases e2 with ⟨a, b⟩ | ⟨a, b⟩
        · exact .inl ⟨a, by rw [b]; rfl⟩
        · exact .inr ⟨a, by rw [b]; rfl⟩

/-! ### two texts, one behind the other -/
theorem lines_cat_feed (n : Nat) : ∀ a b : List UInt8, a.length ≤ n → (a = [] ∨ a.getLast? = some 10) → linesL (a ++ b) = linesL a ++ linesL b := by
  induction n with
  | zero =>
    intro a b hn _
    rw [List.length_eq_zero_iff.1 (show a.length = 0 by omega)]
    rfl
  | succ n ih =>
    intro a b hn h
    rcases feed_cases a with h1 | ⟨u, v, rfl, hu⟩
    · rcases h with rfl | h
      · rfl
      · exact absurd (List.mem_of_getLast? h) h1
    · rw [List.append_assoc, List.cons_append, lines_feed u _ hu, lines_feed u v hu, ih v b (by simp at hn; omega) ?_, List.cons_append]
      cases v with
      | nil => exact .inl rfl
      | cons c v =>
        right
        rcases h with h | h
        · simp at h
        · rw [List.getLast?_append, List.getLast?_cons_cons] at h
          simpa using h
theorem lines_first (b : List UInt8) (hb : b ≠ []) : ∃ y r, linesL b = y :: r := by
  rcases feed_cases b with h | ⟨u, v, rfl, hu⟩
  · exact ⟨_, _, lines_none b h hb⟩
  · exact ⟨_, _, lines_feed u v hu⟩
theorem lines_glue : ∀ (x b : List UInt8) (y : List UInt8) (r : List (List UInt8)), (10 : UInt8) ∉ x → linesL b = y :: r → linesL (x ++ b) = (x ++ y) :: r
  | [], b, y, r, _, h => h
  | c :: x, b, y, r, hx, h => by
    have h1 : c ≠ 10 := fun e => hx (by simp [e])
    have h2 : (10 : UInt8) ∉ x := fun e => hx (by simp [e])
    rw [List.cons_append, linesL, if_neg h1, lines_glue x b y r h2 h]
    rfl
theorem lines_cat_open (n : Nat) : ∀ a b : List UInt8, a.length ≤ n → a ≠ [] → a.getLast? ≠ some 10 → b ≠ [] →
    ∃ p x y r, linesL a = p ++ [x] ∧ linesL b = y :: r ∧ linesL (a ++ b) = p ++ ((x ++ y) :: r) := by
  induction n with
  | zero =>
    intro a b hn h0 _ _
    exact absurd (List.length_eq_zero_iff.1 (show a.length = 0 by omega)) h0
  | succ n ih =>
    intro a b hn h0 h hb
    rcases feed_cases a with h1 | ⟨u, v, rfl, hu⟩
    · obtain ⟨y, r, e⟩ := lines_first b hb
      exact ⟨[], a, y, r, lines_none a h1 h0, e, lines_glue a b y r h1 e⟩
    · have hv : v ≠ [] := by
        rintro rfl
        exact h (by simp)
      have hl : v.getLast? ≠ some 10 := by
        intro e
        apply h
        obtain ⟨c, v', rfl⟩ := List.exists_cons_of_ne_nil hv
        rw [List.getLast?_append, List.getLast?_cons_cons, e]
        rfl
      obtain ⟨p, x, y, r, e1, e2, e3⟩ := ih v b (by simp at hn; omega) hv hl hb
      refine ⟨(u ++ [10]) :: p, x, y, r, by rw [lines_feed u v hu, e1]; rfl, e2, ?_⟩
      rw [List.append_assoc, List.cons_append, lines_feed u _ hu, e3]
      rfl
end Go.Proofs.YtkodamaoklaibaaDoor.Z
