/-
  LinesJoin, the plain law: program and reference make the same text of a list and look at it alike; for lists of at most 1048576 strings and bytes.
-/
import Derived.Test.YtkodamaoklaibaaX37
import Derived.Lib.IndexLaws
import Derived.Lib.LazyBuf
namespace Go.Proofs.Ytkodamaoklaibaa.X
open Go.RowKit Go.Proofs.YtkodamaoklaibaaW.PrintWords Go.Proofs.YtkodamaoklaibaaW.PrintLast Go.Proofs.YtkodamaoklaibaaW.PrintMore

theorem jw64 (n : Int) (h : -9223372036854775808 ≤ n ∧ n ≤ 9223372036854775807) : wrap64 n = n := by unfold wrap64; omega
theorem mono_le {α : Type} {F : Nat → Option α} (h : ∀ k, LeO (F k) (F (k + 1))) {k k' : Nat} (hk : k ≤ k') {r : α} (e : F k = some r) : F k' = some r := by
  induction hk with
  | refl => exact e
  | step _ ih => exact h _ _ ih
theorem rdOf_at (l : List ByteArray) (i : Nat) (h : i < l.length) : rdOf ByteArray.empty l i = l[i] := by
  unfold rdOf
  rw [Int.toNat_natCast, List.getD_eq_getElem?_getD, List.getElem?_eq_getElem h]
  rfl
theorem jbt (a : ByteArray) (i : Nat) (c : UInt8) (h : i < a.size) : bt a i = (c.toNat : Int) ↔ a.data.toList[i]? = some c := by
  have hl : i < a.data.toList.length := h
  have e : bt a i = ((a.data.toList[i]'hl).toNat : Int) := by simp [bt, h, ByteArray.getElem_eq_getElem_data]
  rw [e, List.getElem?_eq_getElem hl, Option.some.injEq]
  exact ⟨fun e => UInt8.toNat.inj (by omega), fun e => by rw [e]⟩

/-- How much a list holds. -/
def bulk (l : List ByteArray) : Nat := (l.map (·.size)).sum
theorem size_le_bulk {l : List ByteArray} {s : ByteArray} (h : s ∈ l) : s.size ≤ bulk l := by
  induction l with
  | nil => cases h
  | cons x l ih =>
    rcases List.mem_cons.1 h with rfl | h
    · simp [bulk]
    · have := ih h
      simp only [bulk, List.map_cons, List.sum_cons] at this ⊢
      omega

/-! ### the text -/
theorem join_flat (l : List ByteArray) : Lib.join (l.map (·.data.toList)) [] = (l.map (·.data.toList)).flatten := by
  unfold Lib.join List.intercalate
  induction l with
  | nil => rfl
  | cons x l ih =>
    cases l with
    | nil => simp
    | cons y l =>
      simp only [List.map_cons, List.intersperse_cons_cons, List.flatten_cons, List.nil_append] at ih ⊢
      rw [ih]
theorem flat_length (l : List ByteArray) : ((l.map (·.data.toList)).flatten).length = bulk l := by
  rw [List.length_flatten, List.map_map]
  rfl
theorem join_run (l : List ByteArray) (h1 : l.length ≤ 1048576) (h2 : bulk l ≤ 1048576) : lines_Join.f l = some ⟨((l.map (·.data.toList)).flatten).toArray⟩ := by
  unfold lines_Join.f strings_Join.f
  rw [show ((⟨#[]⟩ : ByteArray).data.toList) = [] from rfl, join_flat, flat_length, if_pos ⟨by omega, by omega⟩]
  rfl
theorem take_one {α : Type} (l : List α) (i : Nat) (h : i < l.length) : l.take (i + 1) = l.take i ++ [l[i]] := by
  rw [List.take_add_one, List.getElem?_eq_getElem h]
  rfl
theorem bulk_take (l : List ByteArray) (i : Nat) (h : i < l.length) : bulk (l.take (i + 1)) = bulk (l.take i) + l[i].size := by
  simp only [bulk, take_one l i h, List.map_append, List.sum_append, List.map_cons, List.map_nil, List.sum_cons, List.sum_nil]
  omega
theorem bulk_take_le (l : List ByteArray) (i : Nat) : bulk (l.take i) ≤ bulk l := by
  have : bulk (l.take i) + bulk (l.drop i) = bulk l := by
    unfold bulk
    rw [← List.sum_append, ← List.map_append, List.take_append_drop]
  omega
theorem join_ref (l : List ByteArray) (h1 : l.length ≤ 1048576) (h2 : bulk l ≤ 1048576) (d : Nat) : ∀ i : Nat, i + d = l.length →
    redlineref02_Join.l0 (d + 1) l (((l.take i).map (·.data.toList)).flatten.map fun b => (b.toNat : Int)) i = some ⟨((l.map (·.data.toList)).flatten).toArray⟩ := by
  induction d with
  | zero =>
    intro i hi
    rw [redlineref02_Join.l0, if_neg (by omega), List.take_of_length_le (by omega), Lib.Lz.strOfNums_map]
  | succ d ih =>
    intro i hi
    have hl : i < l.length := by omega
    have hb := bulk_take l i hl
    have hb2 := bulk_take_le l (i + 1)
    have hs : ((((l.take i).map (·.data.toList)).flatten.map fun b => (b.toNat : Int)).length + (l[i]).size < 140737488355328) := by
      rw [List.length_map, flat_length]
      omega
    have he : ((((l.take i).map (·.data.toList)).flatten.map fun b => (b.toNat : Int)) ++ bytesOf l[i]) = (((l.take (i + 1)).map (·.data.toList)).flatten.map fun b => (b.toNat : Int)) := by
      simp only [take_one l i hl, List.map_append, List.flatten_append, List.map_cons, List.map_nil, List.flatten_cons, List.flatten_nil, List.append_nil, bytesOf]
    rw [redlineref02_Join.l0, if_pos (by omega), if_pos (by omega), rdOf_at l i hl, if_pos hs, he, jw64 _ (by omega), show (i : Int) + 1 = ((i + 1 : Nat) : Int) by omega]
    exact ih (i + 1) (by omega)

/-! ### the look -/
/-- What is wrong with a line. -/
def bad (s : ByteArray) (last : Bool) : Prop := s.size = 0 ∨ (∃ k, k + 1 < s.size ∧ s.data.toList[k]? = some 10) ∨ (last = false ∧ s.data.toList[s.size - 1]? ≠ some 10)
theorem bad_index (s : ByteArray) (last : Bool) (h0 : s.size ≠ 0) : bad s last ↔ (0 ≤ Lib.indexByte s.data.toList 10 ∧ Lib.indexByte s.data.toList 10 ≠ (s.size : Int) - 1) ∨ (Lib.indexByte s.data.toList 10 < 0 ∧ last = false) := by
  have hge := Lib.indexByte_ge s.data.toList 10
  unfold bad
  by_cases hn : Lib.indexByte s.data.toList 10 < 0
  · have h1 := Lib.indexByte_none (show Lib.indexByte s.data.toList 10 = -1 by omega)
    constructor
    · rintro (h | ⟨k, hk, e⟩ | ⟨h, _⟩)
      · exact absurd h h0
      · exact absurd e (h1 k)
      · exact .inr ⟨hn, h⟩
    · rintro (⟨h, _⟩ | ⟨_, h⟩)
      · omega
      · exact .inr (.inr ⟨h, h1 _⟩)
  · obtain ⟨o, ho⟩ : ∃ o : Nat, Lib.indexByte s.data.toList 10 = o := ⟨(Lib.indexByte s.data.toList 10).toNat, by omega⟩
    obtain ⟨h1, h2⟩ := Lib.indexByte_some ho
    have hos : o < s.size := (List.getElem?_eq_some_iff.1 h1).1
    rw [ho]
    constructor
    · rintro (h | ⟨k, hk, e⟩ | ⟨h, e⟩)
      · exact absurd h h0
      · refine .inl ⟨by omega, fun he => h2 k (by omega) e⟩
      · refine .inl ⟨by omega, fun he => e ?_⟩
        rw [show s.size - 1 = o by omega]
        exact h1
    · rintro (⟨_, h⟩ | ⟨h, _⟩)
      · exact .inr (.inl ⟨o, by omega, h1⟩)
      · omega

theorem idx_run (s : ByteArray) : strings_Index.f s ⟨#[10]⟩ = some (Lib.indexByte s.data.toList 10) := by
  unfold strings_Index.f
  rw [if_pos rfl]
theorem empty_list (s : ByteArray) : s.toList = [] ↔ s.size = 0 := by
  rw [Lib.toList_data]
  show _ ↔ s.data.toList.length = 0
  rw [List.length_eq_zero_iff]

open Classical in
theorem check_step (l : List ByteArray) (h1 : l.length ≤ 1048576) (hb : bulk l ≤ 1048576) (k i : Nat) (h : i < l.length) :
    lines_Check.l0 (k + 1) l l (l.length : Int) i = if bad l[i] (decide (i + 1 = l.length)) then some 6 else lines_Check.l0 k l l (l.length : Int) ((i + 1 : Nat) : Int) := by
  have hsz := size_le_bulk (List.getElem_mem h)
  have hge := Lib.indexByte_ge l[i].data.toList 10
  have e1 : wrap64 ((i : Int) + 1) = ((i + 1 : Nat) : Int) := by rw [jw64 _ (by omega)]; omega
  have e2 : wrap64 (((l[i].size : Nat) : Int) - 1) = ((l[i].size : Nat) : Int) - 1 := jw64 _ (by omega)
  have e3 : wrap64 (((l.length : Nat) : Int) - 1) = ((l.length : Nat) : Int) - 1 := jw64 _ (by omega)
  rw [lines_Check.l0, if_pos (by omega), if_pos (by omega), if_pos (by omega), rdOf_at l i h, idx_run, Option.bind_some, e1, e2, e3]
  by_cases h0 : l[i].size = 0
  · rw [if_pos ((empty_list _).2 h0), if_pos (.inl h0)]
  · rw [if_neg (fun e => h0 ((empty_list _).1 e))]
    have hbi := bad_index l[i] (decide (i + 1 = l.length)) h0
    generalize Lib.indexByte l[i].data.toList 10 = x at hbi hge ⊢
    have hlast : decide (i + 1 = l.length) = false ↔ ¬ (i : Int) = (l.length : Int) - 1 := by
      rw [decide_eq_false_iff_not]
      omega
    rw [hlast] at hbi
    by_cases hx : x ≥ 0
    · rw [if_pos hx]
      by_cases hx2 : x = (l[i].size : Int) - 1
      · rw [if_pos hx2, if_neg (by omega), if_neg (fun hb => by rcases hbi.1 hb with ⟨_, h⟩ | ⟨h, _⟩ <;> omega)]
      · rw [if_neg hx2, if_pos (hbi.2 (.inl ⟨hx, hx2⟩))]
    · rw [if_neg hx, if_pos (by omega)]
      by_cases hl : (i : Int) = (l.length : Int) - 1
      · rw [if_pos hl, if_neg (fun hb => by rcases hbi.1 hb with ⟨h, _⟩ | ⟨_, h⟩; omega; exact h hl)]
      · rw [if_neg hl, if_pos (hbi.2 (.inr ⟨by omega, hl⟩))]

open Classical in
theorem ref_inner (l : List ByteArray) (h1 : l.length ≤ 1048576) (hb : bulk l ≤ 1048576) (i : Nat) (h : i < l.length) (d : Nat) : ∀ j k : Nat, j + d = l[i].size - 1 → (∀ q, q < j → l[i].data.toList[q]? ≠ some 10) →
    redlineref02_Check.l1 (k + d + 1) l i j = if bad l[i] (decide (i + 1 = l.length)) then some 6 else redlineref02_Check.l0 k l ((i + 1 : Nat) : Int) := by
  have hsz := size_le_bulk (List.getElem_mem h)
  have e1 : wrap64 ((i : Int) + 1) = ((i + 1 : Nat) : Int) := by rw [jw64 _ (by omega)]; omega
  have e2 : wrap64 (((l[i].size : Nat) : Int) - 1) = ((l[i].size : Nat) : Int) - 1 := jw64 _ (by omega)
  have e3 : wrap64 (((l.length : Nat) : Int) - 1) = ((l.length : Nat) : Int) - 1 := jw64 _ (by omega)
  induction d with
  | zero =>
    intro j k hj hno
    rw [redlineref02_Check.l1, if_pos (by omega), if_pos (by omega), rdOf_at l i h, e2, e3, e1, if_neg (by omega)]
    by_cases h0 : l[i].size = 0
    · rw [if_pos (by omega), if_pos (.inl h0)]
    · have hj' : j = l[i].size - 1 := by omega
      rw [if_neg (by omega)]
      by_cases hl : (i : Int) < (l.length : Int) - 1
      · have hbt := jbt l[i] (l[i].size - 1) 10 (by omega)
        rw [show ((l[i].size - 1 : Nat) : Int) = (l[i].size : Int) - 1 by omega, show ((10 : UInt8).toNat : Int) = 10 from rfl] at hbt
        rw [if_pos hl, if_pos (by omega), if_pos (by omega)]
        by_cases hc : bt l[i] ((l[i].size : Int) - 1) = 10
        · rw [if_pos hc, if_neg]
          · rintro (hh | ⟨q, hq, e⟩ | ⟨_, e⟩)
            · exact h0 hh
            · exact hno q (by omega) e
            · exact e (hbt.1 hc)
        · rw [if_neg hc, if_pos]
          exact .inr (.inr ⟨by rw [decide_eq_false_iff_not]; omega, fun e => hc (hbt.2 e)⟩)
      · rw [if_neg hl, if_neg]
        rintro (hh | ⟨q, hq, e⟩ | ⟨e, _⟩)
        · exact h0 hh
        · exact hno q (by omega) e
        · rw [decide_eq_false_iff_not] at e
          omega
  | succ d ih =>
    intro j k hj hno
    have hbt := jbt l[i] j 10 (by omega)
    rw [show ((10 : UInt8).toNat : Int) = 10 from rfl] at hbt
    rw [redlineref02_Check.l1, if_pos (by omega), if_pos (by omega), rdOf_at l i h, e2, if_pos (by omega), if_pos (by omega), if_pos (by omega)]
    by_cases hc : bt l[i] j = 10
    · rw [if_pos hc, if_pos (.inr (.inl ⟨j, by omega, hbt.1 hc⟩))]
    · rw [if_neg hc, jw64 _ (by omega), show (j : Int) + 1 = ((j + 1 : Nat) : Int) by omega]
      refine ih (j + 1) k (by omega) ?_
      intro q hq
      rcases Nat.lt_succ_iff_lt_or_eq.1 hq with hq | rfl
      · exact hno q hq
      · exact fun e => hc (hbt.2 e)

open Classical in
theorem check_agree (l : List ByteArray) (h1 : l.length ≤ 1048576) (hb : bulk l ≤ 1048576) (d : Nat) : ∀ i : Nat, i + d = l.length → ∃ k r, lines_Check.l0 k l l (l.length : Int) i = some r ∧ redlineref02_Check.l0 k l i = some r := by
  induction d with
  | zero =>
    intro i hi
    refine ⟨1, 0, ?_, ?_⟩
    · rw [lines_Check.l0, if_neg (by omega)]
    · rw [redlineref02_Check.l0, if_neg (by omega)]
  | succ d ih =>
    intro i hi
    have h : i < l.length := by omega
    obtain ⟨k, r, e1, e2⟩ := ih (i + 1) (by omega)
    have hr : ∀ k, redlineref02_Check.l0 (k + (l[i].size - 1) + 1 + 1) l i = if bad l[i] (decide (i + 1 = l.length)) then some 6 else redlineref02_Check.l0 k l ((i + 1 : Nat) : Int) := by
      intro k
      rw [redlineref02_Check.l0, if_pos (by omega)]
      exact ref_inner l h1 hb i h (l[i].size - 1) 0 k (by omega) (fun q hq => by omega)
    by_cases hbad : bad l[i] (decide (i + 1 = l.length))
    · refine ⟨k + (l[i].size - 1) + 1 + 1, 6, ?_, ?_⟩
      · rw [check_step l h1 hb _ i h, if_pos hbad]
      · rw [hr, if_pos hbad]
    · refine ⟨k + (l[i].size - 1) + 1 + 1, r, ?_, ?_⟩
      · rw [check_step l h1 hb _ i h, if_neg hbad]
        exact mono_le (fun k => lines_Check.mono_l k _ _ _ _) (by omega) e1
      · rw [hr, if_neg hbad]
        exact e2

theorem same_run (l : List ByteArray) (h1 : l.length ≤ 1048576) (d : Nat) : ∀ i : Nat, i + d = l.length → redlineref01_SameStrings.l0 (d + 1) l l i = some true := by
  induction d with
  | zero =>
    intro i hi
    rw [redlineref01_SameStrings.l0, if_neg (by omega)]
  | succ d ih =>
    intro i hi
    rw [redlineref01_SameStrings.l0, if_pos (by omega), if_pos (by omega), if_pos (by omega), if_pos rfl, jw64 _ (by omega), show (i : Int) + 1 = ((i + 1 : Nat) : Int) by omega]
    exact ih (i + 1) (by omega)

/-- The law, of lists that are not too long. -/
theorem linesJoin_pure (l : List ByteArray) (h1 : l.length ≤ 1048576) (hb : bulk l ≤ 1048576) : ∃ k, redlinelaw02_LinesJoin.f k l = some true := by
  obtain ⟨k, r, e1, e2⟩ := check_agree l h1 hb l.length 0 (by omega)
  have e3 := join_run l h1 hb
  have e4 := join_ref l h1 hb l.length 0 (by omega)
  have e5 := same_run l h1 l.length 0 (by omega)
  refine ⟨k + l.length + 1, ?_⟩
  have f1 : lines_Check.f (k + l.length + 1) l = some r := mono_le (fun k => lines_Check.mono_l k _ _ _ _) (by omega) e1
  have f2 : redlineref02_Check.f (k + l.length + 1) l = some r := mono_le (fun k => (redlineref02_Check.mono_l k).1 _ _) (by omega) e2
  have f4 : redlineref02_Join.f (k + l.length + 1) l = some ⟨((l.map (·.data.toList)).flatten).toArray⟩ := mono_le (fun k => redlineref02_Join.mono_l k _ _ _) (by omega) e4
  have f5 : redlineref01_SameStrings.f (k + l.length + 1) l l = some true := by
    unfold redlineref01_SameStrings.f
    rw [if_pos rfl]
    exact mono_le (fun k => redlineref01_SameStrings.mono_l k _ _ _) (by omega) e5
  unfold redlinelaw02_LinesJoin.f
  simp only [Option.bind_some, List.length_nil, List.nil_append]
  rw [if_pos (by omega), e3, f4, Option.bind_some, Option.bind_some, if_pos rfl, f1, f2, Option.bind_some, Option.bind_some, if_pos rfl, f5]
  rfl
end Go.Proofs.Ytkodamaoklaibaa.X
