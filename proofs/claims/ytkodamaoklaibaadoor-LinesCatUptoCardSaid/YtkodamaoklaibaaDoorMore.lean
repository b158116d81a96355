/-
  What the printed functions of the lines seat come to, second part: First, Check, Join, Bare, and the example of works.
-/
import Derived.Test.YtkodamaoklaibaaDoorRuns
import Derived.Test.YtkodamaoklaibaaDoorX23
import Derived.Test.YtkodamaoklaibaaDoorX28
import Derived.Test.YtkodamaoklaibaaDoorX38
namespace Go.Proofs.YtkodamaoklaibaaDoor.Z
open Go.RowKit Go.Proofs.YtkodamaoklaibaaDoor.X Go.Proofs.YtkodamaoklaibaaDoorW.PrintWords Go.Proofs.YtkodamaoklaibaaDoorW.PrintLast Go.Proofs.YtkodamaoklaibaaDoorW.PrintMore
set_option linter.unusedVariables false

/-! ### the first place in which two texts differ -/
def lcp : List UInt8 → List UInt8 → Nat
  | x :: a, y :: b => if x = y then lcp a b + 1 else 0
  | _, _ => 0
theorem lcp_comm : ∀ a b : List UInt8, lcp a b = lcp b a
  | [], [] => rfl
  | [], _ :: _ => rfl
  | _ :: _, [] => rfl
  | x :: a, y :: b => by
    unfold lcp
    by_cases h : x = y
    · rw [if_pos h, if_pos h.symm, lcp_comm a b]
    · rw [if_neg h, if_neg (fun e => h e.symm)]
theorem lcp_le : ∀ a b : List UInt8, lcp a b ≤ a.length
  | [], [] => Nat.le_refl _
  | [], _ :: _ => Nat.le_refl _
  | _ :: _, [] => Nat.zero_le _
  | x :: a, y :: b => by
    have := lcp_le a b
    unfold lcp
    split
    · simp; omega
    · omega
theorem lcp_take : ∀ a b : List UInt8, a.take (lcp a b) = b.take (lcp a b)
  | [], [] => rfl
  | [], _ :: _ => rfl
  | _ :: _, [] => rfl
  | x :: a, y :: b => by
    unfold lcp
    by_cases h : x = y
    · rw [if_pos h, List.take_succ_cons, List.take_succ_cons, lcp_take a b, h]
    · rw [if_neg h]; rfl
theorem lcp_same : ∀ (a b : List UInt8) (i : Nat), i < lcp a b → a[i]? = b[i]?
  | [], [], i, h => rfl
  | [], _ :: _, i, h => absurd h (Nat.not_lt_zero i)
  | _ :: _, [], i, h => absurd h (Nat.not_lt_zero i)
  | x :: a, y :: b, i, h => by
    unfold lcp at h
    by_cases e : x = y
    · rw [if_pos e] at h
      cases i with
      | zero => rw [e]; rfl
      | succ i =>
        have := lcp_same a b i (by omega)
        simpa using this
    · rw [if_neg e] at h
      exact absurd h (Nat.not_lt_zero i)
theorem lcp_diff : ∀ a b : List UInt8, lcp a b < a.length → lcp a b < b.length → a[lcp a b]? ≠ b[lcp a b]?
  | [], _, h, _ => absurd h (Nat.not_lt_zero _)
  | _ :: _, [], _, h => absurd h (Nat.not_lt_zero _)
  | x :: a, y :: b, h1, h2 => by
    unfold lcp at h1 h2 ⊢
    by_cases e : x = y
    · rw [if_pos e] at h1 h2 ⊢
      have := lcp_diff a b (by simpa using h1) (by simpa using h2)
      simpa using this
    · rw [if_neg e]
      simpa using e
theorem lcp_all : ∀ a b : List UInt8, lcp a b = a.length → lcp a b = b.length → a = b := by
  intro a b h1 h2
  have := lcp_take a b
  rw [List.take_of_length_le (by omega), List.take_of_length_le (by omega)] at this
  exact this

theorem bt_same (a b : ByteArray) (i : Nat) (h1 : i < a.size) (h2 : i < b.size) : bt a i = bt b i ↔ a.data.toList[i]? = b.data.toList[i]? := by
  have hl : i < b.data.toList.length := h2
  have e := (bt_list b i _ h2).2 (List.getElem?_eq_getElem hl)
  rw [e, bt_list a i _ h1, List.getElem?_eq_getElem hl]
theorem count_take (a : ByteArray) (i : Nat) : strings_Count.f (a.extract 0 ((i : Int)).toNat) ⟨#[10]⟩ = some (((a.data.toList.take i).count 10 : Nat) : Int) := by
  unfold strings_Count.f
  rw [if_pos rfl, Int.toNat_natCast, extract_list, List.drop_zero, toS_list]
  rfl
theorem mn_nat (a b : Nat) : mn (a : Int) (b : Int) = ((min a b : Nat) : Int) := by unfold mn; split <;> omega
theorem first_run (a b : ByteArray) (ha : a.size ≤ 4000000) (hb : b.size ≤ 4000000) (d : Nat) : ∀ i : Nat, i + d = lcp a.data.toList b.data.toList →
    lines_First.l0 (d + 1) a b i = some (((lcp a.data.toList b.data.toList + 1 : Nat) : Int), (((a.data.toList.take (lcp a.data.toList b.data.toList)).count 10 + 1 : Nat) : Int), true) := by
  have l1 : lcp a.data.toList b.data.toList ≤ a.size := lcp_le _ _
  have l2 : lcp a.data.toList b.data.toList ≤ b.size := by rw [lcp_comm]; exact lcp_le _ _
  have hd := lcp_diff a.data.toList b.data.toList
  have hsame := lcp_same a.data.toList b.data.toList
  rw [show a.data.toList.length = a.size from rfl, show b.data.toList.length = b.size from rfl] at hd
  generalize lcp a.data.toList b.data.toList = n at *
  have hcn : (a.data.toList.take n).count 10 ≤ n := Nat.le_trans List.count_le_length (by rw [List.length_take]; omega)
  induction d with
  | zero =>
    intro i hi
    obtain rfl : i = n := by omega
    have hw := wrap_succ i (by omega)
    have hw2 : wrap64 (1 + (((a.data.toList.take i).count 10 : Nat) : Int)) = (((a.data.toList.take i).count 10 + 1 : Nat) : Int) := by rw [w64 (by omega) (by omega)]; omega
    rw [lines_First.l0, mn_nat]
    by_cases hc : i < a.size ∧ i < b.size
    · have hne : ¬ bt a i = bt b i := fun e => hd hc.1 hc.2 ((bt_same a b i hc.1 hc.2).1 e)
      rw [if_pos (by omega), if_pos (by omega), if_pos (by omega), if_pos (by omega), if_neg hne, if_pos (by omega), count_take, Option.bind_some, hw, hw2]
    · rw [if_neg (by omega), if_pos (by omega), if_pos (by omega), count_take, Option.bind_some, hw, hw2]
  | succ d ih =>
    intro i hi
    rw [lines_First.l0, mn_nat, if_pos (by omega), if_pos (by omega), if_pos (by omega), if_pos (by omega), if_pos ((bt_same a b i (by omega) (by omega)).2 (hsame i (by omega))), wrap_succ i (by omega)]
    exact ih (i + 1) (by omega)
theorem first_eq (a b : ByteArray) (h : a.data.toList = b.data.toList) (k : Nat) : lines_First.f k a b = some (0, 0, false) := by
  unfold lines_First.f
  rw [if_pos (by rw [Lib.toList_data, Lib.toList_data, h])]
theorem first_ne (a b : ByteArray) (ha : a.size ≤ 4000000) (hb : b.size ≤ 4000000) (h : a.data.toList ≠ b.data.toList) (k : Nat) (hk : 4000001 ≤ k) :
    lines_First.f k a b = some (((lcp a.data.toList b.data.toList + 1 : Nat) : Int), (((a.data.toList.take (lcp a.data.toList b.data.toList)).count 10 + 1 : Nat) : Int), true) := by
  have l1 : lcp a.data.toList b.data.toList ≤ a.size := lcp_le _ _
  unfold lines_First.f
  rw [if_neg (by rw [Lib.toList_data, Lib.toList_data]; exact h)]
  exact fuel_le (fun k => lines_First.mono_l k _ _ _) (show lcp a.data.toList b.data.toList + 1 ≤ k by omega) (first_run a b ha hb (lcp a.data.toList b.data.toList) 0 (by omega))

/-! ### the look at lines -/
theorem whole_index {s : List UInt8} (h : whole s) : Lib.indexByte s 10 = (s.length : Int) - 1 := by
  obtain ⟨u, hu, rfl⟩ := h
  rw [indexByte_feed u [] hu]
  simp
theorem line_cases (s : List UInt8) : (Lib.indexByte s 10 = -1 ∧ (10 : UInt8) ∉ s) ∨ (0 ≤ Lib.indexByte s 10 ∧ Lib.indexByte s 10 ≠ (s.length : Int) - 1 ∧ ¬ whole s ∧ (10 : UInt8) ∈ s) ∨ (0 ≤ Lib.indexByte s 10 ∧ Lib.indexByte s 10 = (s.length : Int) - 1 ∧ whole s) := by
  rcases feed_cases s with h | ⟨u, v, rfl, hu⟩
  · exact .inl ⟨indexByte_none s h, h⟩
  · right
    have hi := indexByte_feed u v hu
    cases v with
    | nil => exact .inr ⟨by omega, by rw [hi]; simp, u, hu, rfl⟩
    | cons c v =>
      have hne : Lib.indexByte (u ++ 10 :: c :: v) 10 ≠ ((u ++ 10 :: c :: v).length : Int) - 1 := by
        rw [hi]
        simp
        omega
      exact .inl ⟨by omega, hne, fun hw => hne (whole_index hw), by simp⟩
theorem not_both {s : List UInt8} (h : (10 : UInt8) ∉ s) : ¬ whole s := by
  rintro ⟨u, hu, rfl⟩
  exact h (by simp)
theorem idx_run (s : ByteArray) : strings_Index.f s ⟨#[10]⟩ = some (Lib.indexByte s.data.toList 10) := by
  unfold strings_Index.f
  rw [if_pos rfl]
open Classical in
theorem check_run (l : List ByteArray) (hl : l.length ≤ 4000000) (hb : ∀ s ∈ l, s.size ≤ 4000000) (d : Nat) : ∀ i : Nat, i + d = l.length →
    lines_Check.l0 (d + 1) l l (l.length : Int) i = some (if right ((l.drop i).map (·.data.toList)) then 0 else 6) := by
  induction d with
  | zero =>
    intro i hi
    rw [lines_Check.l0, if_neg (by omega), List.drop_of_length_le (by omega), List.map_nil, if_pos (show right [] from trivial)]
  | succ d ih =>
    intro i hi
    have hil : i < l.length := by omega
    have hsz := hb l[i] (List.getElem_mem hil)
    have hw : wrap64 (((l[i].size : Nat) : Int) - 1) = ((l[i].size : Nat) : Int) - 1 := w64 (by omega) (by omega)
    have hw2 : wrap64 (((l.length : Nat) : Int) - 1) = ((l.length : Nat) : Int) - 1 := w64 (by omega) (by omega)
    rw [lines_Check.l0, if_pos (by omega), if_pos (by omega), if_pos (by omega), rdOf_at l i hil, idx_run, Option.bind_some, hw, hw2, wrap_succ i (by omega), List.drop_eq_getElem_cons hil, List.map_cons, Lib.toList_data]
    have ih' := ih (i + 1) (by omega)
    have hrest : (l.drop (i + 1)).map (·.data.toList) = [] ↔ (i : Int) = (l.length : Int) - 1 := by
      rw [List.map_eq_nil_iff, List.drop_eq_nil_iff]
      omega
    generalize (l.drop (i + 1)).map (·.data.toList) = R at ih' hrest ⊢
    have hs2 : ((l[i].size : Nat) : Int) = (l[i].data.toList.length : Int) := rfl
    rw [hs2]
    generalize l[i].data.toList = s
    by_cases h0 : s = []
    · subst h0
      rw [if_pos rfl, if_neg]
      cases R with
      | nil => rintro (⟨u, _, e⟩ | ⟨_, e⟩); simp at e; exact e rfl
      | cons m r => rintro ⟨⟨u, _, e⟩, _⟩; simp at e
    · rw [if_neg h0]
      rcases line_cases s with ⟨e1, e2⟩ | ⟨e1, e2, e3, e4⟩ | ⟨e1, e2, e3⟩
      · rw [if_neg (by omega), if_pos (by omega)]
        by_cases hlast : (i : Int) = (l.length : Int) - 1
        · have hR := hrest.2 hlast
          subst hR
          rw [if_pos hlast, ih', if_pos (show right [] from trivial), if_pos (show right [s] from .inr ⟨e2, h0⟩)]
        · rw [if_neg hlast, if_neg]
          cases R with
          | nil => exact absurd (hrest.1 rfl) hlast
          | cons m r => exact fun h => not_both e2 h.1
      · rw [if_pos e1, if_neg e2, if_neg]
        cases R with
        | nil => rintro (h | h); exact e3 h; exact h.1 e4
        | cons m r => exact fun h => e3 h.1
      · rw [if_pos e1, if_pos e2, if_neg (by omega), ih']
        have : right (s :: R) ↔ right R := by
          cases R with
          | nil => exact ⟨fun _ => trivial, fun _ => .inl e3⟩
          | cons m r => exact ⟨fun h => h.2, fun h => ⟨e3, h⟩⟩
        by_cases hr : right R
        · rw [if_pos hr, if_pos (this.2 hr)]
        · rw [if_neg hr, if_neg (fun h => hr (this.1 h))]
open Classical in
theorem check_f (l : List ByteArray) (hl : l.length ≤ 4000000) (hb : ∀ s ∈ l, s.size ≤ 4000000) (k : Nat) (hk : l.length + 1 ≤ k) : lines_Check.f k l = some (if right (l.map (·.data.toList)) then 0 else 6) := by
  unfold lines_Check.f
  have := check_run l hl hb l.length 0 (by omega)
  rw [List.drop_zero] at this
  exact fuel_le (fun k => lines_Check.mono_l k _ _ _ _) hk this

/-! ### putting together -/
theorem join_flat : ∀ l : List (List UInt8), Lib.join l [] = l.flatten := by
  intro l
  unfold Lib.join List.intercalate
  induction l with
  | nil => rfl
  | cons x l ih =>
    cases l with
    | nil => simp
    | cons y l =>
      simp only [List.intersperse_cons_cons, List.flatten_cons, List.nil_append] at ih ⊢
      rw [ih]
theorem join_f (l : List ByteArray) (h1 : l.length ≤ 4000000) (h2 : ((l.map (·.data.toList)).flatten).length ≤ 4000000) : lines_Join.f l = some (toS (l.map (·.data.toList)).flatten) := by
  unfold lines_Join.f strings_Join.f
  rw [show ((⟨#[]⟩ : ByteArray).data.toList) = [] from rfl, join_flat, if_pos ⟨by omega, by omega⟩]
  rfl

/-! ### a line's end -/
theorem bare_f (s : ByteArray) (hs : s.size ≤ 4000000) : ∃ r, lines_Bare.f s = some (r, decide (s.data.toList.getLast? = some 10)) := by
  have e1 : ((⟨#[10]⟩ : ByteArray).size : Int) = 1 := rfl
  have e2 : (⟨#[10]⟩ : ByteArray).toList = [10] := by rw [Lib.toList_data]
  have hlen : s.data.toList.length = s.size := rfl
  by_cases h0 : s.size = 0
  · have hn : s.data.toList = [] := List.length_eq_zero_iff.1 h0
    have hh : stringslite_HasSuffix.f s ⟨#[10]⟩ = some false := by
      unfold stringslite_HasSuffix.f
      rw [e1, if_neg (by omega)]
    refine ⟨s, ?_⟩
    unfold lines_Bare.f strings_CutSuffix.f stringslite_CutSuffix.f
    rw [hh, hn]
    rfl
  · have hw : wrap64 ((s.size : Int) - 1) = ((s.size - 1 : Nat) : Int) := by rw [w64 (by omega) (by omega)]; omega
    have hx : (s.extract (s.size - 1) s.size).toList = (s.data.toList.drop (s.size - 1)) := by
      rw [extract_list, toS_bytes, List.take_of_length_le (by rw [List.length_drop]; omega)]
    have hb : ((s.extract (s.size - 1) s.size).toList == [10]) = decide (s.data.toList.getLast? = some 10) := by
      rw [hx, List.getLast?_eq_getElem?, hlen, List.drop_eq_getElem_cons (by omega), List.drop_of_length_le (by omega), List.getElem?_eq_getElem (by omega)]
      generalize s.data.toList[s.size - 1]'(by omega) = c
      by_cases hc : c = 10
      · subst hc; rfl
      · have h1 : ([c] == [10]) = false := by rw [beq_eq_false_iff_ne]; simpa using hc
        rw [h1]
        symm
        rw [decide_eq_false_iff_not]
        simpa using hc
    have hh : stringslite_HasSuffix.f s ⟨#[10]⟩ = some (decide (s.data.toList.getLast? = some 10)) := by
      unfold stringslite_HasSuffix.f
      rw [e1, e2, if_pos (by omega), hw, if_pos (by omega), if_pos (by omega), Int.toNat_natCast, hb]
    unfold lines_Bare.f strings_CutSuffix.f stringslite_CutSuffix.f
    rw [hh, Option.bind_some, e1, hw]
    by_cases hl : s.data.toList.getLast? = some 10
    · rw [if_pos (by simpa using hl), if_pos (by omega), if_pos (by omega), decide_eq_true hl]
      exact ⟨_, rfl⟩
    · rw [if_neg (by simpa using hl), decide_eq_false hl]
      exact ⟨_, rfl⟩

theorem works_run (k : Nat) (hk : 4000001 ≤ k) : redlinelaw02_works.f k = some true := by
  have h1 := lines_Split_f (⟨#[97, 10, 98]⟩ : ByteArray) (by decide)
  have h2 := first_ne (⟨#[97, 10, 98]⟩ : ByteArray) (⟨#[97, 10, 99]⟩ : ByteArray) (by decide) (by decide) (by decide) k hk
  have e1 : toB (linesL (⟨#[97, 10, 98]⟩ : ByteArray).data.toList) = [toS [97, 10], toS [98]] := rfl
  have e2 : lcp (⟨#[97, 10, 98]⟩ : ByteArray).data.toList (⟨#[97, 10, 99]⟩ : ByteArray).data.toList = 2 := rfl
  rw [e1] at h1
  rw [e2] at h2
  have h3 := check_f [toS [97, 10], toS [98]] (by simp) (by intro s hs; rcases List.mem_cons.1 hs with rfl | hs; exact (by decide); rcases List.mem_cons.1 hs with rfl | hs; exact (by decide); cases hs) k (by simp only [List.length_cons, List.length_nil]; omega)
  have hr : right ([toS [97, 10], toS [98]].map (·.data.toList)) := ⟨⟨[97], by decide, rfl⟩, .inr ⟨by decide, by simp [toS]⟩⟩
  rw [if_pos hr] at h3
  have r0 : rdOf ByteArray.empty [toS [97, 10], toS [98]] 0 = toS [97, 10] := rfl
  have r1 : rdOf ByteArray.empty [toS [97, 10], toS [98]] 1 = toS [98] := rfl
  unfold redlinelaw02_works.f
  rw [h1, Option.bind_some, h2, Option.bind_some, r0, r1, toS_bytes, toS_bytes, if_pos (by simp), if_pos (by simp), if_pos rfl, if_pos (by simp), if_pos rfl, h3, Option.bind_some, if_pos rfl]
  rfl
end Go.Proofs.YtkodamaoklaibaaDoor.Z
