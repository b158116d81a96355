/-
  LinesFirst, the plain law: the program's loop and the reference's come to the same place and the same line, for any two texts.
-/
import Derived.Test.YtkodamaoklaibaaX23
namespace Go.Proofs.Ytkodamaoklaibaa.X
open Go.RowKit Go.Proofs.YtkodamaoklaibaaW.PrintWords Go.Proofs.YtkodamaoklaibaaW.PrintLast Go.Proofs.YtkodamaoklaibaaW.PrintMore

theorem fsize_list (a : ByteArray) : a.size = a.data.toList.length := rfl
theorem fw64 (n : Int) (h : -9223372036854775808 ≤ n ∧ n ≤ 9223372036854775807) : wrap64 n = n := by unfold wrap64; omega
theorem fbt_get (a : ByteArray) (i : Nat) (h : i < a.size) : bt a i = ((a.data.toList[i]'(by rw [← fsize_list]; exact h)).toNat : Int) := by
  simp [bt, h, ByteArray.getElem_eq_getElem_data]
theorem extract_head (a : ByteArray) (i : Nat) : (a.extract 0 i).data.toList = a.data.toList.take i := by
  simp [ByteArray.data_extract]

/-- How many line feeds stand ahead. -/
def feeds (a : ByteArray) (i : Nat) : Nat := (a.data.toList.take i).count 10
theorem feeds_succ (a : ByteArray) (i : Nat) (h : i < a.size) : feeds a (i + 1) = feeds a i + (if bt a i = 10 then 1 else 0) := by
  have hl : i < a.data.toList.length := h
  unfold feeds
  rw [List.take_add_one, List.getElem?_eq_getElem hl, List.count_append, fbt_get a i h]
  by_cases hb : a.data.toList[i] = 10
  · rw [hb]
    simp
  · have hn : ¬ ((a.data.toList[i].toNat : Int) = 10) := fun e => hb (UInt8.toNat.inj (by show _ = 10; omega))
    rw [if_neg hn]
    have : List.count 10 (some a.data.toList[i]).toList = 0 := by
      rw [List.count_eq_zero]
      simp only [Option.toList, List.mem_singleton]
      exact fun e => hb e.symm
    rw [this]
theorem feeds_le (a : ByteArray) (i : Nat) : feeds a i ≤ a.size := Nat.le_trans (List.count_le_length) (by rw [List.length_take]; exact Nat.min_le_right _ _)
theorem count_feeds (a : ByteArray) (i : Nat) : strings_Count.f (a.extract 0 ((i : Int)).toNat) ⟨#[10]⟩ = some (feeds a i : Int) := by
  unfold strings_Count.f
  rw [if_pos rfl, Int.toNat_natCast, extract_head]
  rfl

/-- The two loops, side by side. -/
theorem first_loops (a b : ByteArray) (ha : a.size ≤ 140737488351232) (hb : b.size ≤ 140737488351232) (d : Nat) : ∀ i : Nat, i + d = a.size → i ≤ b.size →
    ∃ r, lines_First.l0 (2 * d + 2) a b i = some r ∧ redlineref02_First.l0 (2 * d + 2) a b ((feeds a i + 1 : Nat) : Int) i = some r := by
  induction d with
  | zero =>
    intro i hi hib
    have hf := feeds_le a i
    have h1 : ¬ (i : Int) < (a.size : Int) := by omega
    have h2 : ¬ (i : Int) < mn (a.size : Int) (b.size : Int) := by unfold mn; split <;> omega
    have hw : wrap64 ((i : Int) + 1) = (i : Int) + 1 := fw64 _ (by omega)
    have hw2 : wrap64 (1 + (feeds a i : Int)) = (feeds a i : Int) + 1 := by rw [fw64 _ (by omega)]; omega
    refine ⟨((i : Int) + 1, (feeds a i : Int) + 1, true), ?_, ?_⟩
    · rw [lines_First.l0, if_neg h2, if_pos (by omega), if_pos (by omega), count_feeds, hw]
      simp only [Option.bind_some, hw2]
    · rw [redlineref02_First.l0, if_neg h1, redlineref02_First.j1, if_neg (by simp), hw]
      simp
  | succ d ih =>
    intro i hi hib
    have hf := feeds_le a i
    have hf1 := feeds_le a (i + 1)
    have h1 : (i : Int) < (a.size : Int) := by omega
    have hw : wrap64 ((i : Int) + 1) = ((i + 1 : Nat) : Int) := by rw [fw64 _ (by omega)]; omega
    have hw2 : wrap64 (1 + (feeds a i : Int)) = ((feeds a i + 1 : Nat) : Int) := by rw [fw64 _ (by omega)]; omega
    by_cases h2 : i < b.size
    · have h3 : (i : Int) < mn (a.size : Int) (b.size : Int) := by unfold mn; split <;> omega
      have h4 : (i : Int) < (b.size : Int) := by omega
      have h5 : (i : Int) ≤ (a.size : Int) := by omega
      have h6 : (0 : Int) ≤ (i : Int) := by omega
      by_cases hc : bt a i = bt b i
      · obtain ⟨r, e1, e2⟩ := ih (i + 1) (by omega) (by omega)
        have f1 : lines_First.l0 (2 * d + 2 + 1) a b ((i + 1 : Nat) : Int) = some r := lines_First.mono_l _ _ _ _ _ e1
        refine ⟨r, ?_, ?_⟩
        · rw [show 2 * (d + 1) + 2 = 2 * d + 2 + 1 + 1 by omega, lines_First.l0, if_pos h3, if_pos h6, if_pos h1, if_pos h4, if_pos hc, hw, f1]
        · rw [show 2 * (d + 1) + 2 = 2 * d + 2 + 1 + 1 by omega, redlineref02_First.l0, if_pos h1, if_pos h4, if_pos h6, redlineref02_First.j1, if_pos (by simpa using hc), if_pos h6, if_pos h1, hw]
          have hs := feeds_succ a i (by omega)
          by_cases h10 : bt a i = 10
          · rw [if_pos h10, fw64 _ (by omega)]
            rw [hs, if_pos h10] at e2
            exact e2
          · rw [if_neg h10]
            rw [hs, if_neg h10] at e2
            exact e2
      · refine ⟨(((i + 1 : Nat) : Int), ((feeds a i + 1 : Nat) : Int), true), ?_, ?_⟩
        · rw [show 2 * (d + 1) + 2 = 2 * d + 2 + 1 + 1 by omega, lines_First.l0, if_pos h3, if_pos h6, if_pos h1, if_pos h4, if_neg hc, if_pos h5, count_feeds, hw]
          simp only [Option.bind_some, hw2]
        · have hc' : ¬ (bt a i == bt b i) = true := by simpa using hc
          rw [show 2 * (d + 1) + 2 = 2 * d + 2 + 1 + 1 by omega, redlineref02_First.l0, if_pos h1, if_pos h4, if_pos h6, redlineref02_First.j1, if_neg hc', hw]
    · have h3 : ¬ (i : Int) < mn (a.size : Int) (b.size : Int) := by unfold mn; split <;> omega
      have h4 : ¬ (i : Int) < (b.size : Int) := by omega
      refine ⟨(((i + 1 : Nat) : Int), ((feeds a i + 1 : Nat) : Int), true), ?_, ?_⟩
      · rw [show 2 * (d + 1) + 2 = 2 * d + 2 + 1 + 1 by omega, lines_First.l0, if_neg h3, if_pos (by omega), if_pos (by omega), count_feeds, hw]
        simp only [Option.bind_some, hw2]
      · rw [show 2 * (d + 1) + 2 = 2 * d + 2 + 1 + 1 by omega, redlineref02_First.l0, if_pos h1, if_neg h4, redlineref02_First.j1, if_neg (by simp), hw]

theorem linesFirst_pure : redlinelaw02_LinesFirst.Pure := by
  intro a b ha hb
  refine ⟨2 * a.size + 2, ?_⟩
  unfold redlinelaw02_LinesFirst.f lines_First.f redlineref02_First.f
  by_cases h : a.toList = b.toList
  · simp [h]
  · rw [if_neg h, if_neg h]
    obtain ⟨r, e1, e2⟩ := first_loops a b ha hb a.size 0 (by omega) (by omega)
    have e0 : ((feeds a 0 + 1 : Nat) : Int) = 1 := by simp [feeds]
    rw [e0] at e2
    rw [show (0 : Int) = ((0 : Nat) : Int) from rfl, e1, e2]
    simp
end Go.Proofs.Ytkodamaoklaibaa.X
namespace Go.Proofs.Ytkodamaoklaibaa.Pure
open Go.Proofs.Ytkodamaoklaibaa.X
theorem LinesFirst : redlinelaw02_LinesFirst.Pure := linesFirst_pure
end Go.Proofs.Ytkodamaoklaibaa.Pure
