/-
  LinesAgree, the plain law: up to the place that First tells two texts are the same, and there they are not; the line is the one told.
-/
import Derived.Test.YtkodamaoklaibaaDoorX29
import Derived.Test.YtkodamaoklaibaaDoorMore
namespace Go.Proofs.YtkodamaoklaibaaDoor.Z
open Go.RowKit Go.Proofs.YtkodamaoklaibaaDoor.X Go.Proofs.YtkodamaoklaibaaDoorW.PrintWords Go.Proofs.YtkodamaoklaibaaDoorW.PrintLast Go.Proofs.YtkodamaoklaibaaDoorW.PrintMore
set_option linter.unusedVariables false

theorem agree_j1 (a : ByteArray) (ha : a.size ≤ 4000000) (n : Nat) (hn : n ≤ a.size) (k : Nat) : redlinelaw02_LinesAgree.j1 (k + 1) a ((n + 1 : Nat) : Int) (((a.data.toList.take n).count 10 + 1 : Nat) : Int) false = some true := by
  have hw : wrap64 (((n + 1 : Nat) : Int) - 1) = (n : Int) := by rw [w64 (by omega) (by omega)]; omega
  have hlen : (a.data.toList.take n).length ≤ 4000000 := by
    rw [List.length_take, show a.data.toList.length = a.size from rfl]
    omega
  rw [redlinelaw02_LinesAgree.j1, if_neg (by simp), hw, if_pos (by omega), if_pos (by omega), Int.toNat_natCast, extract_list, List.drop_zero, Nat.sub_zero, lines_Split_f _ (by rw [toS_size]; exact hlen), toS_list, Option.bind_some]
  have hll := lines_len _ (a.data.toList.take n) (Nat.le_refl _)
  rcases count_lines _ (a.data.toList.take n) (Nat.le_refl _) with ⟨e1, e2⟩ | ⟨p, x, e1, e2⟩
  · rw [e2, e1, show toB [] = [] from rfl, if_neg (by simp), show ((([] : List ByteArray).length : Nat) : Int) + 1 = 1 from rfl, w64 (by omega) (by omega)]
    rfl
  · rw [e1, List.length_append] at hll
    simp only [List.length_cons, List.length_nil] at hll
    have hl : (toB (p ++ [x])).length = p.length + 1 := by rw [toB_length, List.length_append]; rfl
    have hw1 : wrap64 ((((p.length + 1 : Nat)) : Int) - 1) = (p.length : Int) := by rw [w64 (by omega) (by omega)]; omega
    have hw2 : wrap64 ((((p.length + 1 : Nat)) : Int) + 1) = ((p.length + 2 : Nat) : Int) := by rw [w64 (by omega) (by omega)]; omega
    have hw3 : wrap64 ((p.length : Int) + 1) = ((p.length + 1 : Nat) : Int) := wrap_succ _ (by omega)
    have hx : rdOf ByteArray.empty (toB (p ++ [x])) (p.length : Int) = toS x := by
      rw [rdOf_at _ p.length (by omega)]
      simp [toB]
    have hxl : x.length ≤ 4000000 := by
      have hj := join_lines _ (a.data.toList.take n) (Nat.le_refl _)
      rw [e1] at hj
      have := congrArg List.length hj
      simp only [List.flatten_append, List.length_append, List.flatten_cons, List.flatten_nil, List.append_nil] at this
      omega
    obtain ⟨r, hr⟩ := bare_f (toS x) (by rw [toS_size]; exact hxl)
    rw [toS_list] at hr
    rw [e1, hl, if_pos (by omega), hw1, if_pos (by omega), if_pos (by omega), hx, hr, Option.bind_some, hw2, hw3]
    rcases e2 with ⟨g1, g2⟩ | ⟨g1, g2⟩
    · rw [if_pos (by simpa using g1), g2]
      exact congrArg some (beq_self_eq_true ((p.length + 2 : Nat) : Int))
    · rw [if_neg (by simpa using g1), g2]
      exact congrArg some (beq_self_eq_true ((p.length + 1 : Nat) : Int))

theorem agree_j0 (a b : ByteArray) (ha : a.size ≤ 4000000) (hb : b.size ≤ 4000000) (h : a.data.toList ≠ b.data.toList) (k : Nat) :
    redlinelaw02_LinesAgree.j0 (k + 2) a b ((lcp a.data.toList b.data.toList + 1 : Nat) : Int) (((a.data.toList.take (lcp a.data.toList b.data.toList)).count 10 + 1 : Nat) : Int) true false = some true := by
  have l1 : lcp a.data.toList b.data.toList ≤ a.size := lcp_le _ _
  have l2 : lcp a.data.toList b.data.toList ≤ b.size := by rw [lcp_comm]; exact lcp_le _ _
  have hd := lcp_diff a.data.toList b.data.toList
  have hall := lcp_all a.data.toList b.data.toList
  have ht := lcp_take a.data.toList b.data.toList
  rw [show a.data.toList.length = a.size from rfl, show b.data.toList.length = b.size from rfl] at hd hall
  generalize lcp a.data.toList b.data.toList = n at *
  have hj := agree_j1 a ha n l1 k
  have hw : wrap64 (((n + 1 : Nat) : Int) - 1) = (n : Int) := by rw [w64 (by omega) (by omega)]; omega
  have hw1 := wrap_succ a.size (by omega)
  have hw2 := wrap_succ b.size (by omega)
  have he : (a.extract 0 (n : Int).toNat).toList = (b.extract 0 (n : Int).toNat).toList := by
    rw [Int.toNat_natCast, extract_list, extract_list, toS_bytes, toS_bytes, List.drop_zero, List.drop_zero, Nat.sub_zero]
    exact ht
  rw [redlinelaw02_LinesAgree.j0, if_neg (by simp), if_pos rfl, if_neg (by omega), hw1, if_neg (by omega), hw2, if_neg (by omega), hw, if_pos (by omega), if_pos (by omega), if_pos (by omega), if_pos he]
  by_cases c1 : n < a.size
  · rw [if_pos (by omega)]
    by_cases c2 : n < b.size
    · rw [if_pos (by omega), if_pos (by omega), if_pos (by omega), if_neg (fun e => hd c1 c2 ((bt_same a b n c1 c2).1 e)), if_neg (by omega)]
      exact hj
    · rw [if_neg (by omega), if_neg (by omega)]
      exact hj
  · have c2 : n < b.size := by
      by_cases c2 : n < b.size
      · exact c2
      · exact absurd (hall (by omega) (by omega)) h
    rw [if_neg (by omega), if_pos (by omega), decide_eq_false (by omega)]
    exact hj

theorem linesAgree_pure (a b : ByteArray) (ha : a.size ≤ 4000000) (hb : b.size ≤ 4000000) : ∃ k, redlinelaw02_LinesAgree.f k a b = some true := by
  refine ⟨4000002, ?_⟩
  unfold redlinelaw02_LinesAgree.f
  rw [works_run _ (by omega), Option.bind_some, if_pos rfl]
  by_cases h : a.data.toList = b.data.toList
  · rw [first_eq a b h, first_eq b a h.symm, Option.bind_some, Option.bind_some]
    dsimp only
    rw [if_pos rfl, if_pos rfl, show (4000002 : Nat) = 4000001 + 1 from rfl, redlinelaw02_LinesAgree.j0, if_neg (by simp), if_neg (by simp), if_pos (by rw [Lib.toList_data, Lib.toList_data, h]), if_pos rfl]
    rfl
  · have e1 := first_ne a b ha hb h 4000002 (by omega)
    have e2 := first_ne b a hb ha (fun e => h e.symm) 4000002 (by omega)
    rw [lcp_comm b.data.toList, ← lcp_take a.data.toList] at e2
    rw [e1, e2, Option.bind_some, Option.bind_some]
    dsimp only
    rw [if_pos rfl, if_pos rfl]
    exact agree_j0 a b ha hb h 4000000
end Go.Proofs.YtkodamaoklaibaaDoor.Z
