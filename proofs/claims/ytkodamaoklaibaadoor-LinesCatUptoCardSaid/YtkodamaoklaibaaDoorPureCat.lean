/-
  LinesCat, the plain law: the lines of two texts in a row.
-/
import Derived.Test.YtkodamaoklaibaaDoorX24
import Derived.Test.YtkodamaoklaibaaDoorMore
namespace Go.Proofs.YtkodamaoklaibaaDoor.Z
open Go.RowKit Go.Proofs.YtkodamaoklaibaaDoor.X Go.Proofs.YtkodamaoklaibaaDoorW.PrintWords Go.Proofs.YtkodamaoklaibaaDoorW.PrintLast Go.Proofs.YtkodamaoklaibaaDoorW.PrintMore
set_option linter.unusedVariables false

theorem cat_split (a b : ByteArray) (ha : a.size ≤ 2000000) (hb : b.size ≤ 2000000) : lines_Split.f (a ++ b) = some (toB (linesL (a.data.toList ++ b.data.toList))) := by
  have h : (a ++ b).data.toList = a.data.toList ++ b.data.toList := by simp [ByteArray.data_append]
  have hs : (a ++ b).size = a.size + b.size := ByteArray.size_append
  rw [lines_Split_f _ (by omega), h]
theorem cat_few (a b : ByteArray) : (toB (linesL (a.data.toList ++ b.data.toList))).length ≤ a.size + b.size := by
  rw [toB_length]
  refine Nat.le_trans (lines_len _ _ (Nat.le_refl _)) ?_
  rw [List.length_append]
  exact Nat.le_refl _

theorem cat_plain (a b : ByteArray) (ha : a.size ≤ 2000000) (hb : b.size ≤ 2000000) (x5 x6 : List ByteArray) (z : List ByteArray) (h : z = toB (linesL (a.data.toList ++ b.data.toList))) (k : Nat) (hk : 4000001 ≤ k) :
    redlinelaw02_LinesCat.j0 (k + 1) a b x5 x6 z false = some true := by
  have hf := cat_few a b
  rw [redlinelaw02_LinesCat.j0, if_neg (by simp), if_pos (by omega), cat_split a b ha hb, Option.bind_some, h, sameTexts _ (by omega) _ (by omega)]
  rfl
theorem last_bt (a : ByteArray) (h : 0 < a.size) : bt a ((a.size - 1 : Nat) : Int) = 10 ↔ a.data.toList.getLast? = some 10 := by
  rw [bt_feed a (a.size - 1) (by omega), List.getLast?_eq_getElem?]
  rfl

theorem cat_glue (a b : ByteArray) (ha : a.size ≤ 2000000) (hb : b.size ≤ 2000000) (z : List ByteArray) (p : List (List UInt8)) (x y : List UInt8) (r : List (List UInt8)) (e1 : linesL a.data.toList = p ++ [x]) (e2 : linesL b.data.toList = y :: r)
    (e3 : linesL (a.data.toList ++ b.data.toList) = p ++ ((x ++ y) :: r)) (k : Nat) (hk : 4000001 ≤ k) :
    redlinelaw02_LinesCat.j0 (k + 1) a b (toB (linesL a.data.toList)) (toB (linesL b.data.toList)) z true = some true := by
  have hf := cat_few a b
  have fa := lines_few a
  have fb := lines_few b
  rw [e1] at fa
  rw [e2] at fb
  rw [toB_length] at fa fb
  simp only [List.length_append, List.length_cons, List.length_nil] at fa fb
  have hxy : x.length + y.length ≤ a.size + b.size := by
    have := join_lines _ (a.data.toList ++ b.data.toList) (Nat.le_refl _)
    rw [e3] at this
    have := congrArg List.length this
    simp only [List.flatten_append, List.flatten_cons, List.length_append] at this
    have h1 : a.data.toList.length = a.size := rfl
    have h2 : b.data.toList.length = b.size := rfl
    omega
  have l5 : (toB (p ++ [x])).length = p.length + 1 := by rw [toB_length, List.length_append]; rfl
  have l6 : (toB (y :: r)).length = r.length + 1 := by rw [toB_length]; rfl
  have hw : wrap64 ((((toB (p ++ [x])).length : Nat) : Int) - 1) = (p.length : Int) := by rw [l5, w64 (by omega) (by omega)]; omega
  have hx : rdOf ByteArray.empty (toB (p ++ [x])) (p.length : Int) = toS x := by
    rw [rdOf_at _ p.length (by omega)]
    simp [toB]
  have hy : rdOf ByteArray.empty (toB (y :: r)) 0 = toS y := rfl
  have ht : (toB (p ++ [x])).take (p.length : Int).toNat = toB p := by
    rw [Int.toNat_natCast, toB_append, List.take_left' (toB_length p)]
  have hd : (toB (y :: r)).drop 1 = toB r := rfl
  have hc : toS x ++ toS y = toS (x ++ y) := by
    rw [← toS_of (toS x ++ toS y)]
    simp [ByteArray.data_append, toS]
  have hl : (toB p).length = p.length := toB_length p
  have hr : (toB r).length = r.length := toB_length r
  rw [redlinelaw02_LinesCat.j0, if_pos rfl, Option.bind_some, e1, e2, hw, if_pos (by omega), if_pos (by omega), ht, Option.bind_some, if_pos (by rw [hl]; simp; omega), Option.bind_some, if_pos (by omega), if_pos (by omega), hx, hy, toS_size, toS_size, if_pos (by omega), hc, Option.bind_some,
    if_pos (by simp [hl]; omega), Option.bind_some, if_pos (by omega), hd, Option.bind_some, if_pos (by simp [hl, hr]; omega), if_pos (by omega), cat_split a b ha hb, Option.bind_some]
  have hz : [] ++ toB p ++ [toS (x ++ y)] ++ toB r = toB (linesL (a.data.toList ++ b.data.toList)) := by
    rw [e3, toB_append]
    simp [toB]
  rw [hz, sameTexts _ (by omega) _ (by omega)]
  rfl

theorem linesCat_pure (a b : ByteArray) (ha : a.size ≤ 2000000) (hb : b.size ≤ 2000000) : ∃ k, redlinelaw02_LinesCat.f k a b = some true := by
  refine ⟨4000003, ?_⟩
  have fa := lines_few a
  have fb := lines_few b
  unfold redlinelaw02_LinesCat.f
  rw [works_run _ (by omega), Option.bind_some, if_pos rfl, lines_Split_f a (by omega), Option.bind_some, lines_Split_f b (by omega), Option.bind_some, Option.bind_some, if_pos (by simp; omega), Option.bind_some, if_pos (by simp; omega), Option.bind_some, List.nil_append, Lib.toList_data]
  have whole : a.data.toList = [] ∨ a.data.toList.getLast? = some 10 → redlinelaw02_LinesCat.j0 4000003 a b (toB (linesL a.data.toList)) (toB (linesL b.data.toList)) (toB (linesL a.data.toList) ++ toB (linesL b.data.toList)) false = some true := fun h =>
    cat_plain a b ha hb _ _ _ (by rw [lines_cat_feed _ a.data.toList b.data.toList (Nat.le_refl _) h, toB_append]) 4000002 (by omega)
  by_cases h0 : a.data.toList = []
  · rw [if_pos h0]
    exact whole (.inl h0)
  · have hpos : 0 < a.size := List.length_pos_iff.2 h0
    have hw := wrap_pred a.size hpos (by omega)
    rw [if_neg h0, hw, if_pos (by omega), if_pos (by omega)]
    by_cases h1 : bt a ((a.size - 1 : Nat) : Int) = 10
    · rw [if_pos h1]
      exact whole (.inr ((last_bt a hpos).1 h1))
    · rw [if_neg h1, Lib.toList_data]
      have hl : a.data.toList.getLast? ≠ some 10 := fun e => h1 ((last_bt a hpos).2 e)
      by_cases h2 : b.data.toList = []
      · rw [h2]
        exact cat_plain a b ha hb _ _ _ (by rw [h2]; simp [linesL, toB]) 4000002 (by omega)
      · have e : (b.data.toList != ([] : List UInt8)) = true := by simpa using h2
        rw [e]
        obtain ⟨p, x, y, r, e1, e2, e3⟩ := lines_cat_open _ a.data.toList b.data.toList (Nat.le_refl _) h0 hl h2
        exact cat_glue a b ha hb _ p x y r e1 e2 e3 4000002 (by omega)
end Go.Proofs.YtkodamaoklaibaaDoor.Z
