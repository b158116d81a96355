/-
  What the printed functions of the lines seat come to, over plain lists of bytes: Split (of the program and of the reference), SameStrings, Bare, Join, Check, First.
-/
import Derived.Test.YtkodamaoklaibaaDoorLines
import Derived.Test.YtkodamaoklaibaaDoorX19
import Derived.Test.YtkodamaoklaibaaDoorX18
import Derived.Test.YtkodamaoklaibaaDoorX17
namespace Go.Proofs.YtkodamaoklaibaaDoor.Z
open Go.RowKit Go.Proofs.YtkodamaoklaibaaDoor.X Go.Proofs.YtkodamaoklaibaaDoorW.PrintWords Go.Proofs.YtkodamaoklaibaaDoorW.PrintLast Go.Proofs.YtkodamaoklaibaaDoorW.PrintMore
set_option linter.unusedVariables false

theorem w64 {x : Int} (h0 : -9223372036854775808 ≤ x) (h1 : x ≤ 9223372036854775807) : wrap64 x = x := by unfold wrap64; omega
theorem wrap_succ (i : Nat) (h : i ≤ 4398046511104) : wrap64 ((i : Int) + 1) = ((i + 1 : Nat) : Int) := by rw [w64 (by omega) (by omega)]; omega
theorem wrap_pred (i : Nat) (h0 : 0 < i) (h : i ≤ 4398046511104) : wrap64 ((i : Int) - 1) = ((i - 1 : Nat) : Int) := by rw [w64 (by omega) (by omega)]; omega
theorem fuel_le {α : Type} {F : Nat → Option α} (h : ∀ k, LeO (F k) (F (k + 1))) {k k' : Nat} (hk : k ≤ k') {r : α} (e : F k = some r) : F k' = some r := by
  induction hk with
  | refl => exact e
  | step _ ih => exact h _ _ ih
theorem rdOf_at (l : List ByteArray) (i : Nat) (h : i < l.length) : rdOf ByteArray.empty l (i : Int) = l[i] := by
  unfold rdOf
  rw [Int.toNat_natCast, List.getD_eq_getElem?_getD, List.getElem?_eq_getElem h]
  rfl
theorem bt_list (a : ByteArray) (i : Nat) (c : UInt8) (h : i < a.size) : bt a i = (c.toNat : Int) ↔ a.data.toList[i]? = some c := by
  have hl : i < a.data.toList.length := h
  have e : bt a i = ((a.data.toList[i]'hl).toNat : Int) := by simp [bt, h, ByteArray.getElem_eq_getElem_data]
  rw [e, List.getElem?_eq_getElem hl, Option.some.injEq]
  exact ⟨fun e => UInt8.toNat.inj (by omega), fun e => by rw [e]⟩
theorem bt_feed (a : ByteArray) (i : Nat) (h : i < a.size) : bt a i = 10 ↔ a.data.toList[i]? = some 10 := bt_list a i 10 h

/-- A list of bytes as a text; lists of them. -/
def toS (l : List UInt8) : ByteArray := ⟨l.toArray⟩
def toB (l : List (List UInt8)) : List ByteArray := l.map toS
theorem toS_list (l : List UInt8) : (toS l).data.toList = l := by simp [toS]
theorem toS_bytes (l : List UInt8) : (toS l).toList = l := by rw [Lib.toList_data]; exact toS_list l
theorem toS_size (l : List UInt8) : (toS l).size = l.length := by rw [Lib.size_eq, toS_list]
theorem toS_of (s : ByteArray) : toS s.data.toList = s := by cases s; simp [toS]
theorem toB_of {t : List ByteArray} {L : List (List UInt8)} (h : t.map (·.data.toList) = L) : t = toB L := by
  subst h
  unfold toB
  rw [List.map_map]
  conv => lhs; rw [← List.map_id t]
  exact List.map_congr_left fun s _ => (toS_of s).symm
theorem of_toB (L : List (List UInt8)) : (toB L).map (·.data.toList) = L := by
  unfold toB
  rw [List.map_map]
  conv => rhs; rw [← List.map_id L]
  exact List.map_congr_left fun l _ => toS_list l
theorem toB_append (a b : List (List UInt8)) : toB (a ++ b) = toB a ++ toB b := List.map_append
theorem toB_length (a : List (List UInt8)) : (toB a).length = a.length := List.length_map _

theorem lines_Split_f (s : ByteArray) (hs : s.size ≤ 4000000) : lines_Split.f s = some (toB (linesL s.data.toList)) := by
  obtain ⟨p, x, e1, e2⟩ := lines_cut s.data.toList.length s.data.toList (Nat.le_refl _)
  have hc : Lib.countB s feed1 = s.data.toList.count 10 := by
    show Lib.count s.data.toList [10] = _
    rw [Lib.count_one]
  have ht : Lib.splitB feed1 1 (Lib.countB s feed1) s = toB p ++ [toS x] := by
    have h := Lib.splitB_data feed1 1 (Lib.countB s feed1) s
    rw [hc, show feed1.data.toList = [10] from rfl, splitK_cut _ s.data.toList (Nat.le_refl _), e1] at h
    rw [hc, toB_of h, toB_append]
    rfl
  have hpl : p.length ≤ 4000000 := by
    have h1 := Lib.splitB_length_le feed1 1 (Lib.countB s feed1) s
    have h2 := countB_le s
    rw [ht, List.length_append, toB_length] at h1
    simp at h1
    omega
  unfold lines_Split.f strings_SplitAfter.f
  rw [if_pos ⟨rfl, by omega⟩, ht, Option.bind_some]
  have hl : (toB p ++ [toS x]).length = p.length + 1 := by rw [List.length_append, toB_length]; rfl
  have hw : wrap64 ((((toB p ++ [toS x]).length : Nat) : Int) - 1) = ((p.length : Nat) : Int) := by rw [hl, w64 (by omega) (by omega)]; omega
  rw [hw, if_pos (by omega), if_pos (by rw [hl]; omega), rdOf_at _ p.length (by omega), List.getElem_append_right (by rw [toB_length]; omega)]
  have hz : p.length - (toB p).length = 0 := by rw [toB_length]; omega
  have hx : ([toS x][p.length - (toB p).length]'(by rw [hz]; simp)) = toS x := by simp only [hz]; rfl
  rw [hx, toS_bytes, e2]
  by_cases h0 : x = []
  · rw [if_pos h0, if_pos h0, if_pos (by rw [hl]; omega), Int.toNat_natCast, List.take_left' (toB_length p)]
  · rw [if_neg h0, if_neg h0, toB_append]
    rfl

theorem take_feed {l : List UInt8} {i : Nat} (h : l[i]? = some 10) (at_ : Nat) (hle : at_ ≤ i) (hno : (10 : UInt8) ∉ (l.drop at_).take (i - at_)) : linesL (l.drop at_) = (l.drop at_).take (i + 1 - at_) :: linesL (l.drop (i + 1)) := by
  have hil := (List.getElem?_eq_some_iff.1 h).1
  have e : l.drop at_ = (l.drop at_).take (i - at_) ++ 10 :: l.drop (i + 1) := by
    conv => lhs; rw [← List.take_append_drop (i - at_) (l.drop at_)]
    rw [List.drop_drop, show at_ + (i - at_) = i by omega, List.drop_eq_getElem_cons hil, (List.getElem?_eq_some_iff.1 h).2]
  have e2 : (l.drop at_).take (i + 1 - at_) = (l.drop at_).take (i - at_) ++ [10] := by
    rw [show i + 1 - at_ = (i - at_) + 1 by omega, List.take_add_one, List.getElem?_drop, show at_ + (i - at_) = i by omega, h]
    rfl
  conv => lhs; rw [e]
  rw [lines_feed _ _ hno, e2]
theorem take_more {l : List UInt8} {i : Nat} (hil : i < l.length) (h : l[i]? ≠ some 10) (at_ : Nat) (hle : at_ ≤ i) (hno : (10 : UInt8) ∉ (l.drop at_).take (i - at_)) : (10 : UInt8) ∉ (l.drop at_).take (i + 1 - at_) := by
  rw [show i + 1 - at_ = (i - at_) + 1 by omega, List.take_add_one, List.getElem?_drop, show at_ + (i - at_) = i by omega, List.getElem?_eq_getElem hil, List.mem_append]
  rintro (e | e)
  · exact hno e
  · simp at e
    exact h (by rw [List.getElem?_eq_getElem hil, ← e])
theorem extract_list (s : ByteArray) (a b : Nat) : s.extract a b = toS ((s.data.toList.drop a).take (b - a)) := by
  rw [← toS_of (s.extract a b), Lib.extract_data]

theorem ref_split (s : ByteArray) (hs : s.size ≤ 4000000) (d : Nat) : ∀ (i at_ : Nat) (acc : List ByteArray), i + d = s.size → at_ ≤ i → acc.length ≤ i → (10 : UInt8) ∉ (s.data.toList.drop at_).take (i - at_) →
    redlineref02_Split.l0 (d + 1) s acc at_ i = some (acc ++ toB (linesL (s.data.toList.drop at_))) := by
  have hl : s.data.toList.length = s.size := (Lib.size_eq s).symm
  induction d with
  | zero =>
    intro i at_ acc hi hle hacc hno
    have : i = s.size := by omega
    subst this
    rw [redlineref02_Split.l0, if_neg (by omega)]
    by_cases hc : at_ < s.size
    · rw [List.take_of_length_le (by rw [List.length_drop]; omega)] at hno
      have hne : s.data.toList.drop at_ ≠ [] := by
        intro e
        have := congrArg List.length e
        rw [List.length_drop] at this
        simp at this
        omega
      rw [if_pos (by omega), if_pos (by omega), if_pos (by omega), if_pos (by omega), lines_none _ hno hne, Int.toNat_natCast, extract_list, List.take_of_length_le (by rw [List.length_drop]; omega)]
      rfl
    · rw [if_neg (by omega), List.drop_of_length_le (by omega)]
      simp [linesL, toB]
  | succ d ih =>
    intro i at_ acc hi hle hacc hno
    have hil : i < s.data.toList.length := by omega
    have hw := wrap_succ i (by omega)
    rw [redlineref02_Split.l0, if_pos (by omega), if_pos (by omega), hw]
    by_cases hc : bt s i = 10
    · have hf := (bt_feed s i (by omega)).1 hc
      rw [if_pos hc, if_pos (by omega), if_pos (by omega), if_pos (by omega), if_pos (by omega), Int.toNat_natCast, Int.toNat_natCast, extract_list]
      rw [ih (i + 1) (i + 1) _ (by omega) (by omega) (by rw [List.length_append]; simp; omega) (by rw [Nat.sub_self]; simp), take_feed hf at_ hle hno]
      simp [toB]
    · have hf : s.data.toList[i]? ≠ some 10 := fun e => hc ((bt_feed s i (by omega)).2 e)
      rw [if_neg hc, ih (i + 1) at_ acc (by omega) (by omega) (by omega) (take_more hil hf at_ hle hno)]
theorem refSplit_f (s : ByteArray) (hs : s.size ≤ 4000000) (k : Nat) (hk : s.size + 1 ≤ k) : redlineref02_Split.f k s = some (toB (linesL s.data.toList)) := by
  unfold redlineref02_Split.f
  have := ref_split s hs s.size 0 0 [] (by omega) (by omega) (by simp) (by simp)
  rw [List.nil_append, List.drop_zero] at this
  exact fuel_le (fun k => redlineref02_Split.mono_l k _ _ _ _) hk this

theorem sameTexts_run (l : List ByteArray) (h1 : l.length ≤ 4398046511104) (d : Nat) : ∀ i : Nat, i + d = l.length → redlineref01_SameStrings.l0 (d + 1) l l i = some true := by
  induction d with
  | zero =>
    intro i hi
    rw [redlineref01_SameStrings.l0, if_neg (by omega)]
  | succ d ih =>
    intro i hi
    rw [redlineref01_SameStrings.l0, if_pos (by omega), if_pos (by omega), if_pos (by omega), if_pos rfl, wrap_succ i (by omega)]
    exact ih (i + 1) (by omega)
theorem sameTexts (l : List ByteArray) (h1 : l.length ≤ 4398046511104) (k : Nat) (hk : l.length + 1 ≤ k) : redlineref01_SameStrings.f k l l = some true := by
  unfold redlineref01_SameStrings.f
  rw [if_pos rfl]
  exact fuel_le (fun k => redlineref01_SameStrings.mono_l k _ _ _) hk (sameTexts_run l h1 l.length 0 (by omega))
theorem lines_few (s : ByteArray) : (toB (linesL s.data.toList)).length ≤ s.size := by
  rw [toB_length]
  exact lines_len _ _ (Nat.le_refl _)
end Go.Proofs.YtkodamaoklaibaaDoor.Z
