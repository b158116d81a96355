/-
  LinesBare, the plain law: a line's end and a zero byte are told by the program and by the reference alike.
-/
import Derived.Test.YtkodamaoklaibaaX11
namespace Go.Proofs.Ytkodamaoklaibaa.X
open Go.RowKit Go.Proofs.YtkodamaoklaibaaW.PrintWords Go.Proofs.YtkodamaoklaibaaW.PrintLast Go.Proofs.YtkodamaoklaibaaW.PrintMore

theorem size_list (a : ByteArray) : a.size = a.data.toList.length := rfl
theorem w64 (n : Int) (h : -9223372036854775808 ≤ n ∧ n ≤ 9223372036854775807) : wrap64 n = n := by unfold wrap64; omega
theorem bt_get (a : ByteArray) (i : Nat) (h : i < a.size) : bt a i = ((a.data.toList[i]'(by rw [← size_list]; exact h)).toNat : Int) := by
  simp [bt, h, ByteArray.getElem_eq_getElem_data]
theorem bt_list (a : ByteArray) (i : Nat) (c : UInt8) (h : i < a.size) : bt a i = (c.toNat : Int) ↔ a.data.toList[i]? = some c := by
  have hl : i < a.data.toList.length := by rw [← size_list]; exact h
  rw [bt_get a i h, List.getElem?_eq_getElem hl, Option.some.injEq]
  constructor
  · intro e
    exact UInt8.toNat.inj (by omega)
  · intro e
    rw [e]
theorem last_byte (a : ByteArray) (h : 0 < a.size) : (a.extract (a.size - 1) a.size).toList = [10] ↔ bt a ((a.size - 1 : Nat) : Int) = 10 := by
  rw [Lib.toList_data, Lib.extract_to_end]
  have h1 := bt_list a (a.size - 1) 10 (by omega)
  rw [show ((10 : UInt8).toNat : Int) = 10 from rfl] at h1
  rw [h1]
  have hl : a.data.toList.length = a.size := (size_list a).symm
  rw [List.drop_eq_getElem_cons (by rw [hl]; omega), List.drop_of_length_le (by rw [hl]; omega), List.getElem?_eq_getElem (by rw [hl]; omega)]
  simp

/-- Both tell of a line's end the same. -/
theorem bare_eq (a : ByteArray) (h : a.size ≤ 140737488351232) : ∃ r, lines_Bare.f a = some r ∧ redlineref02_Bare.f a = some r := by
  have e1 : ((⟨#[10]⟩ : ByteArray).size : Int) = 1 := rfl
  have e2 : (⟨#[10]⟩ : ByteArray).toList = [10] := by rw [Lib.toList_data]
  by_cases h0 : a.size = 0
  · have hs : stringslite_HasSuffix.f a ⟨#[10]⟩ = some false := by
      unfold stringslite_HasSuffix.f
      rw [e1, if_neg (by omega)]
    refine ⟨(a, false), ?_, ?_⟩
    · unfold lines_Bare.f strings_CutSuffix.f stringslite_CutSuffix.f
      rw [hs]
      rfl
    · unfold redlineref02_Bare.f
      rw [if_pos (by omega)]
  · have hw : wrap64 ((a.size : Int) - 1) = ((a.size - 1 : Nat) : Int) := by rw [w64 _ (by omega)]; omega
    have hl := last_byte a (by omega)
    have hs : stringslite_HasSuffix.f a ⟨#[10]⟩ = some ((a.extract (a.size - 1) a.size).toList == [10]) := by
      unfold stringslite_HasSuffix.f
      rw [e1, e2, if_pos (by omega), hw, if_pos (by omega), if_pos (by omega), show (((a.size - 1 : Nat) : Int)).toNat = a.size - 1 by omega]
    unfold lines_Bare.f strings_CutSuffix.f stringslite_CutSuffix.f redlineref02_Bare.f
    have p0 : ¬ (a.size : Int) = 0 := by omega
    have p1 : (0 : Int) ≤ ((a.size - 1 : Nat) : Int) := by omega
    have p2 : ((a.size - 1 : Nat) : Int) < (a.size : Int) := by omega
    have p3 : ((a.size - 1 : Nat) : Int) ≤ (a.size : Int) := by omega
    rw [hs, e1, hw]
    simp only [if_neg p0, if_pos p1, if_pos p2, if_pos p3]
    by_cases hb : bt a ((a.size - 1 : Nat) : Int) = 10
    · rw [if_pos hb, hl.2 hb]
      exact ⟨_, rfl, rfl⟩
    · rw [if_neg hb]
      have : ((a.extract (a.size - 1) a.size).toList == [10]) = false := by
        rw [beq_eq_false_iff_ne]
        exact fun e => hb (hl.1 e)
      rw [this]
      exact ⟨_, rfl, rfl⟩

/-- The reference's loop for a zero byte. -/
theorem binary_loop (a : ByteArray) (h : a.size ≤ 140737488351232) (d : Nat) : ∀ i : Nat, i + d = a.size → redlineref02_Binary.l0 (d + 1) a i = some (decide (0 ∈ a.data.toList.drop i)) := by
  have hl : a.data.toList.length = a.size := (size_list a).symm
  induction d with
  | zero =>
    intro i hi
    simp only [redlineref02_Binary.l0]
    rw [if_neg (by omega), List.drop_of_length_le (by omega)]
    simp
  | succ d ih =>
    intro i hi
    have hb := bt_list a i 0 (by omega)
    rw [show ((0 : UInt8).toNat : Int) = 0 from rfl, List.getElem?_eq_getElem (by omega), Option.some.injEq] at hb
    rw [redlineref02_Binary.l0, if_pos (by omega), if_pos (by omega), List.drop_eq_getElem_cons (by omega), show wrap64 ((i : Int) + 1) = ((i + 1 : Nat) : Int) by rw [w64 _ (by omega)]; omega]
    by_cases hz : bt a i = 0
    · rw [if_pos hz, hb.1 hz]
      simp
    · rw [if_neg hz, ih (i + 1) (by omega)]
      have hne : ¬ a.data.toList[i] = 0 := fun e => hz (hb.2 e)
      have he : (0 ∈ a.data.toList[i] :: List.drop (i + 1) a.data.toList) ↔ 0 ∈ List.drop (i + 1) a.data.toList := by
        rw [List.mem_cons]
        exact ⟨fun e => e.resolve_left fun e' => hne e'.symm, .inr⟩
      rw [decide_eq_decide.2 he]

theorem indexByte_mem : ∀ (l : List UInt8) (c : UInt8), decide (Lib.indexByte l c ≥ 0) = decide (c ∈ l)
  | [], c => by simp [Lib.indexByte]
  | b :: l, c => by
    have ih := indexByte_mem l c
    have hg := Lib.indexByte_ge l c
    unfold Lib.indexByte
    by_cases hb : b = c
    · subst hb
      simp
    · have hb' : (b == c) = false := by simpa using hb
      simp only [hb', Bool.false_eq_true, if_false, List.mem_cons, Ne.symm hb, false_or, ← ih]
      by_cases h1 : Lib.indexByte l c = -1
      · simp [h1]
      · have h2 : (Lib.indexByte l c == -1) = false := by simpa using h1
        rw [h2]
        simp only [Bool.false_eq_true, if_false, decide_eq_decide]
        omega

theorem linesBare_pure : redlinelaw02_LinesBare.Pure := by
  intro a h
  obtain ⟨r, h1, h2⟩ := bare_eq a h
  refine ⟨a.size + 1, ?_⟩
  have h3 := binary_loop a h a.size 0 (by omega)
  unfold redlinelaw02_LinesBare.f redlineref02_Binary.f lines_Binary.f strings_IndexByte.f
  rw [h1, h2, show (0 : Int) = ((0 : Nat) : Int) from rfl, h3]
  simp only [Option.bind_some, if_true, beq_self_eq_true, List.drop_zero]
  rw [show (((0 : Nat) : Int).toNat.toUInt8) = 0 from rfl]
  have := indexByte_mem a.data.toList 0
  simp only [ge_iff_le] at this ⊢
  rw [show ((0 : Nat) : Int) = 0 from rfl, this]
  simp
end Go.Proofs.Ytkodamaoklaibaa.X
namespace Go.Proofs.Ytkodamaoklaibaa.Pure
open Go.Proofs.Ytkodamaoklaibaa.X
theorem LinesBare : redlinelaw02_LinesBare.Pure := linesBare_pure
end Go.Proofs.Ytkodamaoklaibaa.Pure
