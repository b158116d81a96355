/-
  EditsReach, the plain law: a script whose kept lines are the same makes the second text of the first, and back; for second texts of at most 2^30 lines.
-/
import Derived.Test.YtpkhfeeelkhkaaaX32
import Derived.Test.YtpkhfeeelkhkaaaEReach
namespace Go.Proofs.Ytpkhfeeelkhkaaa.Y
open Go.RowKit Go.Proofs.Ytpkhfeeelkhkaaa.X Go.Proofs.YtpkhfeeelkhkaaaW.PrintWords Go.Proofs.YtpkhfeeelkhkaaaW.PrintLast Go.Proofs.YtpkhfeeelkhkaaaW.PrintMore
set_option linter.unusedVariables false

namespace Reach
theorem sameInts_run (l : List Int) (h1 : l.length ≤ 17592186044416) (d : Nat) : ∀ i : Nat, i + d = l.length → redlineref04_SameInts.l0 (d + 1) l l i = some true := by
  induction d with
  | zero =>
    intro i hi
    rw [redlineref04_SameInts.l0, if_neg (by omega)]
  | succ d ih =>
    intro i hi
    rw [redlineref04_SameInts.l0, if_pos (by omega), if_pos (by omega), if_pos (by omega), if_pos rfl, w64 (by omega) (by omega), show (i : Int) + 1 = ((i + 1 : Nat) : Int) by omega]
    exact ih (i + 1) (by omega)
theorem sameInts_refl (l : List Int) (h1 : l.length ≤ 17592186044416) (k : Nat) (hk : l.length + 1 ≤ k) : redlineref04_SameInts.f k l l = some true := by
  unfold redlineref04_SameInts.f
  rw [if_pos rfl]
  exact fuel_le (fun k => redlineref04_SameInts.mono_l k _ _ _) hk (sameInts_run l h1 l.length 0 (by omega))
theorem sameCh_run (l : List S54) (h1 : l.length ≤ 4398046511104) (d : Nat) : ∀ i : Nat, i + d = l.length → redlineref05_Same.l0 (d + 1) l l i = some true := by
  induction d with
  | zero =>
    intro i hi
    rw [redlineref05_Same.l0, if_neg (by omega)]
  | succ d ih =>
    intro i hi
    rw [redlineref05_Same.l0, if_pos (by omega), if_pos (by omega), if_pos (by omega), if_neg (by simp), w64 (by omega) (by omega), show (i : Int) + 1 = ((i + 1 : Nat) : Int) by omega]
    exact ih (i + 1) (by omega)
theorem sameCh_refl (l : List S54) (h1 : l.length ≤ 4398046511104) (k : Nat) (hk : l.length + 1 ≤ k) : redlineref05_Same.f k l l = some true := by
  unfold redlineref05_Same.f
  rw [if_pos rfl]
  exact fuel_le (fun k => redlineref05_Same.mono_l k _ _ _) hk (sameCh_run l h1 l.length 0 (by omega))
theorem sameTexts_run (l : List ByteArray) (h1 : l.length ≤ 8796093022208) (d : Nat) : ∀ i : Nat, i + d = l.length → redlineref01_SameStrings.l0 (d + 1) l l i = some true := by
  induction d with
  | zero =>
    intro i hi
    rw [redlineref01_SameStrings.l0, if_neg (by omega)]
  | succ d ih =>
    intro i hi
    rw [redlineref01_SameStrings.l0, if_pos (by omega), if_pos (by omega), if_pos (by omega), if_pos rfl, w64 (by omega) (by omega), show (i : Int) + 1 = ((i + 1 : Nat) : Int) by omega]
    exact ih (i + 1) (by omega)
theorem sameTexts (l : List ByteArray) (h1 : l.length ≤ 8796093022208) (k : Nat) (hk : l.length + 1 ≤ k) : redlineref01_SameStrings.f k l l = some true := by
  unfold redlineref01_SameStrings.f
  rw [if_pos rfl]
  exact fuel_le (fun k => redlineref01_SameStrings.mono_l k _ _ _) hk (sameTexts_run l h1 l.length 0 (by omega))
theorem works_run (k : Nat) (hk : 4 ≤ k) : redlinelaw05_works.f k = some true := by
  have hok : okM [0, -1, 2] 0 4 = true := rfl
  have h1 := make_ok (l := [0, -1, 2]) (m := 4) (by simp) (by omega) (by omega) hok
  have h2 := keep_script (l := [0, -1, 2]) (m := 4) (by simp) (by omega) (by omega) hok
  have h3 : scriptOf [0, -1, 2] 4 = [⟨1, 1, 1, 1⟩, ⟨3, 0, 3, 1⟩] := rfl
  have h4 : edits_Cost.f [⟨1, 1, 1, 1⟩, ⟨3, 0, 3, 1⟩] = some 3 := rfl
  rw [h3] at h1 h2
  have h2' : edits_Keep.f [⟨1, 1, 1, 1⟩, ⟨3, 0, 3, 1⟩] 3 4 = some ([0, -1, 2], 0) := h2
  unfold redlinelaw05_works.f
  rw [h1, Option.bind_some, h2', Option.bind_some]
  dsimp only
  rw [if_pos rfl, sameCh_refl _ (by simp) k (by simp only [List.length_cons, List.length_nil]; omega), Option.bind_some, if_pos rfl, if_pos rfl, sameInts_refl _ (by simp) k (by simp only [List.length_cons, List.length_nil]; omega), Option.bind_some, if_pos rfl, h4]
  rfl
theorem kept_run (l : List Int) (m : Int) (hl : l.length ≤ 1000) (hm : m ≤ 1073741824) (d : Nat) : ∀ (i : Nat) (next : Int) (acc : List Int), i + d = l.length → 0 ≤ next → next ≤ 1073741825 → acc.length ≤ i →
    ∃ res, redlinelaw05_Kept.l0 (d + 1) l m acc next i = some (acc ++ res) ∧ okM res next m = true ∧ res.length = d := by
  induction d with
  | zero =>
    intro i next acc hi h0 h1 hacc
    exact ⟨[], by rw [redlinelaw05_Kept.l0, if_neg (by omega), List.append_nil], rfl, rfl⟩
  | succ d ih =>
    intro i next acc hi h0 h1 hacc
    have p1 : (i : Int) < (l.length : Int) := by omega
    have p2 : (0 : Int) ≤ (i : Int) := by omega
    have p3 : acc.length < 17592186044416 := by omega
    have hw := wrap_succ i (by omega)
    rw [redlinelaw05_Kept.l0, if_pos p1, if_pos p2, hw]
    generalize (wrap64 ((wrap64 (next + (wrap64 (Int.tmod (IntKind.u64.wrap (rd l (i : Int))) 4)))) - 1)) = v
    have bad : ∃ res, redlinelaw05_Kept.l0 (d + 1) l m (acc ++ [(-1)]) next ((i + 1 : Nat) : Int) = some (acc ++ res) ∧ okM res next m = true ∧ res.length = d + 1 := by
      obtain ⟨res, e1, e2, e3⟩ := ih (i + 1) next (acc ++ [-1]) (by omega) h0 h1 (by rw [List.length_append]; simp; omega)
      refine ⟨-1 :: res, by rw [e1]; simp, ?_, by simp [e3]⟩
      rw [okM, if_pos rfl]
      exact e2
    by_cases h2 : v < next
    · rw [if_pos h2, if_pos p3]
      exact bad
    · rw [if_neg h2]
      by_cases h3 : v ≥ m
      · rw [if_pos h3, if_pos p3]
        exact bad
      · have hw2 : Aside0 (wrap64 (v + 1) = v + 1) := ⟨w64 (by omega) (by omega)⟩
        rw [if_neg h3, if_pos p3, hw2.out]
        obtain ⟨res, e1, e2, e3⟩ := ih (i + 1) (v + 1) (acc ++ [v]) (by omega) (by omega) (by omega) (by rw [List.length_append]; simp; omega)
        refine ⟨v :: res, by rw [e1]; simp, ?_, by simp [e3]⟩
        have q1 : decide (next ≤ v) = true := by simp; omega
        have q2 : decide (v < m) = true := by simp; omega
        rw [okM, if_neg (by omega), q1, q2, e2]
        rfl
theorem kept_f (l : List Int) (m : Int) (hl : l.length ≤ 1000) (hm : m ≤ 1073741824) : ∃ res, okM res 0 m = true ∧ res.length = l.length ∧ ∀ k, l.length + 1 ≤ k → redlinelaw05_Kept.f k l m = some res := by
  obtain ⟨res, e1, e2, e3⟩ := kept_run l m hl hm l.length 0 0 [] (by omega) (by omega) (by omega) (by simp)
  exact ⟨res, e2, e3, fun k hk => fuel_le (fun k => redlinelaw05_Kept.mono_l k _ _ _ _ _) hk e1⟩
end Reach

theorem ok_snoc : ∀ (l : List Int) (b m : Int), okM l b m = true → okM (l ++ [-1]) b m = true
  | [], b, m, _ => rfl
  | k :: l, b, m, h => by
    rw [okM] at h
    rw [List.cons_append, okM]
    by_cases hk : k = -1
    · rw [if_pos hk] at h ⊢
      exact ok_snoc l b m h
    · rw [if_neg hk, Bool.and_eq_true] at h ⊢
      exact ⟨h.1, ok_snoc l _ m h.2⟩
theorem ok_take : ∀ (l : List Int) (n : Nat) (b m : Int), okM l b m = true → okM (l.take n) b m = true
  | [], n, b, m, _ => by simp [okM]
  | k :: l, 0, b, m, _ => by simp [okM]
  | k :: l, n + 1, b, m, h => by
    rw [okM] at h
    rw [List.take_succ_cons, okM]
    by_cases hk : k = -1
    · rw [if_pos hk] at h ⊢
      exact ok_take l n b m h
    · rw [if_neg hk, Bool.and_eq_true] at h ⊢
      exact ⟨h.1, ok_take l n _ m h.2⟩

theorem pad_run (a more : List ByteArray) (m : Int) (ha : a.length ≤ 1000) (h0 : 0 ≤ m) (hm : m ≤ 1073741824) (d : Nat) : ∀ x8 : List Int, okM x8 0 m = true → x8.length ≤ 1000 → a.length ≤ x8.length + d →
    ∃ keep d', d' ≤ d ∧ okM keep 0 m = true ∧ keep.length = a.length ∧ ∀ k, redlinelaw05_EditsReach.l0 (k + d' + 1) a more m x8 = redlinelaw05_EditsReach.l1 k a more m keep (List.replicate m.toNat (⟨#[]⟩ : ByteArray)) 0 := by
  induction d with
  | zero =>
    intro x8 hok hx hl
    refine ⟨x8.take a.length, 0, Nat.le_refl _, ok_take _ _ _ _ hok, by rw [List.length_take]; omega, fun k => ?_⟩
    rw [redlinelaw05_EditsReach.l0, if_neg (by omega), if_pos (by omega), if_pos (by omega), if_pos h0, if_pos (by omega), Int.toNat_natCast]
  | succ d ih =>
    intro x8 hok hx hl
    by_cases hc : (x8.length : Int) < (a.length : Int)
    · obtain ⟨keep, d', e1, e2, e3, e4⟩ := ih (x8 ++ [-1]) (ok_snoc _ _ _ hok) (by rw [List.length_append]; simp; omega) (by rw [List.length_append]; simp; omega)
      refine ⟨keep, d' + 1, by omega, e2, e3, fun k => ?_⟩
      rw [show k + (d' + 1) + 1 = (k + d' + 1) + 1 by omega, redlinelaw05_EditsReach.l0, if_pos hc, if_pos (by omega), e4 k]
    · refine ⟨x8.take a.length, 0, by omega, ok_take _ _ _ _ hok, by rw [List.length_take]; omega, fun k => ?_⟩
      rw [redlinelaw05_EditsReach.l0, if_neg hc, if_pos (by omega), if_pos (by omega), if_pos h0, if_pos (by omega), Int.toNat_natCast]

theorem fill_run (a more : List ByteArray) (m : Int) (keep : List Int) (hm : m ≤ 1073741824) (d : Nat) : ∀ (i : Nat) (b : List ByteArray), (i : Int) + d = m → (b.length : Int) = m →
    ∃ b' : List ByteArray, (b'.length : Int) = m ∧ ∀ k, redlinelaw05_EditsReach.l1 (k + d + 1) a more m keep b i = redlinelaw05_EditsReach.l2 k a m keep b' 0 := by
  induction d with
  | zero =>
    intro i b hi hb
    exact ⟨b, hb, fun k => by rw [redlinelaw05_EditsReach.l1, if_neg (by omega)]⟩
  | succ d ih =>
    intro i b hi hb
    have p1 : (i : Int) < m := by omega
    have p2 : (0 : Int) ≤ (i : Int) := by omega
    have p3 : (i : Int) < (b.length : Int) := by omega
    have hw := wrap_succ i (by omega)
    by_cases hmore : (more.length : Int) > 0
    · have t1 := Int.tmod_nonneg (more.length : Int) p2
      have t2 := Int.tmod_lt_of_pos (i : Int) hmore
      have p4 : ¬ (more.length : Int) = 0 := by omega
      obtain ⟨b', e1, e2⟩ := ih (i + 1) (b.set i (rdOf ByteArray.empty more (Int.tmod (i : Int) (more.length : Int)))) (by omega) (by rw [List.length_set]; exact hb)
      refine ⟨b', e1, fun k => ?_⟩
      rw [show k + (d + 1) + 1 = (k + d + 1) + 1 by omega, redlinelaw05_EditsReach.l1, if_pos p1, if_pos hmore, if_neg p4, if_pos t1, if_pos t2, if_pos p2, if_pos p3, hw, Int.toNat_natCast]
      exact e2 k
    · obtain ⟨b', e1, e2⟩ := ih (i + 1) b (by omega) hb
      refine ⟨b', e1, fun k => ?_⟩
      rw [show k + (d + 1) + 1 = (k + d + 1) + 1 by omega, redlinelaw05_EditsReach.l1, if_pos p1, if_neg hmore, hw]
      exact e2 k

theorem set_run (a : List ByteArray) (m : Int) (keep : List Int) (hok : okM keep 0 m = true) (hl : keep.length = a.length) (ha : a.length ≤ 1000) (d : Nat) : ∀ (i : Nat) (b : List ByteArray), i + d = keep.length → (b.length : Int) = m →
    (∀ j : Nat, j < i → 0 ≤ rd keep (j : Int) → a[j]? = b[(rd keep (j : Int)).toNat]?) →
    ∃ b' : List ByteArray, (b'.length : Int) = m ∧ (∀ j : Nat, j < keep.length → 0 ≤ rd keep (j : Int) → a[j]? = b'[(rd keep (j : Int)).toNat]?) ∧ ∀ k, redlinelaw05_EditsReach.l2 (k + d + 1) a m keep b i = redlinelaw05_EditsReach.l2 (k + 1) a m keep b' keep.length := by
  induction d with
  | zero =>
    intro i b hi hb hj
    have : i = keep.length := by omega
    subst this
    exact ⟨b, hb, hj, fun k => rfl⟩
  | succ d ih =>
    intro i b hi hb hj
    have p1 : (i : Int) < (keep.length : Int) := by omega
    have p2 : (0 : Int) ≤ (i : Int) := by omega
    have p3 : (i : Int) < (a.length : Int) := by omega
    have hw := wrap_succ i (by omega)
    by_cases hc : rd keep (i : Int) ≥ 0
    · have hr := ok_range keep 0 m hok i (by omega)
      have p4 : rd keep (i : Int) < (b.length : Int) := by rcases hr with h | ⟨_, h⟩ <;> omega
      obtain ⟨b', e1, e2, e3⟩ := ih (i + 1) (b.set (rd keep (i : Int)).toNat (rdOf ByteArray.empty a (i : Int))) (by omega) (by rw [List.length_set]; exact hb) (fun j hji h0 => by
        rcases Nat.lt_succ_iff_lt_or_eq.1 hji with h | rfl
        · have h1 := ok_rise keep 0 m hok j i h (by omega) (by omega) (by omega)
          rw [List.getElem?_set_ne (by omega)]
          exact hj j h h0
        · have hja : j < a.length := by omega
          rw [List.getElem?_set_self (by omega), List.getElem?_eq_getElem hja]
          unfold rdOf
          rw [Int.toNat_natCast, List.getD_eq_getElem?_getD, List.getElem?_eq_getElem hja]
          rfl)
      refine ⟨b', e1, e2, fun k => ?_⟩
      rw [show k + (d + 1) + 1 = (k + d + 1) + 1 by omega, redlinelaw05_EditsReach.l2, if_pos p1, if_pos p2, if_pos hc, if_pos p3, if_pos hc, if_pos p4, hw]
      exact e3 k
    · obtain ⟨b', e1, e2, e3⟩ := ih (i + 1) b (by omega) hb (fun j hji h0 => by
        rcases Nat.lt_succ_iff_lt_or_eq.1 hji with h | rfl
        · exact hj j h h0
        · exact absurd h0 hc)
      refine ⟨b', e1, e2, fun k => ?_⟩
      rw [show k + (d + 1) + 1 = (k + d + 1) + 1 by omega, redlinelaw05_EditsReach.l2, if_pos p1, if_pos p2, if_neg hc, hw]
      exact e3 k

theorem editsReach_pure (a : List ByteArray) (l : List Int) (more : List ByteArray) (hmore : more.length ≤ 1048576) : ∃ k, redlinelaw05_EditsReach.f k a l more = some true := by
  have big : ∀ k, redlinelaw05_EditsReach.j0 (k + 1) a l more true = some true := by
    intro k
    rw [redlinelaw05_EditsReach.j0, if_pos rfl]
  unfold redlinelaw05_EditsReach.f
  by_cases h1 : (a.length : Int) > 200
  · exact ⟨4 + 1, by rw [Reach.works_run _ (by omega), Option.bind_some, if_pos rfl, if_pos h1]; exact big 4⟩
  by_cases h2 : (l.length : Int) > 200
  · refine ⟨4 + 1, ?_⟩
    have e : decide ((l.length : Int) > 200) = true := by simpa using h2
    rw [Reach.works_run _ (by omega), Option.bind_some, if_pos rfl, if_neg h1, e]
    exact big 4
  obtain ⟨m, hm⟩ : ∃ m : Nat, m = a.length + more.length := ⟨_, rfl⟩
  have hwm : wrap64 ((a.length : Int) + (more.length : Int)) = (m : Int) := by rw [w64 (by omega) (by omega)]; omega
  obtain ⟨K0, ok0, l0, k0⟩ := Reach.kept_f l m (by omega) (by omega)
  obtain ⟨keep, d', hd', okK, lK, kK⟩ := pad_run a more m (by omega) (by omega) (by omega) a.length K0 ok0 (by omega) (by omega)
  obtain ⟨b1, lb1, kb1⟩ := fill_run a more m keep (by omega) m 0 (List.replicate ((m : Nat) : Int).toNat (⟨#[]⟩ : ByteArray)) (by omega) (by simp)
  obtain ⟨b, lb, ag, kb⟩ := set_run a m keep okK lK (by omega) keep.length 0 b1 (by omega) lb1 (fun j hj => by omega)
  have okB : okM keep 0 b.length = true := by rw [lb]; exact okK
  obtain ⟨r1, r2, r3⟩ := reach_script (a := a) (b := b) (keep := keep) lK (by omega) (by omega) okB ag
  have mk := make_ok (l := keep) (m := b.length) (by omega) (by omega) (by omega) okB
  rw [lb] at r1 r2 r3 mk
  have hbl : b.length = m := by omega
  have e3 : decide ((l.length : Int) > 200) = false := by simpa using h2
  have fin : redlinelaw05_EditsReach.l2 ((a.length + b.length + 2) + 1) a m keep b keep.length = some true := by
    rw [redlinelaw05_EditsReach.l2, if_neg (by omega), mk, Option.bind_some]
    dsimp only
    rw [if_pos rfl, r1, Option.bind_some]
    dsimp only
    rw [if_pos rfl, Reach.sameTexts b (by omega) _ (by omega), Option.bind_some, show a.length + b.length + 2 = (a.length + b.length + 1) + 1 by omega, redlinelaw05_EditsReach.j4, if_neg (by simp), r2, Option.bind_some, r3, Option.bind_some]
    dsimp only
    rw [if_pos rfl, Reach.sameTexts a (by omega) _ (by omega)]
    rfl
  have s2 := kb (a.length + b.length + 2)
  rw [fin] at s2
  have s1 := kb1 (a.length + b.length + 2 + keep.length + 1)
  rw [show ((0 : Nat) : Int) = 0 from rfl] at s2 s1
  rw [s2] at s1
  have s0 := kK (a.length + b.length + 2 + keep.length + 1 + m + 1)
  rw [s1] at s0
  refine ⟨((a.length + b.length + 2 + keep.length + 1 + m + 1) + d' + 1) + l.length + 4 + 1, ?_⟩
  rw [Reach.works_run _ (by omega), Option.bind_some, if_pos rfl, if_neg h1, e3, redlinelaw05_EditsReach.j0, if_neg (by simp), hwm, k0 _ (by omega), Option.bind_some]
  exact fuel_le (fun k => (redlinelaw05_EditsReach.mono_l k).2.1 _ _ _ _) (by omega) s0
end Go.Proofs.Ytpkhfeeelkhkaaa.Y
