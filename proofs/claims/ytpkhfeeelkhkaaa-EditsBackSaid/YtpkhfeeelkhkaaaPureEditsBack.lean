/-
  EditsBack, the plain law: script and kept lines are made out of one another, going back keeps the same pairs, twice back is the script, and the costs are as told.
-/
import Derived.Test.YtpkhfeeelkhkaaaX30
import Derived.Test.YtpkhfeeelkhkaaaEBack
namespace Go.Proofs.Ytpkhfeeelkhkaaa.Y
open Go.RowKit Go.Proofs.Ytpkhfeeelkhkaaa.X Go.Proofs.YtpkhfeeelkhkaaaW.PrintWords Go.Proofs.YtpkhfeeelkhkaaaW.PrintLast Go.Proofs.YtpkhfeeelkhkaaaW.PrintMore
set_option linter.unusedVariables false

namespace Back
theorem sameInts_run (l : List Int) (h1 : l.length ≤ 17592186044416) (d : Nat) : ∀ i : Nat, i + d = l.length → redlineref04_SameInts.l0 (d + 1) l l i = some true := by
  induction d with
  | zero =>
    intro i hi
    rw [redlineref04_SameInts.l0, if_neg (by omega)]
  | succ d ih =>
    intro i hi
    rw [redlineref04_SameInts.l0, if_pos (by omega), if_pos (by omega), if_pos (by omega), if_pos rfl, w64 (by omega) (by omega), show (i : Int) + 1 = ((i + 1 : Nat) : Int) by omega]
    exact ih (i + 1) (by omega)
theorem sameInts_refl (l : List Int) (h1 : l.length ≤ 17592186044416) (k : Nat) (hk : l.length + 1 ≤ k) : redlineref04_SameInts.f k l l = some true := by
  unfold redlineref04_SameInts.f
  rw [if_pos rfl]
  exact fuel_le (fun k => redlineref04_SameInts.mono_l k _ _ _) hk (sameInts_run l h1 l.length 0 (by omega))
theorem sameCh_run (l : List S54) (h1 : l.length ≤ 4398046511104) (d : Nat) : ∀ i : Nat, i + d = l.length → redlineref05_Same.l0 (d + 1) l l i = some true := by
  induction d with
  | zero =>
    intro i hi
    rw [redlineref05_Same.l0, if_neg (by omega)]
  | succ d ih =>
    intro i hi
    rw [redlineref05_Same.l0, if_pos (by omega), if_pos (by omega), if_pos (by omega), if_neg (by simp), w64 (by omega) (by omega), show (i : Int) + 1 = ((i + 1 : Nat) : Int) by omega]
    exact ih (i + 1) (by omega)
theorem sameCh_refl (l : List S54) (h1 : l.length ≤ 4398046511104) (k : Nat) (hk : l.length + 1 ≤ k) : redlineref05_Same.f k l l = some true := by
  unfold redlineref05_Same.f
  rw [if_pos rfl]
  exact fuel_le (fun k => redlineref05_Same.mono_l k _ _ _) hk (sameCh_run l h1 l.length 0 (by omega))

/-- The given example. -/
theorem works_run (k : Nat) (hk : 4 ≤ k) : redlinelaw05_works.f k = some true := by
  have hok : okM [0, -1, 2] 0 4 = true := rfl
  have h1 := make_ok (l := [0, -1, 2]) (m := 4) (by simp) (by omega) (by omega) hok
  have h2 := keep_script (l := [0, -1, 2]) (m := 4) (by simp) (by omega) (by omega) hok
  have h3 : scriptOf [0, -1, 2] 4 = [⟨1, 1, 1, 1⟩, ⟨3, 0, 3, 1⟩] := rfl
  have h4 : edits_Cost.f [⟨1, 1, 1, 1⟩, ⟨3, 0, 3, 1⟩] = some 3 := rfl
  rw [h3] at h1 h2
  have h2' : edits_Keep.f [⟨1, 1, 1, 1⟩, ⟨3, 0, 3, 1⟩] 3 4 = some ([0, -1, 2], 0) := h2
  unfold redlinelaw05_works.f
  rw [h1, Option.bind_some, h2', Option.bind_some]
  dsimp only
  rw [if_pos rfl, sameCh_refl _ (by simp) k (by simp only [List.length_cons, List.length_nil]; omega), Option.bind_some, if_pos rfl, if_pos rfl, sameInts_refl _ (by simp) k (by simp only [List.length_cons, List.length_nil]; omega), Option.bind_some, if_pos rfl, h4]
  rfl

/-- What Kept gives is a rising list, as long as what it was made of. -/
theorem kept_run (l : List Int) (m : Int) (hl : l.length ≤ 1000) (hm : m ≤ 1000) (d : Nat) : ∀ (i : Nat) (next : Int) (acc : List Int), i + d = l.length → 0 ≤ next → next ≤ 1001 → acc.length ≤ i →
    ∃ res, redlinelaw05_Kept.l0 (d + 1) l m acc next i = some (acc ++ res) ∧ okM res next m = true ∧ res.length = d := by
  induction d with
  | zero =>
    intro i next acc hi h0 h1 hacc
    exact ⟨[], by rw [redlinelaw05_Kept.l0, if_neg (by omega), List.append_nil], rfl, rfl⟩
  | succ d ih =>
    intro i next acc hi h0 h1 hacc
    have p1 : (i : Int) < (l.length : Int) := by omega
    have p2 : (0 : Int) ≤ (i : Int) := by omega
    have p3 : acc.length < 17592186044416 := by omega
    have hw := wrap_succ i (by omega)
    rw [redlinelaw05_Kept.l0, if_pos p1, if_pos p2, hw]
    generalize (wrap64 ((wrap64 (next + (wrap64 (Int.tmod (IntKind.u64.wrap (rd l (i : Int))) 4)))) - 1)) = v
    have bad : ∃ res, redlinelaw05_Kept.l0 (d + 1) l m (acc ++ [(-1)]) next ((i + 1 : Nat) : Int) = some (acc ++ res) ∧ okM res next m = true ∧ res.length = d + 1 := by
      obtain ⟨res, e1, e2, e3⟩ := ih (i + 1) next (acc ++ [-1]) (by omega) h0 h1 (by rw [List.length_append]; simp; omega)
      refine ⟨-1 :: res, by rw [e1]; simp, ?_, by simp [e3]⟩
      rw [okM, if_pos rfl]
      exact e2
    by_cases h2 : v < next
    · rw [if_pos h2, if_pos p3]
      exact bad
    · rw [if_neg h2]
      by_cases h3 : v ≥ m
      · rw [if_pos h3, if_pos p3]
        exact bad
      · have hw2 : Aside0 (wrap64 (v + 1) = v + 1) := ⟨w64 (by omega) (by omega)⟩
        rw [if_neg h3, if_pos p3, hw2.out]
        obtain ⟨res, e1, e2, e3⟩ := ih (i + 1) (v + 1) (acc ++ [v]) (by omega) (by omega) (by omega) (by rw [List.length_append]; simp; omega)
        refine ⟨v :: res, by rw [e1]; simp, ?_, by simp [e3]⟩
        have q1 : decide (next ≤ v) = true := by simp; omega
        have q2 : decide (v < m) = true := by simp; omega
        rw [okM, if_neg (by omega), q1, q2, e2]
        rfl
theorem kept_f (l : List Int) (m : Int) (hl : l.length ≤ 1000) (hm : m ≤ 1000) : ∃ res, okM res 0 m = true ∧ res.length = l.length ∧ ∀ k, l.length + 1 ≤ k → redlinelaw05_Kept.f k l m = some res := by
  obtain ⟨res, e1, e2, e3⟩ := kept_run l m hl hm l.length 0 0 [] (by omega) (by omega) (by omega) (by simp)
  exact ⟨res, e2, e3, fun k hk => fuel_le (fun k => redlinelaw05_Kept.mono_l k _ _ _ _ _) hk e1⟩

theorem modM (x : Int) : 0 ≤ wrap64 (Int.tmod (IntKind.u64.wrap x) 300) ∧ wrap64 (Int.tmod (IntKind.u64.wrap x) 300) < 300 := by
  have h1 : 0 ≤ IntKind.u64.wrap x := by
    rw [IntKind.wrap_u64]
    omega
  have h2 := Int.tmod_nonneg (300 : Int) h1
  have h3 := Int.tmod_lt_of_pos (IntKind.u64.wrap x) (b := 300) (by omega)
  generalize Int.tmod (IntKind.u64.wrap x) 300 = y at h2 h3 ⊢
  rw [w64 (by omega) (by omega)]
  omega

theorem script_length (l : List Int) (m : Int) : (scriptOf l m).length ≤ l.length + 1 := restM_length l 0 0 0 m


theorem taken_run (l : List Int) (hl : l.length ≤ 1000) (d : Nat) : ∀ (i : Nat) (x : Int), i + d = l.length → 0 ≤ x → x ≤ i →
    redlinelaw05_taken.l0 (d + 1) l x i = some (x + ((l.drop i).length : Int) - cnt (l.drop i)) := by
  induction d with
  | zero =>
    intro i x hi h0 h1
    rw [redlinelaw05_taken.l0, if_neg (by omega), List.drop_of_length_le (by omega)]
    simp [cnt]
  | succ d ih =>
    intro i x hi h0 h1
    have hil : i < l.length := by omega
    have e : l.drop i = rd l (i : Int) :: l.drop (i + 1) := by
      rw [List.drop_eq_getElem_cons hil]
      simp [rd, List.getD_eq_getElem?_getD, List.getElem?_eq_getElem hil]
    rw [redlinelaw05_taken.l0, if_pos (by omega), if_pos (by omega), wrap_succ i (by omega), e]
    by_cases hc : rd l (i : Int) < 0
    · rw [if_pos hc, w64 (by omega) (by omega), ih (i + 1) (x + 1) (by omega) (by omega) (by omega), List.length_cons, cnt, if_neg (by omega)]
      congr 1
      omega
    · rw [if_neg hc, ih (i + 1) x (by omega) (by omega) (by omega), List.length_cons, cnt, if_pos (by omega)]
      congr 1
      omega
theorem taken_f (l : List Int) (hl : l.length ≤ 1000) (k : Nat) (hk : l.length + 1 ≤ k) : redlinelaw05_taken.f k l = some ((l.length : Int) - cnt l) := by
  unfold redlinelaw05_taken.f
  have := taken_run l hl l.length 0 0 (by omega) (by omega) (by omega)
  rw [List.drop_zero, Int.zero_add] at this
  exact fuel_le (fun k => redlinelaw05_taken.mono_l k _ _ _) hk this
theorem cnt_drop (l : List Int) (i : Nat) (h : i < l.length) : cnt (l.drop i) = (if 0 ≤ rd l (i : Int) then 1 else 0) + cnt (l.drop (i + 1)) := by
  have e : l.drop i = rd l (i : Int) :: l.drop (i + 1) := by
    rw [List.drop_eq_getElem_cons h]
    simp [rd, List.getD_eq_getElem?_getD, List.getElem?_eq_getElem h]
  rw [e, cnt]
theorem cnt_le : ∀ l : List Int, cnt l ≤ l.length
  | [] => Nat.le_refl _
  | x :: l => by have := cnt_le l; rw [cnt, List.length_cons]; split <;> omega
end Back

theorem back_l1 (keep back : List Int) (m : Int) (x6 : List S54) (hb : (back.length : Int) = m) (hm : m ≤ 1000) (K : Nat) (b : Bool) (hend : ∀ k, K ≤ k → ((edits_Cost.f x6).bind fun t348 => ((redlinelaw05_taken.f k keep).bind fun t349 => (some (t348 == (wrap64 ((wrap64 ((keep.length : Int) + m)) - (wrap64 (2 * (wrap64 ((keep.length : Int) - t349)))))))))) = some b) (d : Nat) :
    ∀ (i : Nat) (x : Int), (i : Int) + d = m → x = cnt (back.drop i) → redlinelaw05_EditsBack.l1 (K + d + 1) m keep x6 back x i = some b := by
  induction d with
  | zero =>
    intro i x hi hx
    rw [List.drop_of_length_le (by omega)] at hx
    rw [redlinelaw05_EditsBack.l1, if_neg (by omega), if_pos (by simpa [cnt] using hx), hend _ (by omega)]
  | succ d ih =>
    intro i x hi hx
    have hil : i < back.length := by omega
    have hl := Back.cnt_le (back.drop (i + 1))
    rw [List.length_drop] at hl
    rw [Back.cnt_drop back i hil] at hx
    rw [show K + (d + 1) + 1 = (K + d + 1) + 1 by omega, redlinelaw05_EditsBack.l1, if_pos (by omega), if_pos (by omega), if_pos (by omega), wrap_succ i (by omega)]
    by_cases hc : rd back (i : Int) ≥ 0
    · rw [if_pos hc] at hx
      rw [if_pos hc, w64 (by omega) (by omega)]
      exact ih (i + 1) (x - 1) (by omega) (by omega)
    · rw [if_neg hc] at hx
      rw [if_neg hc]
      exact ih (i + 1) x (by omega) (by omega)
theorem back_l0 (keep back : List Int) (m : Int) (x6 : List S54) (b : Bool) (hl : keep.length ≤ 1000) (hpair : ∀ i : Nat, i < keep.length → 0 ≤ rd keep (i : Int) → ∃ j : Nat, rd keep (i : Int) = 0 + j ∧ j < back.length ∧ rd back (j : Int) = 0 + i)
    (K : Nat) (hend : redlinelaw05_EditsBack.l1 K m keep x6 back (cnt keep) 0 = some b) (d : Nat) :
    ∀ (i : Nat) (x : Int), i + d = keep.length → x + cnt (keep.drop i) = cnt keep → 0 ≤ x → redlinelaw05_EditsBack.l0 (K + d + 1) m keep x6 back x i = some b := by
  induction d with
  | zero =>
    intro i x hi hx h0
    rw [List.drop_of_length_le (by omega)] at hx
    have : x = cnt keep := by simpa [cnt] using hx
    rw [redlinelaw05_EditsBack.l0, if_neg (by omega), this]
    exact hend
  | succ d ih =>
    intro i x hi hx h0
    have hil : i < keep.length := by omega
    have hcl := Back.cnt_le keep
    rw [Back.cnt_drop keep i hil] at hx
    rw [show K + (d + 1) + 1 = (K + d + 1) + 1 by omega, redlinelaw05_EditsBack.l0, if_pos (by omega), if_pos (by omega), wrap_succ i (by omega)]
    by_cases hc : rd keep (i : Int) ≥ 0
    · obtain ⟨j, g1, g2, g3⟩ := hpair i hil hc
      rw [if_pos hc] at hx
      have e3 : rd back (rd keep (i : Int)) = (i : Int) := by rw [g1, Int.zero_add, g3, Int.zero_add]
      rw [if_pos hc, if_pos hc, if_pos (by omega), if_pos e3, w64 (by omega) (by omega)]
      exact ih (i + 1) (x + 1) (by omega) (by omega) (by omega)
    · rw [if_neg hc] at hx
      rw [if_neg hc]
      exact ih (i + 1) x (by omega) (by omega) h0

/-- All that the law asks of a rising list's script, behind the making. -/
theorem back_tail (keep : List Int) (m : Int) (hl : keep.length ≤ 300) (h0 : 0 ≤ m) (hm : m < 300) (hok : okM keep 0 m = true) (k : Nat) (hk : 5000 ≤ k) :
    redlinelaw05_EditsBack.j0 k m keep (scriptOf keep m) false = some true ∧ redlinelaw05_EditsBack.j5 k m keep (scriptOf keep m) false = some true := by
  have hkeep := keep_script (l := keep) (m := m) (by omega) h0 (by omega) hok
  have hchk := script_chk (l := keep) (m := m) (by omega) h0 (by omega) hok
  have hK := script_keep (l := keep) (m := m) (by omega) h0 (by omega) hok
  have hslen := Back.script_length keep m
  have hci : chk ((scriptOf keep m).map inv1) m keep.length = 0 := chkG_inv keep.length m _ true 0 0 hchk
  obtain ⟨b1, b2, b3, b4, b5, b6⟩ := back_script keep.length m (scriptOf keep m) true 0 0 (by omega) (by omega) hchk
  obtain ⟨c1, c2, c3, c4, c5⟩ := cost_sum keep.length m (scriptOf keep m) true 0 0 0 hchk (by omega) (by omega) (by omega) (by omega)
  obtain ⟨d1, _⟩ := cost_sum m keep.length ((scriptOf keep m).map inv1) true 0 0 0 hci (by omega) (by omega) (by omega) (by omega)
  rw [sA_inv, sB_inv] at d1
  rw [hK] at b1 b3 b4 b6
  obtain ⟨B, hB⟩ : ∃ B, keepOf (pieces ((scriptOf keep m).map inv1) m 0 0) = B := ⟨_, rfl⟩
  rw [hB] at b2 b3 b5 b6
  obtain ⟨S, hS⟩ : ∃ S, scriptOf keep m = S := ⟨_, rfl⟩
  have hinv : edits_Invert.f S = some (S.map inv1) := by unfold edits_Invert.f; rw [if_pos (by rw [← hS]; omega)]
  have hinv2 : edits_Invert.f (S.map inv1) = some S := by unfold edits_Invert.f; rw [if_pos (by rw [List.length_map, ← hS]; omega), inv_inv]
  rw [hS] at hkeep hslen hci hB c1 c2 c3 c4 c5 d1 b4 b5
  have hback : edits_Keep.f (S.map inv1) m keep.length = some (B, 0) := by
    unfold edits_Keep.f
    rw [if_pos ⟨by rw [List.length_map]; omega, by omega, by omega⟩, if_pos hci, if_pos (by omega), hB]
  have hcost : edits_Cost.f S = some (0 + sA S + sB S) := by unfold edits_Cost.f; rw [c1]
  have hcost2 : edits_Cost.f (S.map inv1) = some (0 + sA S + sB S) := by
    unfold edits_Cost.f
    rw [d1]
    congr 1
    omega
  have hfin : ∀ k, 301 ≤ k → ((edits_Cost.f S).bind fun t348 => ((redlinelaw05_taken.f k keep).bind fun t349 => (some (t348 == (wrap64 ((wrap64 ((keep.length : Int) + m)) - (wrap64 (2 * (wrap64 ((keep.length : Int) - t349)))))))))) = some true := by
    intro k hk
    rw [hcost, Option.bind_some, Back.taken_f keep (by omega) k (by omega), Option.bind_some]
    have hcl := Back.cnt_le keep
    have w1 : wrap64 ((keep.length : Int) + m) = (keep.length : Int) + m := w64 (by omega) (by omega)
    have w2 : wrap64 ((keep.length : Int) - ((keep.length : Int) - (cnt keep : Int))) = (cnt keep : Int) := by rw [w64 (by omega) (by omega)]; omega
    have w3 : wrap64 (2 * (cnt keep : Int)) = 2 * (cnt keep : Int) := w64 (by omega) (by omega)
    have w4 : wrap64 ((keep.length : Int) + m - 2 * (cnt keep : Int)) = (keep.length : Int) + m - 2 * (cnt keep : Int) := w64 (by omega) (by omega)
    rw [w1, w2, w3, w4]
    congr 1
    rw [beq_iff_eq]
    omega
  have f1 := back_l1 keep B m S (by omega) (by omega) 301 true hfin m.toNat 0 (cnt keep) (by omega) (by rw [List.drop_zero, b3])
  have f0 := back_l0 keep B m S true (by omega) b6 (301 + m.toNat + 1) f1 keep.length 0 0 (by omega) (by rw [List.drop_zero]; omega) (by omega)
  have f0' : ∀ k, 1000 ≤ k → redlinelaw05_EditsBack.l0 k m keep S B 0 0 = some true := fun k hk =>
    fuel_le (fun k => (redlinelaw05_EditsBack.mono_l k).2.2.2.1 _ _ _ _ _ _) (by omega) f0
  have hBl : (B.length : Int) = m := by omega
  have hne : ((0 + sA S + sB S) != (0 + sA S + sB S)) = false := by simp
  rw [hS]
  constructor
  · obtain ⟨q, rfl⟩ : ∃ q, k = q + 1 + 1 + 1 := ⟨k - 3, by omega⟩
    rw [redlinelaw05_EditsBack.j0, if_neg (by simp), hkeep, Option.bind_some]
    dsimp only
    rw [if_pos rfl, Back.sameInts_refl keep (by omega) _ (by omega), Option.bind_some, redlinelaw05_EditsBack.j1, if_neg (by simp), hinv, Option.bind_some, hback, Option.bind_some]
    dsimp only
    rw [if_pos rfl, if_pos hBl, hinv2, Option.bind_some, Back.sameCh_refl S (by omega) _ (by omega), Option.bind_some, if_pos rfl, hcost2, Option.bind_some, hcost, Option.bind_some, hne, redlinelaw05_EditsBack.j2, if_neg (by simp)]
    exact f0' q (by omega)
  · obtain ⟨q, rfl⟩ : ∃ q, k = q + 1 + 1 + 1 := ⟨k - 3, by omega⟩
    rw [redlinelaw05_EditsBack.j5, if_neg (by simp), hkeep, Option.bind_some]
    dsimp only
    rw [if_pos rfl, Back.sameInts_refl keep (by omega) _ (by omega), Option.bind_some, redlinelaw05_EditsBack.j6, if_neg (by simp), hinv, Option.bind_some, hback, Option.bind_some]
    dsimp only
    rw [if_pos rfl, if_pos hBl, hinv2, Option.bind_some, Back.sameCh_refl S (by omega) _ (by omega), Option.bind_some, if_pos rfl, hcost2, Option.bind_some, hcost, Option.bind_some, hne, redlinelaw05_EditsBack.j7, if_neg (by simp)]
    exact f0' q (by omega)

theorem editsBack_pure (l : List Int) (a : Int) : ∃ k, redlinelaw05_EditsBack.f k l a = some true := by
  refine ⟨6000, ?_⟩
  obtain ⟨m0, m1⟩ := Back.modM a
  unfold redlinelaw05_EditsBack.f
  rw [Back.works_run _ (by omega), Option.bind_some, if_pos rfl]
  generalize wrap64 (Int.tmod (IntKind.u64.wrap a) 300) = m at m0 m1 ⊢
  by_cases hc : (l.length : Int) > 300
  · obtain ⟨keep, ok, lk, kk⟩ := Back.kept_f (l.take 300) m (by rw [List.length_take]; omega) (by omega)
    rw [List.length_take] at lk kk
    have hchk := script_chk (l := keep) (m := m) (by omega) m0 (by omega) ok
    have hsl := Back.script_length keep m
    have ht := (back_tail keep m (by omega) m0 m1 ok 6000 (by omega)).1
    rw [if_pos hc, if_pos (by omega), kk _ (by omega), Option.bind_some, make_ok (by omega) m0 (by omega) ok, Option.bind_some]
    dsimp only
    rw [if_pos rfl, fuel_le (fun k => edits_Check.mono _ _ _ k) (by omega) (check_f (scriptOf keep m) (by omega) keep.length m (by omega) (by omega)), Option.bind_some, hchk]
    exact ht
  · obtain ⟨keep, ok, lk, kk⟩ := Back.kept_f l m (by omega) (by omega)
    have hchk := script_chk (l := keep) (m := m) (by omega) m0 (by omega) ok
    have hsl := Back.script_length keep m
    have ht := (back_tail keep m (by omega) m0 m1 ok 6000 (by omega)).2
    rw [if_neg hc, kk _ (by omega), Option.bind_some, make_ok (by omega) m0 (by omega) ok, Option.bind_some]
    dsimp only
    rw [if_pos rfl, fuel_le (fun k => edits_Check.mono _ _ _ k) (by omega) (check_f (scriptOf keep m) (by omega) keep.length m (by omega) (by omega)), Option.bind_some, hchk]
    exact ht
end Go.Proofs.Ytpkhfeeelkhkaaa.Y
namespace Go.Proofs.Ytpkhfeeelkhkaaa.Pure
open Go.RowKit Go.Proofs.Ytpkhfeeelkhkaaa.X Go.Proofs.YtpkhfeeelkhkaaaW.PrintWords Go.Proofs.YtpkhfeeelkhkaaaW.PrintLast
theorem EditsBack : redlinelaw05_EditsBack.Pure := fun l a _ _ _ _ => Y.editsBack_pure l a
end Go.Proofs.Ytpkhfeeelkhkaaa.Pure
