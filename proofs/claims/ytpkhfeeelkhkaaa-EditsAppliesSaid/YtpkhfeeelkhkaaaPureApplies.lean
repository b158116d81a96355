/-
  EditsApplies, the plain law: program and reference make the same text of a right script and two texts, and refuse the same.
-/
import Derived.Test.YtpkhfeeelkhkaaaX10
import Derived.Test.YtpkhfeeelkhkaaaEApply
namespace Go.Proofs.Ytpkhfeeelkhkaaa.X
open Go.RowKit Go.Proofs.YtpkhfeeelkhkaaaW.PrintWords Go.Proofs.YtpkhfeeelkhkaaaW.PrintLast Go.Proofs.YtpkhfeeelkhkaaaW.PrintMore
set_option linter.unusedVariables false

theorem mono_le {α : Type} {F : Nat → Option α} (h : ∀ k, LeO (F k) (F (k + 1))) {k k' : Nat} (hk : k ≤ k') {r : α} (e : F k = some r) : F k' = some r := by
  induction hk with
  | refl => exact e
  | step _ ih => exact h _ _ ih
theorem chkG_vals (n m : Int) : ∀ (l : List S54) (fst : Bool) (a b : Int), chkG l fst n m a b = 0 ∨ chkG l fst n m a b = 50
  | [], fst, a, b => by
    unfold chkG
    repeat (first | (split) | (exact .inl rfl) | (exact .inr rfl))
  | c :: l, fst, a, b => by
    have ih := chkG_vals n m l false (c.f0 + c.f1) (c.f2 + c.f3)
    unfold chkG
    repeat (first | (split) | (exact ih) | (exact .inr rfl))
theorem chk_vals (l : List S54) (n m : Int) : chk l n m = 0 ∨ chk l n m = 50 := chkG_vals n m l true 0 0

/-- What is kept ahead of a change. -/
theorem apply_gap (a b : List ByteArray) (at_ tt bb : Int) (h0 : 0 ≤ at_) (h1 : at_ ≤ tt) : applyOf a b (if at_ < tt then [((⟨at_, tt - at_, bb, tt - at_⟩ : S54), true)] else []) = (a.take tt.toNat).drop at_.toNat := by
  split
  · show apply1 a b _ ++ applyOf a b [] = _
    unfold apply1
    rw [if_pos rfl, List.drop_take]
    show _ ++ [] = _
    rw [List.append_nil, show tt.toNat - at_.toNat = (tt - at_).toNat by omega]
  · rw [List.drop_of_length_le (by rw [List.length_take]; omega)]
    rfl

theorem refApply_loop (l : List S54) (a b : List ByteArray) (hl : l.length < 4398046511104) (ha : a.length < 8796093022208) (hb : b.length < 8796093022208) (d : Nat) :
    ∀ (i : Nat) (at_ bb : Int) (fst : Bool) (x8 : List ByteArray), i + d = l.length → 0 ≤ at_ → 0 ≤ bb → (x8.length : Int) = bb → chkG (l.drop i) fst a.length b.length at_ bb = 0 →
      redlineref05_Apply.l0 (d + 1) l a b x8 at_ i = some (x8 ++ applyOf a b (pieces (l.drop i) a.length at_ bb), 0) := by
  induction d with
  | zero =>
    intro i at_ bb fst x8 hi h0 h1 hx hc
    rw [List.drop_of_length_le (by omega)] at hc ⊢
    obtain ⟨g1, g2, g3⟩ := chkG_nil hc
    have hgap := apply_gap a b at_ a.length bb h0 g1
    rw [redlineref05_Apply.l0, if_neg (by omega), if_pos h0, if_pos g1, if_pos (by rw [List.length_drop]; omega)]
    rw [pieces, hgap, Int.toNat_natCast, List.take_length]
  | succ d ih =>
    intro i at_ bb fst x8 hi h0 h1 hx hc
    have hil : i < l.length := by omega
    have hd := drop_T54 l (i : Int) (by omega) (by omega)
    rw [show ((i : Int) + 1).toNat = i + 1 by omega, Int.toNat_natCast] at hd
    rw [hd] at hc ⊢
    generalize hcc : rd_T54 l (i : Int) = c at hc ⊢
    have R := right_of_chk a.length b.length _ fst at_ bb h0 h1 hc
    have r2 := R.le_m
    obtain ⟨⟨⟨x0, x1⟩, ⟨y0, y1⟩, ⟨z0, z1⟩, ⟨t0, t1⟩⟩, g2, g3, g4, g5, g6⟩ := chkG_cons hc
    have R' := right_of_chk a.length b.length _ false _ _ (by omega) (by omega) g6
    have q1 := R'.le_n
    have q2 := R'.le_m
    have p3 : c.f0 ≤ (a.length : Int) := by omega
    have p5 : c.f2 ≤ c.f2 + c.f3 := by omega
    have r1' : c.f2 + c.f3 ≤ (b.length : Int) := q2
    have hgap := apply_gap a b at_ c.f0 bb h0 g3
    have hlen : ((a.take c.f0.toNat).drop at_.toNat).length = (c.f0 - at_).toNat := by rw [List.length_drop, List.length_take]; omega
    have hw : wrap64 (c.f2 + c.f3) = c.f2 + c.f3 := w64 (by omega) (by omega)
    have hw2 : wrap64 (c.f0 + c.f1) = c.f0 + c.f1 := w64 (by omega) (by omega)
    have hw3 : wrap64 ((i : Int) + 1) = ((i + 1 : Nat) : Int) := by rw [w64 (by omega) (by omega)]; omega
    have hlen2 : ((b.take (c.f2 + c.f3).toNat).drop c.f2.toNat).length = c.f3.toNat := by rw [List.length_drop, List.length_take]; omega
    have hp : apply1 a b (c, false) = (b.take (c.f2 + c.f3).toNat).drop c.f2.toNat := by
      unfold apply1
      rw [if_neg (by simp), List.drop_take, show (c.f2 + c.f3).toNat - c.f2.toNat = c.f3.toNat by omega]
    have hi' := ih (i + 1) (c.f0 + c.f1) (c.f2 + c.f3) false ((x8 ++ (a.take c.f0.toNat).drop at_.toNat) ++ (b.take (c.f2 + c.f3).toNat).drop c.f2.toNat) (by omega) (by omega) (by omega)
      (by rw [List.length_append, List.length_append, hlen, hlen2]; omega) g6
    have p1 : (i : Int) < (l.length : Int) := Int.ofNat_lt.2 hil
    have p2 : (0 : Int) ≤ (i : Int) := Int.natCast_nonneg i
    have p4 : x8.length + ((a.take c.f0.toNat).drop at_.toNat).length < 8796093022208 := by rw [hlen]; omega
    have p6 : (x8 ++ (a.take c.f0.toNat).drop at_.toNat).length + ((b.take (c.f2 + c.f3).toNat).drop c.f2.toNat).length < 8796093022208 := by rw [List.length_append, hlen, hlen2]; omega
    rw [redlineref05_Apply.l0, hcc, if_pos p1, if_pos p2, if_pos h0, if_pos g3, if_pos p3, if_pos p4, Option.bind_some, hw, if_pos z0, if_pos p5, if_pos r1', if_pos p6, hw2, hw3, hi']
    rw [pieces, applyOf_append, hgap, show applyOf a b ((c, false) :: pieces (l.drop (i + 1)) a.length (c.f0 + c.f1) (c.f2 + c.f3)) = apply1 a b (c, false) ++ applyOf a b (pieces (l.drop (i + 1)) a.length (c.f0 + c.f1) (c.f2 + c.f3)) from rfl, hp]
    simp only [List.append_assoc]

/-- The reference's Apply. -/
theorem refApply_f (l : List S54) (a b : List ByteArray) (hl : l.length < 4398046511104) (ha : a.length < 8796093022208) (hb : b.length < 8796093022208) (k : Nat) (hk : 2 * l.length + 2 ≤ k) :
    redlineref05_Apply.f k l a b = some (if chk l a.length b.length = 0 then (applyOf a b (pieces l a.length 0 0), 0) else ([], 50)) := by
  unfold redlineref05_Apply.f
  have h1 : redlineref05_Check.f k l a.length b.length = some (chk l a.length b.length) := mono_le (fun k => redlineref05_Check.mono _ _ _ k) hk (rcheck_f l (by omega) a.length b.length (by omega) (by omega))
  rw [h1, Option.bind_some]
  by_cases hc : chk l a.length b.length = 0
  · rw [if_pos hc, if_pos hc]
    have h2 := refApply_loop l a b hl ha hb l.length 0 0 0 true [] (by omega) (by omega) (by omega) rfl hc
    exact mono_le (fun k => redlineref05_Apply.mono_l k _ _ _ _ _ _) (by omega) h2
  · rw [if_neg hc, if_neg hc]

theorem sameTexts_run (l : List ByteArray) (h1 : l.length ≤ 8796093022208) (d : Nat) : ∀ i : Nat, i + d = l.length → redlineref01_SameStrings.l0 (d + 1) l l i = some true := by
  induction d with
  | zero =>
    intro i hi
    rw [redlineref01_SameStrings.l0, if_neg (by omega)]
  | succ d ih =>
    intro i hi
    rw [redlineref01_SameStrings.l0, if_pos (by omega), if_pos (by omega), if_pos (by omega), if_pos rfl, w64 (by omega) (by omega), show (i : Int) + 1 = ((i + 1 : Nat) : Int) by omega]
    exact ih (i + 1) (by omega)
theorem sameTexts (l : List ByteArray) (h1 : l.length ≤ 8796093022208) (k : Nat) (hk : l.length + 1 ≤ k) : redlineref01_SameStrings.f k l l = some true := by
  unfold redlineref01_SameStrings.f
  rw [if_pos rfl]
  exact mono_le (fun k => redlineref01_SameStrings.mono_l k _ _ _) hk (sameTexts_run l h1 l.length 0 (by omega))

theorem spoil_run (a b : List ByteArray) (ha : a.length < 8796093022208) (hb : b.length < 8796093022208) (d : Nat) : ∀ (i : Nat) (x : List ByteArray), i + d = x.length → x.length ≤ 8796093022208 →
    redlinelaw05_EditsApplies.l0 (d + a.length + b.length + 2) a b a b x i = some true := by
  induction d with
  | zero =>
    intro i x hi hx
    rw [show 0 + a.length + b.length + 2 = a.length + b.length + 1 + 1 by omega, redlinelaw05_EditsApplies.l0, if_neg (by omega), sameTexts a (by omega) _ (by omega), Option.bind_some, if_pos rfl, sameTexts b (by omega) _ (by omega)]
    rfl
  | succ d ih =>
    intro i x hi hx
    rw [show d + 1 + a.length + b.length + 2 = (d + a.length + b.length + 2) + 1 by omega, redlinelaw05_EditsApplies.l0, if_pos (by omega), if_pos (by omega), w64 (by omega) (by omega), show (i : Int) + 1 = ((i + 1 : Nat) : Int) by omega]
    exact ih (i + 1) _ (by rw [List.length_set]; omega) (by rw [List.length_set]; exact hx)

/-- The law. -/
theorem editsApplies_pure (l : List S54) (a b : List ByteArray) (hl : l.length < 4398046511104) (ha : a.length < 8796093022208) (hb : b.length < 8796093022208) : ∃ k, redlinelaw05_EditsApplies.f k l a b = some true := by
  obtain ⟨x, hx⟩ : ∃ x, (if chk l a.length b.length = 0 then applyOf a b (pieces l a.length 0 0) else []) = x := ⟨_, rfl⟩
  have hxl : x.length ≤ b.length := by
    rw [← hx]
    split
    · rename_i hc
      have R := right_of_chk a.length b.length l true 0 0 (by omega) (by omega) hc
      have := applyOf_take_le R (pieces l a.length 0 0).length
      rw [List.take_of_length_le (Nat.le_refl _)] at this
      omega
    · simp
  have e1 : edits_Apply.f l a b = some (x, chk l a.length b.length) := by
    unfold edits_Apply.f
    rw [if_pos ⟨by omega, by omega, by omega⟩, ← hx]
    split
    · rename_i hc
      rw [hc]
    · rfl
  have e2 : ∀ k, 2 * l.length + 2 ≤ k → redlineref05_Apply.f k l a b = some (x, chk l a.length b.length) := by
    intro k hk
    rw [refApply_f l a b hl ha hb k hk, ← hx]
    split
    · rename_i hc
      rw [hc]
    · rename_i hc
      rcases chk_vals l a.length b.length with h | h
      · exact absurd h hc
      · rw [h]
  refine ⟨(x.length + a.length + b.length + 2 + (2 * l.length + 2)) + 1, ?_⟩
  have e3 : redlinelaw05_EditsApplies.l0 (x.length + a.length + b.length + 2 + (2 * l.length + 2)) a b a b x 0 = some true :=
    mono_le (fun k => (redlinelaw05_EditsApplies.mono_l k).2 _ _ _ _ _ _) (by omega) (spoil_run a b ha hb x.length 0 x (by omega) (by omega))
  unfold redlinelaw05_EditsApplies.f
  simp only [Option.bind_some, List.nil_append, List.length_nil]
  rw [if_pos (by omega), if_pos (by omega), if_pos (by omega), e1, e2 _ (by omega)]
  simp only [Option.bind_some]
  rw [if_pos trivial, sameTexts x (by omega) _ (by omega)]
  simp only [Option.bind_some, Bool.not_true]
  rw [redlinelaw05_EditsApplies.j0, if_neg (by simp), e3]
end Go.Proofs.Ytpkhfeeelkhkaaa.X
