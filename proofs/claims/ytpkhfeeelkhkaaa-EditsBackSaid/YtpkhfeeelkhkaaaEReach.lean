/-
  A script whose kept lines are the same in both texts makes the second of the first, and back the first of the second.
-/
import Derived.Test.YtpkhfeeelkhkaaaELaws
import Derived.Test.YtpkhfeeelkhkaaaEApply
namespace Go.Proofs.Ytpkhfeeelkhkaaa.Y
open Go.RowKit Go.Proofs.Ytpkhfeeelkhkaaa.X Go.Proofs.YtpkhfeeelkhkaaaW.PrintWords Go.Proofs.YtpkhfeeelkhkaaaW.PrintLast Go.Proofs.YtpkhfeeelkhkaaaW.PrintMore
set_option linter.unusedVariables false

theorem chkG_inv (n m : Int) : ∀ (l : List S54) (fst : Bool) (a b : Int), chkG l fst n m a b = 0 → chkG (l.map inv1) fst m n b a = 0
  | [], fst, a, b, h => by
    obtain ⟨h1, h2, h3⟩ := chkG_nil h
    exact chkG_nil_mk h2 h1 h3.symm
  | c :: l, fst, a, b, h => by
    obtain ⟨⟨g0, g1, g2, g3⟩, h2, h3, h4, h5, h6⟩ := chkG_cons h
    rw [List.map_cons]
    exact chkG_mk ⟨g2, g3, g0, g1⟩ (fun h => h2 ⟨h.2, h.1⟩) (by show b ≤ c.f2; omega) (fun hf => by have := h4 hf; show b < c.f2; omega) (by show c.f2 - b = c.f0 - a; omega) (chkG_inv n m l false _ _ h6)
def inv2 (p : S54 × Bool) : S54 × Bool := (inv1 p.1, p.2)
theorem pieces_inv (n m : Int) : ∀ (l : List S54) (fst : Bool) (a b : Int), chkG l fst n m a b = 0 → pieces (l.map inv1) m b a = (pieces l n a b).map inv2
  | [], fst, a, b, h => by
    obtain ⟨h1, h2, h3⟩ := chkG_nil h
    simp only [List.map_nil, pieces]
    by_cases hc : a < n
    · rw [if_pos hc, if_pos (by omega), h3]
      rfl
    · rw [if_neg hc, if_neg (by omega)]
      rfl
  | c :: l, fst, a, b, h => by
    obtain ⟨_, h2, h3, h4, h5, h6⟩ := chkG_cons h
    have ih := pieces_inv n m l false _ _ h6
    simp only [List.map_cons, pieces]
    rw [List.map_append, List.map_cons, ← ih]
    congr 1
    show (if b < c.f2 then [((⟨b, c.f2 - b, a, c.f2 - b⟩ : S54), true)] else []) = _
    by_cases hc : a < c.f0
    · rw [if_pos hc, if_pos (by omega), ← h5]
      rfl
    · rw [if_neg hc, if_neg (by omega)]
      rfl

/-- The pieces lie side by side in the first text, and in the second. -/
theorem cut_cut {α : Type} (A : List α) (x y : Int) (h0 : 0 ≤ x) (h1 : 0 ≤ y) : (A.drop x.toNat).take y.toNat ++ A.drop (x + y).toNat = A.drop x.toNat := by
  rw [show (x + y).toNat = x.toNat + y.toNat by omega, ← List.drop_drop, List.take_append_drop]
theorem tileA {α : Type} (A : List α) (n m : Int) (hA : (A.length : Int) = n) : ∀ (l : List S54) (fst : Bool) (a b : Int), 0 ≤ a → chkG l fst n m a b = 0 →
    (pieces l n a b).flatMap (fun p => (A.drop p.1.f0.toNat).take p.1.f1.toNat) = A.drop a.toNat
  | [], fst, a, b, h0, h => by
    obtain ⟨h1, h2, h3⟩ := chkG_nil h
    simp only [pieces]
    by_cases hc : a < n
    · rw [if_pos hc]
      show (A.drop a.toNat).take (n - a).toNat ++ [] = _
      rw [List.append_nil, List.take_of_length_le (by rw [List.length_drop]; omega)]
    · rw [if_neg hc, List.drop_of_length_le (by omega)]
      rfl
  | c :: l, fst, a, b, h0, h => by
    obtain ⟨⟨⟨x0, x1⟩, ⟨y0, y1⟩, ⟨z0, z1⟩, ⟨t0, t1⟩⟩, h2, h3, h4, h5, h6⟩ := chkG_cons h
    have ih := tileA A n m hA l false (c.f0 + c.f1) (c.f2 + c.f3) (by omega) h6
    simp only [pieces]
    rw [List.flatMap_append, List.flatMap_cons, ih, cut_cut A c.f0 c.f1 x0 y0]
    by_cases hc : a < c.f0
    · rw [if_pos hc]
      show ((A.drop a.toNat).take (c.f0 - a).toNat ++ []) ++ _ = _
      rw [List.append_nil]
      have := cut_cut A a (c.f0 - a) h0 (by omega)
      rwa [show a + (c.f0 - a) = c.f0 by omega] at this
    · rw [if_neg hc, show c.f0 = a by omega]
      rfl
theorem tileB {α : Type} (B : List α) (n m : Int) (hB : (B.length : Int) = m) : ∀ (l : List S54) (fst : Bool) (a b : Int), 0 ≤ b → chkG l fst n m a b = 0 →
    (pieces l n a b).flatMap (fun p => (B.drop p.1.f2.toNat).take p.1.f3.toNat) = B.drop b.toNat
  | [], fst, a, b, h0, h => by
    obtain ⟨h1, h2, h3⟩ := chkG_nil h
    simp only [pieces]
    by_cases hc : a < n
    · rw [if_pos hc]
      show (B.drop b.toNat).take (n - a).toNat ++ [] = _
      rw [List.append_nil, List.take_of_length_le (by rw [List.length_drop]; omega)]
    · rw [if_neg hc, List.drop_of_length_le (by omega)]
      rfl
  | c :: l, fst, a, b, h0, h => by
    obtain ⟨⟨⟨x0, x1⟩, ⟨y0, y1⟩, ⟨z0, z1⟩, ⟨t0, t1⟩⟩, h2, h3, h4, h5, h6⟩ := chkG_cons h
    have ih := tileB B n m hB l false (c.f0 + c.f1) (c.f2 + c.f3) (by omega) h6
    simp only [pieces]
    rw [List.flatMap_append, List.flatMap_cons, ih, cut_cut B c.f2 c.f3 z0 t0]
    by_cases hc : a < c.f0
    · rw [if_pos hc]
      show ((B.drop b.toNat).take (c.f0 - a).toNat ++ []) ++ _ = _
      rw [List.append_nil]
      have := cut_cut B b (c.f2 - b) h0 (by omega)
      rw [show b + (c.f2 - b) = c.f2 by omega] at this
      rwa [h5]
    · rw [if_neg hc, show c.f2 = b by omega]
      rfl

/-- Kept lines are the same in both texts. -/
def Agree {α : Type} (A B : List α) (ps : List (S54 × Bool)) : Prop := ∀ p ∈ ps, p.2 = true → (A.drop p.1.f0.toNat).take p.1.f1.toNat = (B.drop p.1.f2.toNat).take p.1.f3.toNat
theorem apply_script {a b : List ByteArray} {l : List S54} (hc : chk l a.length b.length = 0) (hag : Agree a b (pieces l a.length 0 0)) : applyOf a b (pieces l a.length 0 0) = b := by
  have h := tileB b a.length b.length rfl l true 0 0 (by omega) hc
  rw [show (0 : Int).toNat = 0 from rfl, List.drop_zero] at h
  unfold applyOf
  conv => rhs; rw [← h]
  rw [List.flatMap_def, List.flatMap_def]
  congr 1
  refine List.map_congr_left fun p hp => ?_
  unfold apply1
  split
  · rename_i h2
    exact hag p hp h2
  · rfl
theorem apply_back {a b : List ByteArray} {l : List S54} (hc : chk l a.length b.length = 0) (hag : Agree a b (pieces l a.length 0 0)) : applyOf b a (pieces (l.map inv1) b.length 0 0) = a := by
  have h := tileA a a.length b.length rfl l true 0 0 (by omega) hc
  rw [show (0 : Int).toNat = 0 from rfl, List.drop_zero] at h
  rw [pieces_inv a.length b.length l true 0 0 hc]
  unfold applyOf
  conv => rhs; rw [← h]
  rw [List.flatMap_map, List.flatMap_def, List.flatMap_def]
  congr 1
  refine List.map_congr_left fun p hp => ?_
  unfold apply1 inv2 inv1
  dsimp only
  split
  · rename_i h2
    exact (hag p hp h2).symm
  · rfl

theorem rd_left (xs ys : List Int) (i : Nat) (h : i < xs.length) : rd (xs ++ ys) (i : Int) = rd xs (i : Int) := by
  unfold rd
  rw [Int.toNat_natCast, List.getD_eq_getElem?_getD, List.getD_eq_getElem?_getD, List.getElem?_append_left h]
theorem rd_right (xs ys : List Int) (i : Nat) : rd (xs ++ ys) ((xs.length + i : Nat) : Int) = rd ys (i : Int) := by
  unfold rd
  rw [Int.toNat_natCast, Int.toNat_natCast, List.getD_eq_getElem?_getD, List.getD_eq_getElem?_getD, List.getElem?_append_right (by omega), show xs.length + i - xs.length = i by omega]
theorem rd_run (b n : Int) (i : Nat) (h : (i : Int) < n) : rd (run b n) (i : Int) = b + i := by
  unfold rd run
  rw [Int.toNat_natCast, List.getD_eq_getElem?_getD, List.getElem?_map, List.getElem?_range (by omega)]
  rfl
theorem gap_agree {α : Type} (A B : List α) (a b len : Int) (h : ∀ i : Nat, (i : Int) < len → A[a.toNat + i]? = B[b.toNat + i]?) : (A.drop a.toNat).take len.toNat = (B.drop b.toNat).take len.toNat := by
  apply List.ext_getElem?
  intro i
  rw [List.getElem?_take, List.getElem?_take]
  split
  · rw [List.getElem?_drop, List.getElem?_drop]
    exact h i (by omega)
  · rfl
/-- Where each kept line is the same in both texts, the pieces agree. -/
theorem agree_of_keep {α : Type} (A B : List α) (n m : Int) : ∀ (l : List S54) (fst : Bool) (a b : Int), 0 ≤ a → 0 ≤ b → chkG l fst n m a b = 0 →
    (∀ j : Nat, j < (keepOf (pieces l n a b)).length → 0 ≤ rd (keepOf (pieces l n a b)) (j : Int) → A[a.toNat + j]? = B[(rd (keepOf (pieces l n a b)) (j : Int)).toNat]?) → Agree A B (pieces l n a b)
  | [], fst, a, b, h0, h1, h, hk => by
    obtain ⟨g1, g2, g3⟩ := chkG_nil h
    simp only [pieces] at hk ⊢
    rw [keepOf_gap a b n g1, run_length] at hk
    intro p hp h2
    by_cases hc : a < n
    · rw [if_pos hc, List.mem_singleton] at hp
      subst hp
      refine gap_agree A B a b (n - a) fun i hi => ?_
      have e := rd_run b (n - a) i hi
      have := hk i (by omega) (by rw [e]; omega)
      rw [e] at this
      rwa [show (b + (i : Int)).toNat = b.toNat + i by omega] at this
    · rw [if_neg hc] at hp
      cases hp
  | c :: l, fst, a, b, h0, h1, h, hk => by
    obtain ⟨⟨⟨x0, x1⟩, ⟨y0, y1⟩, ⟨z0, z1⟩, ⟨t0, t1⟩⟩, h2, h3, h4, h5, h6⟩ := chkG_cons h
    have ek : keepOf (pieces (c :: l) n a b) = run b (c.f0 - a) ++ (List.replicate c.f1.toNat (-1) ++ keepOf (pieces l n (c.f0 + c.f1) (c.f2 + c.f3))) := by
      simp only [pieces]
      rw [keepOf_append, keepOf_gap a b c.f0 h3, keepOf_cons, keep1_out]
    rw [ek] at hk
    have rl : (run b (c.f0 - a)).length = (c.f0 - a).toNat := run_length _ _
    have ih := agree_of_keep A B n m l false (c.f0 + c.f1) (c.f2 + c.f3) (by omega) (by omega) h6 (fun j hj hr => by
      have e1 : rd (run b (c.f0 - a) ++ (List.replicate c.f1.toNat (-1) ++ keepOf (pieces l n (c.f0 + c.f1) (c.f2 + c.f3)))) (((run b (c.f0 - a)).length + ((List.replicate c.f1.toNat (-1 : Int)).length + j) : Nat) : Int) = rd (keepOf (pieces l n (c.f0 + c.f1) (c.f2 + c.f3))) (j : Int) := by
        rw [rd_right, rd_right]
      have := hk ((run b (c.f0 - a)).length + ((List.replicate c.f1.toNat (-1 : Int)).length + j)) (by rw [List.length_append, List.length_append]; omega) (by rw [e1]; exact hr)
      rw [e1, rl, List.length_replicate] at this
      rwa [show a.toNat + ((c.f0 - a).toNat + (c.f1.toNat + j)) = (c.f0 + c.f1).toNat + j by omega] at this)
    intro p hp h7
    simp only [pieces] at hp
    rcases List.mem_append.1 hp with hp | hp
    · by_cases hc : a < c.f0
      · rw [if_pos hc, List.mem_singleton] at hp
        subst hp
        refine gap_agree A B a b (c.f0 - a) fun i hi => ?_
        have hil : i < (run b (c.f0 - a)).length := by rw [rl]; omega
        have e : rd (run b (c.f0 - a) ++ (List.replicate c.f1.toNat (-1) ++ keepOf (pieces l n (c.f0 + c.f1) (c.f2 + c.f3)))) (i : Int) = b + i := by rw [rd_left _ _ i hil, rd_run b (c.f0 - a) i hi]
        have := hk i (by rw [List.length_append]; omega) (by rw [e]; omega)
        rw [e] at this
        rwa [show (b + (i : Int)).toNat = b.toNat + i by omega] at this
      · rw [if_neg hc] at hp
        cases hp
    · rcases List.mem_cons.1 hp with rfl | hp
      · cases h7
      · exact ih p hp h7

/-- The script of a rising list takes the one text to the other, and back. -/
theorem reach_script {a b : List ByteArray} {keep : List Int} (hl : keep.length = a.length) (ha : (a.length : Int) ≤ 2147483647) (hb : (b.length : Int) ≤ 2147483647) (hok : okM keep 0 b.length = true)
    (hag : ∀ j : Nat, j < keep.length → 0 ≤ rd keep (j : Int) → a[j]? = b[(rd keep (j : Int)).toNat]?) :
    edits_Apply.f (scriptOf keep b.length) a b = some (b, 0) ∧ edits_Invert.f (scriptOf keep b.length) = some ((scriptOf keep b.length).map inv1) ∧ edits_Apply.f ((scriptOf keep b.length).map inv1) b a = some (a, 0) := by
  have hc := script_chk (l := keep) (m := b.length) (by omega) (by omega) hb hok
  have hk := script_keep (l := keep) (m := b.length) (by omega) (by omega) hb hok
  have hlen := restM_length keep 0 0 0 b.length
  have hlen' : (scriptOf keep b.length).length ≤ keep.length + 1 := hlen
  rw [hl] at hc hk
  have hA : Agree a b (pieces (scriptOf keep b.length) a.length 0 0) := agree_of_keep a b a.length b.length _ true 0 0 (by omega) (by omega) hc (by
    rw [hk]
    intro j hj hr
    have := hag j hj hr
    simpa using this)
  refine ⟨?_, ?_, ?_⟩
  · unfold edits_Apply.f
    rw [if_pos ⟨by omega, by omega, by omega⟩, if_pos hc, apply_script hc hA]
  · unfold edits_Invert.f
    rw [if_pos (by omega)]
  · have hc2 : chk ((scriptOf keep b.length).map inv1) b.length a.length = 0 := chkG_inv a.length b.length _ true 0 0 hc
    unfold edits_Apply.f
    rw [if_pos ⟨by rw [List.length_map]; omega, by omega, by omega⟩, if_pos hc2, apply_back hc hA]
end Go.Proofs.Ytpkhfeeelkhkaaa.Y
