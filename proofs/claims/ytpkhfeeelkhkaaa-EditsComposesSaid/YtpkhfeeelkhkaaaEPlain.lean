/-
  What the reference's functions over edit scripts come to, in plain words.
-/
import Derived.Test.YtpkhfeeelkhkaaaX21
import Derived.Test.YtpkhfeeelkhkaaaEKeep
import Derived.Test.YtpkhfeeelkhkaaaEInvert
namespace Go.Proofs.Ytpkhfeeelkhkaaa.X
open Go.RowKit Go.Proofs.YtpkhfeeelkhkaaaW.PrintWords Go.Proofs.YtpkhfeeelkhkaaaW.PrintLast Go.Proofs.YtpkhfeeelkhkaaaW.PrintMore
set_option linter.unusedVariables false

theorem fuel_le {α : Type} {F : Nat → Option α} (h : ∀ k, LeO (F k) (F (k + 1))) {k k' : Nat} (hk : k ≤ k') {r : α} (e : F k = some r) : F k' = some r := by
  induction hk with
  | refl => exact e
  | step _ ih => exact h _ _ ih
theorem chkG_or (n m : Int) : ∀ (l : List S54) (fst : Bool) (a b : Int), chkG l fst n m a b = 0 ∨ chkG l fst n m a b = 50
  | [], fst, a, b => by
    unfold chkG
    repeat (first | (split) | (exact .inl rfl) | (exact .inr rfl))
  | c :: l, fst, a, b => by
    have ih := chkG_or n m l false (c.f0 + c.f1) (c.f2 + c.f3)
    unfold chkG
    repeat (first | (split) | (exact ih) | (exact .inr rfl))
theorem chk_or (l : List S54) (n m : Int) : chk l n m = 0 ∨ chk l n m = 50 := chkG_or n m l true 0 0
theorem chkG_mk {c : S54} {l : List S54} {fst : Bool} {n m a b : Int} (h1 : Chg c) (h2 : ¬ (c.f1 = 0 ∧ c.f3 = 0)) (h3 : a ≤ c.f0) (h4 : fst = false → a < c.f0) (h5 : c.f0 - a = c.f2 - b) (h6 : chkG l false n m (c.f0 + c.f1) (c.f2 + c.f3) = 0) :
    chkG (c :: l) fst n m a b = 0 := by
  unfold chkG
  rw [if_neg (not_not_intro h1), if_neg h2, if_neg (by omega), if_neg (fun h => by have := h4 h.1; omega), if_pos h5]
  exact h6
theorem chkG_true {l : List S54} {fst : Bool} {n m a b : Int} (h : chkG l fst n m a b = 0) : chkG l true n m a b = 0 := by
  cases l with
  | nil =>
    obtain ⟨h1, h2, h3⟩ := chkG_nil h
    unfold chkG
    rw [if_neg (by omega), if_neg (by omega), if_pos h3]
  | cons c l =>
    obtain ⟨h1, h2, h3, h4, h5, h6⟩ := chkG_cons h
    exact chkG_mk h1 h2 h3 (fun e => by cases e) h5 h6
theorem chkG_nil_mk {fst : Bool} {n m a b : Int} (h1 : a ≤ n) (h2 : b ≤ m) (h3 : n - a = m - b) : chkG [] fst n m a b = 0 := by
  unfold chkG
  rw [if_neg (by omega), if_neg (by omega), if_pos h3]

/-! ### Keep -/
theorem keep1_gap (a len b bb : Int) (h : 0 ≤ len) : keep1 (⟨a, len + 1, b, bb⟩, true) = b :: keep1 (⟨a + 1, len, b + 1, bb⟩, true) := by
  unfold keep1
  simp only [if_true]
  rw [show (len + 1).toNat = len.toNat + 1 by omega, List.range_succ_eq_map, List.map_cons, List.map_map]
  congr 1
  · simp
  · refine List.map_congr_left fun i _ => ?_
    simp only [Function.comp_apply, Nat.succ_eq_add_one]
    omega
theorem keepOf_gap_nil (n i b : Int) (h : i < n) : keepOf (pieces [] n i b) = b :: keepOf (pieces [] n (i + 1) (b + 1)) := by
  simp only [pieces]
  rw [if_pos h]
  show keep1 _ ++ [] = _
  rw [List.append_nil, show n - i = (n - (i + 1)) + 1 by omega, keep1_gap _ _ _ _ (by omega)]
  congr 1
  split
  · show _ = keep1 _ ++ []
    rw [List.append_nil]
    unfold keep1
    rfl
  · have : n - (i + 1) = 0 := by omega
    rw [this]
    rfl
theorem keepOf_gap_cons (c : S54) (l : List S54) (n i b : Int) (h : i < c.f0) : keepOf (pieces (c :: l) n i b) = b :: keepOf (pieces (c :: l) n (i + 1) (b + 1)) := by
  simp only [pieces]
  rw [if_pos h, keepOf_append, keepOf_append]
  show (keep1 _ ++ []) ++ _ = _
  rw [List.append_nil, show c.f0 - i = (c.f0 - (i + 1)) + 1 by omega, keep1_gap _ _ _ _ (by omega), List.cons_append]
  congr 1
  congr 1
  split
  · show _ = keep1 _ ++ []
    rw [List.append_nil]
    unfold keep1
    rfl
  · have : c.f0 - (i + 1) = 0 := by omega
    rw [this]
    rfl
theorem keep1_out (c : S54) : keep1 (c, false) = List.replicate c.f1.toNat (-1) := by
  unfold keep1
  simp [List.map_const']

/-- What is still to come behind the line i. -/
def KState (l : List S54) (n m i b : Int) (rem : List Int) : Prop :=
  (chkG l true n m i b = 0 ∧ rem = keepOf (pieces l n i b)) ∨
  (∃ c l', l = c :: l' ∧ c.f0 < i ∧ i ≤ c.f0 + c.f1 ∧ Chg c ∧ chkG l' false n m (c.f0 + c.f1) (c.f2 + c.f3) = 0 ∧ rem = List.replicate (c.f0 + c.f1 - i).toNat (-1) ++ keepOf (pieces l' n (c.f0 + c.f1) (c.f2 + c.f3)))

theorem kstate_end {l : List S54} {n m b : Int} {rem : List Int} (h : KState l n m n b rem) : rem = [] := by
  rcases h with ⟨h1, rfl⟩ | ⟨c, l', rfl, h1, h2, h3, h4, rfl⟩
  · have R := right_of_chk n m l true n b
    by_cases h0 : 0 ≤ n ∧ 0 ≤ b
    · have R := R h0.1 h0.2 h1
      have := keepOf_length R.ok
      rw [R.lenA] at this
      exact List.length_eq_zero_iff.1 (by omega)
    · cases l with
      | nil =>
        simp only [pieces]
        rw [if_neg (by omega)]
        rfl
      | cons c l' =>
        exfalso
        obtain ⟨⟨⟨x0, x1⟩, ⟨y0, y1⟩, ⟨z0, z1⟩, ⟨t0, t1⟩⟩, g2, g3, g4, g5, g6⟩ := chkG_cons h1
        have R' := right_of_chk n m l' false _ _ (by omega) (by omega) g6
        have := R'.le_n
        omega
  · obtain ⟨⟨x0, x1⟩, ⟨y0, y1⟩, ⟨z0, z1⟩, ⟨t0, t1⟩⟩ := h3
    have R' := right_of_chk n m l' false _ _ (by omega) (by omega) h4
    have e1 := R'.le_n
    have e2 := keepOf_length R'.ok
    rw [R'.lenA] at e2
    have e3 : keepOf (pieces l' n (c.f0 + c.f1) (c.f2 + c.f3)) = [] := List.length_eq_zero_iff.1 (by omega)
    rw [e3, show (c.f0 + c.f1 - n).toNat = 0 by omega]
    rfl

theorem toNat_zero {x : Int} (h : x ≤ 0) : x.toNat = 0 := by omega
theorem rep_cons {x : Int} (h : 0 < x) : List.replicate x.toNat (-1 : Int) = -1 :: List.replicate (x - 1).toNat (-1) := by
  rw [show x.toNat = (x - 1).toNat + 1 by omega]
  rfl
theorem toNat_succ (i : Nat) : ((i : Int) + 1).toNat = i + 1 := by omega
theorem wrap_succ (i : Nat) (h : i ≤ 4398046511104) : wrap64 ((i : Int) + 1) = ((i + 1 : Nat) : Int) := by rw [w64 (by omega) (by omega)]; omega
theorem refKeep_loop (l : List S54) (n m : Int) (hn : n ≤ 2000) (hm : m ≤ 2000) (hl : l.length ≤ 4398046511104) (d : Nat) : ∀ (x8 : List Int) (b i : Int) (kk : Nat) (rem : List Int), kk ≤ l.length → 0 ≤ i → i ≤ n → 0 ≤ b → b ≤ 2147483647 → (x8.length : Int) = i →
    (n - i) + ((l.length : Int) - (kk : Int)) = (d : Int) → KState (l.drop kk) n m i b rem →
    (∀ k, 2 * d + 1 ≤ k → redlineref05_Keep.l0 k l n x8 b kk i = some (x8 ++ rem, 0)) ∧ (i < n → ∀ k, 2 * d ≤ k → redlineref05_Keep.l1 k l n x8 b kk i = some (x8 ++ rem, 0)) := by
  induction d with
  | zero =>
    intro x8 b i kk rem hk h0 h1 hb0 hb1 hx hd hS
    have hin : i = n := by omega
    subst hin
    have hr := kstate_end hS
    subst hr
    refine ⟨fun k hk => ?_, fun h => absurd h (by omega)⟩
    obtain ⟨k, rfl⟩ : ∃ k', k = k' + 1 := ⟨k - 1, by omega⟩
    rw [redlineref05_Keep.l0, if_neg (by omega), List.append_nil]
  | succ d ih =>
    intro x8 b i kk rem hk h0 h1 hb0 hb1 hx hd hS
    have H1 : i < n → ∀ k, 2 * (d + 1) ≤ k → redlineref05_Keep.l1 k l n x8 b kk i = some (x8 ++ rem, 0) := by
      intro hin k hk2
      obtain ⟨k, rfl⟩ : ∃ k', k = k' + 1 := ⟨k - 1, by omega⟩
      have hx8 : x8.length < 17592186044416 := by omega
      have hwi : Aside0 (wrap64 (i + 1) = i + 1) := ⟨w64 (by omega) (by omega)⟩
      have hwb : Aside0 (wrap64 (b + 1) = b + 1) := ⟨w64 (by omega) (by omega)⟩
      by_cases hkl : kk < l.length
      · have hkl' : (kk : Int) < (l.length : Int) := Int.ofNat_lt.2 hkl
        have hk0 : (0 : Int) ≤ (kk : Int) := Int.natCast_nonneg kk
        have hwk : Aside0 (wrap64 ((kk : Int) + 1) = ((kk + 1 : Nat) : Int)) := ⟨wrap_succ kk (Nat.le_trans hk hl)⟩
        have hdr := drop_T54 l (kk : Int) hk0 hkl'
        rw [toNat_succ, Int.toNat_natCast] at hdr
        rw [hdr] at hS
        rw [redlineref05_Keep.l1, if_pos hkl', if_pos hk0]
        generalize rd_T54 l (kk : Int) = c at hS hdr ⊢
        have hdr' := hdr
        have hC : Chg c := by
          rcases hS with ⟨h, _⟩ | ⟨c', l', e, _, _, h, _⟩
          · exact (chkG_cons h).1
          · injection e with e1 e2
            subst e1
            exact h
        obtain ⟨⟨x0, x1⟩, ⟨y0, y1⟩, ⟨z0, z1⟩, ⟨t0, t1⟩⟩ := hC
        have hC : Chg c := ⟨⟨x0, x1⟩, ⟨y0, y1⟩, ⟨z0, z1⟩, ⟨t0, t1⟩⟩
        have hw1 : Aside0 (wrap64 (c.f0 + c.f1) = c.f0 + c.f1) := ⟨w64 (by omega) (by omega)⟩
        have hw2 : Aside0 (wrap64 (c.f2 + c.f3) = c.f2 + c.f3) := ⟨w64 (by omega) (by omega)⟩
        rw [hw1.out, hw2.out, hwk.out, hwi.out, hwb.out]
        have hchk : chkG (l.drop (kk + 1)) false n m (c.f0 + c.f1) (c.f2 + c.f3) = 0 := by
          rcases hS with ⟨h, _⟩ | ⟨c', l', e, _, _, _, h, _⟩
          · exact (chkG_cons h).2.2.2.2.2
          · injection e with e1 e2
            subst e1
            subst e2
            exact h
        have R' := right_of_chk n m _ false _ _ (by omega) (by omega) hchk
        have r1 := R'.le_n
        have r2 := R'.le_m
        have hle : i ≤ c.f0 + c.f1 := by
          rcases hS with ⟨h, _⟩ | ⟨c', l', e, _, h, _⟩
          · have := (chkG_cons h).2.2.1
            omega
          · injection e with e1 e2
            subst e1
            exact h
        by_cases hq : i ≥ c.f0 + c.f1
        · rw [if_pos hq]
          have hi : i = c.f0 + c.f1 := by omega
          have hrem : rem = keepOf (pieces (l.drop (kk + 1)) n i (c.f2 + c.f3)) := by
            rcases hS with ⟨h, hr⟩ | ⟨c', l', e, _, _, _, _, hr⟩
            · have h3 := (chkG_cons h).2.2.1
              have hf1 : c.f1 = 0 := by omega
              rw [hr]
              simp only [pieces]
              rw [if_neg (by omega), List.nil_append, keepOf_cons, keep1_out, hf1, hi, hf1]
              rfl
            · injection e with e1 e2
              subst e1
              subst e2
              rw [hr, toNat_zero (show c.f0 + c.f1 - i ≤ 0 by omega), hi]
              rfl
          have := (ih x8 (c.f2 + c.f3) i (kk + 1) rem (by omega) h0 h1 (by omega) (by omega) hx (by omega) (.inl ⟨by rw [hi]; exact chkG_true hchk, hrem⟩)).2 hin k (by omega)
          exact this
        · rw [if_neg hq]
          by_cases hq2 : i ≥ c.f0
          · rw [if_pos hq2, if_pos hx8]
            have hS' : KState (l.drop kk) n m (i + 1) b (List.replicate (c.f0 + c.f1 - (i + 1)).toNat (-1) ++ keepOf (pieces (l.drop (kk + 1)) n (c.f0 + c.f1) (c.f2 + c.f3))) := by
              rw [hdr']
              exact .inr ⟨c, _, rfl, by omega, by omega, hC, hchk, rfl⟩
            have hrem : rem = -1 :: (List.replicate (c.f0 + c.f1 - (i + 1)).toNat (-1) ++ keepOf (pieces (l.drop (kk + 1)) n (c.f0 + c.f1) (c.f2 + c.f3))) := by
              have hpos : 0 < c.f0 + c.f1 - i := by clear hd hS' hx8 hS; omega
              have hrp : List.replicate (c.f0 + c.f1 - i).toNat (-1 : Int) = -1 :: List.replicate (c.f0 + c.f1 - (i + 1)).toNat (-1) := by
                rw [rep_cons hpos, Int.sub_sub]
              rcases hS with ⟨h, hr⟩ | ⟨c', l', e, _, _, _, _, hr⟩
              · have h3 := (chkG_cons h).2.2.1
                rw [hr]
                simp only [pieces]
                have hie : c.f1.toNat = (c.f0 + c.f1 - i).toNat := congrArg Int.toNat (by clear hd hx8; omega)
                rw [if_neg (by clear hd hx8; omega), List.nil_append, keepOf_cons, keep1_out, hie, hrp]
                rfl
              · injection e with e1 e2
                subst e1
                subst e2
                rw [hr, hrp]
                rfl
            have := (ih (x8 ++ [-1]) b (i + 1) kk _ hk (by omega) (by omega) hb0 hb1 (by rw [List.length_append]; simp; omega) (by omega) hS').1 k (by omega)
            rw [this, hrem]
            simp
          · rw [if_neg hq2, if_pos hx8]
            have hlt : i < c.f0 := by omega
            rcases hS with ⟨h, hr⟩ | ⟨c', l', e, hh, _⟩
            · obtain ⟨g1, g2, g3, g4, g5, g6⟩ := chkG_cons h
              have hS' : KState (l.drop kk) n m (i + 1) (b + 1) (keepOf (pieces (c :: l.drop (kk + 1)) n (i + 1) (b + 1))) := by
                rw [hdr']
                exact .inl ⟨chkG_mk g1 g2 (by omega) (fun e => by cases e) (by omega) g6, rfl⟩
              have := (ih (x8 ++ [b]) (b + 1) (i + 1) kk _ hk (by omega) (by omega) (by omega) (by omega) (by rw [List.length_append]; simp; omega) (by omega) hS').1 k (by omega)
              rw [this, hr, keepOf_gap_cons c _ n i b hlt]
              simp
            · exfalso
              injection e with e1 e2
              subst e1
              omega
      · have hkl' : ¬ (kk : Int) < (l.length : Int) := by omega
        rw [redlineref05_Keep.l1, if_neg hkl', if_pos hx8, hwi.out, hwb.out]
        have hdn : l.drop kk = [] := List.drop_of_length_le (by omega)
        rw [hdn] at hS
        rcases hS with ⟨h, hr⟩ | ⟨c', l', e, _⟩
        · obtain ⟨g1, g2, g3⟩ := chkG_nil h
          have hS' : KState (l.drop kk) n m (i + 1) (b + 1) (keepOf (pieces [] n (i + 1) (b + 1))) := by
            rw [hdn]
            exact .inl ⟨chkG_nil_mk (by omega) (by omega) (by omega), rfl⟩
          have := (ih (x8 ++ [b]) (b + 1) (i + 1) kk _ hk (by omega) (by omega) (by omega) (by omega) (by rw [List.length_append]; simp; omega) (by omega) hS').1 k (by omega)
          rw [this, hr, keepOf_gap_nil n i b hin]
          simp
        · cases e
    refine ⟨fun k hk2 => ?_, H1⟩
    obtain ⟨k, rfl⟩ : ∃ k', k = k' + 1 := ⟨k - 1, by omega⟩
    rw [redlineref05_Keep.l0]
    by_cases hin : i < n
    · rw [if_pos hin]
      exact H1 hin k (by omega)
    · have hin' : i = n := by omega
      subst hin'
      have hr := kstate_end hS
      subst hr
      rw [if_neg hin, List.append_nil]
end Go.Proofs.Ytpkhfeeelkhkaaa.X
