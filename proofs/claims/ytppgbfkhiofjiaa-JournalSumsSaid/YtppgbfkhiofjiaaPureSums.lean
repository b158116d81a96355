/-
  JournalSums, the plain law: the reference's two loops come to the same sum as the program's steps, for any bytes; the two fixed sums are as told.
-/
import Derived.Test.YtppgbfkhiofjiaaESums
namespace Go.Proofs.Ytppgbfkhiofjiaa.X
open Go.RowKit Go.Proofs.YtppgbfkhiofjiaaW.PrintWords Go.Proofs.YtppgbfkhiofjiaaW.PrintLast Go.Proofs.YtppgbfkhiofjiaaW.PrintMore

theorem u32_range (a b : Int) : 0 ≤ bits .xor .u32 a b ∧ bits .xor .u32 a b < 4294967296 := by
  have h : ∃ n, bits .xor .u32 a b = IntKind.u32.wrap n := ⟨_, rfl⟩
  obtain ⟨n, h⟩ := h
  rw [h, IntKind.wrap_u32]
  omega
theorem u32_and1 (x : Int) (h0 : 0 ≤ x) (h1 : x < 4294967296) : bits .and .u32 x 1 = x % 2 :=
  bits_mask .u32 32 (by decide) (fun n a b => by rw [IntKind.wrap_u32]; omega) 1 (by decide) x h0 h1

theorem bitS_range (s : Int) (h0 : 0 ≤ s) (h1 : s < 4294967296) : 0 ≤ bitS s ∧ bitS s < 4294967296 := by
  unfold bitS
  split
  · exact u32_range _ _
  · omega

theorem bitsN_range (n : Nat) : ∀ s : Int, 0 ≤ s → s < 4294967296 → 0 ≤ bitsN n s ∧ bitsN n s < 4294967296 := by
  induction n with
  | zero => intro s h0 h1; exact ⟨h0, h1⟩
  | succ n ih => intro s h0 h1; have := bitS_range s h0 h1; exact ih _ this.1 this.2

theorem l0_succ (k : Nat) (x0 : List Int) (x3 x4 : Int) : redlineref24_Sum.l0 (k + 1) x0 x3 x4 = if x4 < (x0.length : Int) then (if 0 ≤ x4 then (redlineref24_Sum.l1 k x0 (bits .xor .u32 x3 ((rd x0 x4) % 4294967296)) x4 0) else (none)) else (some (bits .xor .u32 x3 4294967295)) := by
  simp only [redlineref24_Sum.l0]
theorem l1_succ (k : Nat) (x0 : List Int) (x3 x4 x5 : Int) : redlineref24_Sum.l1 (k + 1) x0 x3 x4 x5 = if x5 < 8 then (if (Int.tmod x3 2) = 1 then (redlineref24_Sum.l1 k x0 (bits .xor .u32 ((Int.tdiv x3 2) % 4294967296) 3988292384) x4 (wrap64 (x5 + 1))) else (redlineref24_Sum.l1 k x0 ((Int.tdiv x3 2) % 4294967296) x4 (wrap64 (x5 + 1)))) else (redlineref24_Sum.l0 k x0 x3 (wrap64 (x4 + 1))) := by
  simp only [redlineref24_Sum.l1]

theorem bitS_eq (s : Int) (h0 : 0 ≤ s) (h1 : s < 4294967296) : bitS s = if s % 2 = 1 then bits .xor .u32 (s / 2) 3988292384 else s / 2 := by
  unfold bitS
  rw [u32_and1 s h0 h1]
  simp only [beq_iff_eq]

/-- The reference's inner loop. -/
theorem inner (l0 : List Int) (i : Int) (d : Nat) : ∀ (k : Nat) (s x5 : Int), 0 ≤ s → s < 4294967296 → 0 ≤ x5 → x5 + d = 8 →
    redlineref24_Sum.l1 (k + d + 1) l0 s i x5 = redlineref24_Sum.l0 k l0 (bitsN d s) (wrap64 (i + 1)) := by
  induction d with
  | zero =>
    intro k s x5 h0 h1 h2 h3
    rw [l1_succ, if_neg (by omega)]
    rfl
  | succ d ih =>
    intro k s x5 h0 h1 h2 h3
    have hr := bitS_range s h0 h1
    have hw : wrap64 (x5 + 1) = x5 + 1 := by unfold wrap64; omega
    have ht : Int.tmod s 2 = s % 2 := Int.tmod_eq_emod_of_nonneg h0
    have hd : Int.tdiv s 2 % 4294967296 = s / 2 := by rw [Int.tdiv_eq_ediv_of_nonneg h0]; omega
    have ih' := ih k (bitS s) (x5 + 1) hr.1 hr.2 (by omega) (by omega)
    show _ = redlineref24_Sum.l0 k l0 (bitsN d (bitS s)) (wrap64 (i + 1))
    rw [l1_succ, if_pos (by omega), ht, hd, hw, ← ih', bitS_eq s h0 h1]
    by_cases hb : s % 2 = 1
    · rw [if_pos hb, if_pos hb]; rfl
    · rw [if_neg hb, if_neg hb]; rfl

/-- The reference's outer loop, with enough rounds. -/
theorem outer (l0 : List Int) (hl : l0.length ≤ 9223372036854775807) (d : Nat) : ∀ (s i : Int), 0 ≤ s → s < 4294967296 → 0 ≤ i → i + d = l0.length →
    redlineref24_Sum.l0 (d * 10 + 1) l0 s i = some (bits .xor .u32 (sumL s (l0.drop i.toNat)) 4294967295) := by
  induction d with
  | zero =>
    intro s i h0 h1 h2 h3
    rw [show 0 * 10 + 1 = 0 + 1 from rfl, l0_succ, if_neg (by omega), List.drop_of_length_le (by omega)]
    rfl
  | succ d ih =>
    intro s i h0 h1 h2 h3
    have hw : wrap64 (i + 1) = i + 1 := by unfold wrap64; omega
    rw [show (d + 1) * 10 + 1 = (d * 10 + 1 + 8 + 1) + 1 by omega, l0_succ, if_pos (by omega), if_pos h2]
    have hx := u32_range s (rd l0 i % 4294967296)
    rw [inner l0 i 8 (d * 10 + 1) _ 0 hx.1 hx.2 (by omega) (by omega), hw]
    have hn := bitsN_range 8 _ hx.1 hx.2
    rw [ih _ (i + 1) hn.1 hn.2 (by omega) (by omega), sumL_step s l0 i h2 (by omega)]
    rfl

theorem xor_comm_u32 (a b : Int) : bits .xor .u32 a b = bits .xor .u32 b a := by
  unfold bits
  simp only [BitVec.xor_comm]

theorem sums_agree (l0 : List Int) (hl : l0.length ≤ 9223372036854775807) : ∃ k r, journal_Sum.f l0 = some r ∧ redlineref24_Sum.f k l0 = some r := by
  refine ⟨l0.length * 10 + 1, _, rfl, ?_⟩
  unfold redlineref24_Sum.f
  rw [outer l0 hl l0.length 4294967295 0 (by omega) (by omega) (by omega) (by omega), xor_comm_u32]
  rfl
theorem sum_nine : journal_Sum.f [49, 50, 51, 52, 53, 54, 55, 56, 57] = some 3421780262 := by decide +kernel
theorem sum_none : journal_Sum.f [] = some 0 := by decide +kernel
end Go.Proofs.Ytppgbfkhiofjiaa.X
