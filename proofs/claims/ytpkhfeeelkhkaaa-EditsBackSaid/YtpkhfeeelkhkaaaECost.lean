/-
  The contract of edits.Cost: what it returns of any list of changes that is read.
-/
import Derived.Test.YtpkhfeeelkhkaaaX0
namespace Go.Proofs.Ytpkhfeeelkhkaaa.X
open Go.RowKit Go.Proofs.YtpkhfeeelkhkaaaW.PrintWords Go.Proofs.YtpkhfeeelkhkaaaW.PrintLast Go.Proofs.YtpkhfeeelkhkaaaW.PrintMore
attribute [local go_sem] max2_int min2_int max_two min_two
set_option linter.unusedVariables false

/-- One number's step: 'none': the limit is reached. -/
def costS (n k : Int) : Option Int := if 2147483647 - n < k then none else some (n + if 0 < k then k else 0)
def costG : List S54 → Int → Int
  | [], n => n
  | c :: l, n => match costS n c.f1 with
    | none => 2147483647
    | some n1 => match costS n1 c.f3 with
      | none => 2147483647
      | some n2 => costG l n2
def edits_Cost.f (l0 : List S54) : Option Int := some (costG l0 0)

theorem costS_range {n k m : Int} (h : costS n k = some m) (h0 : 0 ≤ n) (h1 : n ≤ 2147483647) : 0 ≤ m ∧ m ≤ 2147483647 := by
  unfold costS at h
  split at h
  · cases h
  · injection h with h
    subst h
    split <;> omega
theorem drop_T54 (l : List S54) (i : Int) (h0 : 0 ≤ i) (h1 : i < l.length) : l.drop i.toNat = rd_T54 l i :: l.drop (i + 1).toNat := by
  have hl : i.toNat < l.length := by omega
  rw [List.drop_eq_getElem_cons hl, show (i + 1).toNat = i.toNat + 1 by omega]
  simp [rd_T54, List.getD_eq_getElem?_getD, List.getElem?_eq_getElem hl]

set_option maxHeartbeats 1000000 in
theorem edits_Cost.calls (A0 : Option Addr) (c0 : Nat) (l0 : List S54) (r : Int) (w : World) (hr0 : Kd.C k54 w A0 l0.length l0) (hc0 : l0.length ≤ c0) (h : edits_Cost.f l0 = some r) :
    Calls Try.prog 21 #[.slice A0 l0.length c0] w fun e w' => e = .returned (.int .i64 r) ∧ Below w.heap.size w w' := by
  have hu54 := Try.underlying54
  have HR0 := Aside0.mk hr0
  have HC0 := Aside0.mk hc0
  have HL := Aside0.mk hr0.2.1
  have H : Aside0 (costG (l0.drop (0 : Int).toNat) 0 = r) := ⟨Option.some.inj h⟩
  have HB0 := Aside0.mk (Below.refl w.heap.size w)
  clear hr0 hc0 h
  have i0 : ∀ (x0 x1 : Value) (w : World), (Instr.index 55 (.agg #[x0, x1]) (.int .i64 0)).run Try.prog w = .ok x0 w := fun x0 x1 w => by kernel_rfl
  have i1 : ∀ (x0 x1 : Value) (w : World), (Instr.index 55 (.agg #[x0, x1]) (.int .i64 1)).run Try.prog w = .ok x1 w := fun x0 x1 w => by kernel_rfl
  go_enter Try.func21, Try.ntmps21
  go_wp2
  go_loopg [3, 5, 7, 10, 18, 19] l0.length (fun kq v3 v5 v7 v10 v18 v19 w' => ∃ (x3 : Int) (x10 : Int), v3 = .int .i64 x3 ∧ v10 = .int .i64 x10 ∧ Aside0 (0 ≤ x10 ∧ x10 + kq = l0.length) ∧ Aside0 (0 ≤ x3 ∧ x3 ≤ 2147483647) ∧ Aside0 (costG (l0.drop x10.toNat) x3 = r) ∧ Aside0 (Below w.heap.size w w'))
  case atStart => exact ⟨0, 0, rfl, rfl, ⟨by omega⟩, ⟨by omega⟩, H, HB0⟩
  case round =>
    clear H HB0
    obtain ⟨x3, x10, rfl, rfl, H10, H3, H, HB⟩ := hrel
    cases gk with
    | zero =>
      have hge : decide (x10 < (l0.length : Int)) = false := by have := H10.out; simp; omega
      have R : Aside0 (x3 = r) := ⟨by rw [← H.out, List.drop_of_length_le (by have := H10.out; omega)]; rfl⟩
      clear H
      go_wp2
      go_ret
      exact ⟨by rw [R.out]; rfl, HB.out⟩
    | succ k1 =>
      have p := H10.out.1
      have q : x10 < l0.length := by have := H10.out; omega
      have q1 : decide (x10 < (l0.length : Int)) = true := by simpa using q
      have hL := HL.out
      have W1 : Aside0 (wrap64 (x10 + 1) = x10 + 1) := ⟨by unfold wrap64; omega⟩
      have HE := Aside0.mk (drop_T54 l0 x10 p q)
      obtain ⟨ad, e, hx0, hx1, hx2, hx3⟩ := at_T54 HR0.out x10 p q
      cases e
      have b0 := (HB.out.cell (World.block_lt_of_cell? w _ hx0)).trans hx0
      have b1 := (HB.out.cell (World.block_lt_of_cell? w _ hx1)).trans hx1
      have b2 := (HB.out.cell (World.block_lt_of_cell? w _ hx2)).trans hx2
      have b3 := (HB.out.cell (World.block_lt_of_cell? w _ hx3)).trans hx3
      have h3 := H3.out
      have h3a := h3.1
      have h3b := h3.2
      clear hx0 hx1 hx2 hx3 h3 hL
      replace p := eq_true p
      replace q := eq_true q
      have HG : Aside0 (costG (rd_T54 l0 x10 :: l0.drop (x10 + 1).toNat) x3 = r) := ⟨by rw [← HE.out]; exact H.out⟩
      clear H HE
      obtain ⟨cc, hcc⟩ : ∃ cc, rd_T54 l0 x10 = cc := ⟨_, rfl⟩
      rw [hcc] at b0 b1 b2 b3 HG
      clear hcc
      go_wp2
      go_loopg [3, 7, 19] 2 (fun kq v3 v7 v19 w' => ∃ (y : Int) (z : Int), v3 = .int .i64 y ∧ v19 = .int .i64 z ∧ Aside0 (0 ≤ y ∧ y ≤ 2147483647) ∧ Aside0 (Below w.heap.size w w') ∧
        Aside0 ((kq = 2 ∧ z = 0 ∧ y = x3) ∨ (kq = 1 ∧ z = 1 ∧ costS x3 cc.f1 = some y) ∨ (kq = 0 ∧ z = 2 ∧ ∃ n1, costS x3 cc.f1 = some n1 ∧ costS n1 cc.f3 = some y)))
      case atStart => exact ⟨x3, 0, rfl, rfl, H3, ⟨HB.out.alloc HB.out.size _⟩, ⟨.inl ⟨rfl, rfl, rfl⟩⟩⟩
      case round =>
        clear H3 HB b0 b1 b2 b3 p q q1
        obtain ⟨y, z, rfl, rfl, HY, HB, HS⟩ := hrel
        have hy := HY.out
        have hya := hy.1
        have hyb := hy.2
        have hS := HS.out
        clear HS hy
        rcases hS with ⟨hk, hz, hyx⟩ | ⟨hk, hz, hs⟩ | ⟨hk, hz, n1, hs1, hs2⟩
        · subst hk
          subst hz
          subst hyx
          by_cases hb : 2147483647 - y < cc.f1
          · have HR : Aside0 (r = 2147483647) := ⟨by rw [← HG.out]; simp [costG, costS, hb]⟩
            clear HG
            go_wp2
            go_ret
            exact ⟨by rw [HR.out]; rfl, HB.out⟩
          · have hb' : cc.f1 ≤ 2147483647 - y := by omega
            by_cases hpos : 0 < cc.f1
            all_goals
              have HC := Aside0.mk (show costS y cc.f1 = some (y + if 0 < cc.f1 then cc.f1 else 0) by unfold costS; rw [if_neg hb])
              have HCR := Aside0.mk (costS_range HC.out hya hyb)
              clear hb
              go_wp2
              go_roundg 1
              case measure => omega
              case rel => exact ⟨_, 1, rfl, rfl, ⟨by have := HCR.out; first | (rw [if_pos (by omega)] at this; exact this) | (rw [if_neg (by omega), Int.add_zero] at this; exact this)⟩, HB, ⟨.inr (.inl ⟨rfl, rfl, by have := HC.out; first | (rw [if_pos (by omega)] at this; exact this) | (rw [if_neg (by omega), Int.add_zero] at this; exact this)⟩)⟩⟩
        · subst hk
          subst hz
          have HS := Aside0.mk hs
          clear hs
          by_cases hb : 2147483647 - y < cc.f3
          · have HR : Aside0 (r = 2147483647) := ⟨by rw [← HG.out]; unfold costG; rw [HS.out]; simp [costS, hb]⟩
            clear HG HS
            go_wp2
            go_ret
            exact ⟨by rw [HR.out]; rfl, HB.out⟩
          · have hb' : cc.f3 ≤ 2147483647 - y := by omega
            by_cases hpos : 0 < cc.f3
            all_goals
              have HC := Aside0.mk (show costS y cc.f3 = some (y + if 0 < cc.f3 then cc.f3 else 0) by unfold costS; rw [if_neg hb])
              have HCR := Aside0.mk (costS_range HC.out hya hyb)
              clear hb
              go_wp2
              go_roundg 0
              case measure => omega
              case rel => exact ⟨_, 2, rfl, rfl, ⟨by have := HCR.out; first | (rw [if_pos (by omega)] at this; exact this) | (rw [if_neg (by omega), Int.add_zero] at this; exact this)⟩, HB, ⟨.inr (.inr ⟨rfl, rfl, y, HS.out, by have := HC.out; first | (rw [if_pos (by omega)] at this; exact this) | (rw [if_neg (by omega), Int.add_zero] at this; exact this)⟩)⟩⟩
        · subst hk
          subst hz
          have HS : Aside0 (costG (l0.drop (x10 + 1).toNat) y = r) := ⟨by rw [← HG.out]; simp only [costG, hs1, hs2]⟩
          clear hs1 hs2 HG
          go_wp2
          go_roundg k1
          case measure => omega
          case rel => exact ⟨y, wrap64 (x10 + 1), rfl, rfl, ⟨by rw [W1.out]; have := H10.out; omega⟩, HY, ⟨by rw [W1.out]; exact HS.out⟩, HB⟩
end Go.Proofs.Ytpkhfeeelkhkaaa.X
