/-
  The contract of journal.Sum: it returns the check sum (a fold over the bytes, eight steps a byte) of any bytes that are read.
-/
import Derived.Test.YtppgbfkhiofjiaaX0
namespace Go.Proofs.Ytppgbfkhiofjiaa.X
open Go.RowKit Go.Proofs.YtppgbfkhiofjiaaW.PrintWords Go.Proofs.YtppgbfkhiofjiaaW.PrintLast Go.Proofs.YtppgbfkhiofjiaaW.PrintMore
set_option linter.unusedVariables false

/-- One bit's step. -/
def bitS (s : Int) : Int := if (bits .and .u32 s 1 == 1) = true then bits .xor .u32 (s / 2) 3988292384 else s / 2
def bitsN : Nat → Int → Int
  | 0, s => s
  | n + 1, s => bitsN n (bitS s)
def byteS (s b : Int) : Int := bitsN 8 (bits .xor .u32 s (b % 4294967296))
def sumL (s : Int) (l : List Int) : Int := l.foldl byteS s
def journal_Sum.f (l0 : List Int) : Option Int := some (bits .xor .u32 IntKind.u32.max (sumL 4294967295 l0))

theorem sumL_step (s : Int) (l : List Int) (i : Int) (h0 : 0 ≤ i) (h1 : i < l.length) : sumL s (l.drop i.toNat) = sumL (byteS s (rd l i)) (l.drop (i + 1).toNat) := by
  have hl : i.toNat < l.length := by omega
  have e : l.drop i.toNat = rd l i :: l.drop (i + 1).toNat := by
    rw [List.drop_eq_getElem_cons hl, show (i + 1).toNat = i.toNat + 1 by omega]
    simp [rd, List.getD_eq_getElem?_getD, List.getElem?_eq_getElem hl]
  rw [e]
  rfl

set_option maxHeartbeats 400000 in
theorem journal_Sum.calls (A0 : Option Addr) (c0 : Nat) (l0 : List Int) (r : Int) (w : World) (hr0 : Kd.C (Kd.int .u8) w A0 l0.length l0) (hc0 : l0.length ≤ c0) (h : journal_Sum.f l0 = some r) :
    Calls Try.prog 10 #[.slice A0 l0.length c0] w fun e w' => e = .returned (.int .u32 r) ∧ Drawn0 w w' := by
  have HR0 := Aside0.mk hr0
  have HC0 := Aside0.mk hc0
  have HL := Aside0.mk hr0.2.1
  have H : Aside0 (bits .xor .u32 IntKind.u32.max (sumL 4294967295 (l0.drop (0 : Int).toNat)) = r) := ⟨Option.some.inj h⟩
  clear hr0 hc0 h
  go_enter Try.func10, Try.ntmps10
  go_wp2
  go_loopg [3, 5, 6, 9, 17] l0.length (fun kq v3 v5 v6 v9 v17 w' => ∃ (x3 : Int) (x9 : Int), v3 = .int .u32 x3 ∧ v9 = .int .i64 x9 ∧ Aside0 (0 ≤ x9 ∧ x9 + kq = l0.length) ∧ Aside0 (bits .xor .u32 IntKind.u32.max (sumL x3 (l0.drop x9.toNat)) = r) ∧ Drawn0 w w')
  case atStart => exact ⟨4294967295, 0, rfl, rfl, ⟨by omega⟩, H, Drawn0.refl _⟩
  case round =>
    clear H
    obtain ⟨x3, x9, rfl, rfl, H9, H, ⟨m1, rfl⟩⟩ := hrel
    have q := H9.out.1
    have hL := HL.out
    cases gk with
    | succ k1 =>
      have hlt : x9 < l0.length := by have := H9.out; omega
      have q1 : decide (x9 < (l0.length : Int)) = true := by simpa using hlt
      have H2 : Aside0 (bits .xor .u32 IntKind.u32.max (sumL (bitsN 8 (bits .xor .u32 x3 (rd l0 x9 % 4294967296))) (l0.drop (x9 + 1).toNat)) = r) := ⟨by rw [← H.out, sumL_step x3 l0 x9 q hlt]; rfl⟩
      clear H
      obtain ⟨ad, e, hx⟩ := Kd.at_int HR0.out x9 q hlt
      cases e
      have W1 : Aside0 (wrap64 (x9 + 1) = x9 + 1) := ⟨by unfold wrap64; omega⟩
      replace q := eq_true q
      replace hlt := eq_true hlt
      clear hL
      go_wp2
      go_loopg [3, 6, 17] 8 (fun kq v3 v6 v17 w' => ∃ (y : Int) (z : Int), v3 = .int .u32 y ∧ v17 = .int .i64 z ∧ Aside0 (0 ≤ z ∧ z + kq = 8) ∧ Aside0 (bitsN kq y = bitsN 8 (bits .xor .u32 x3 (rd l0 x9 % 4294967296))) ∧ Drawn0 w w')
      case atStart => exact ⟨_, 0, rfl, rfl, ⟨by omega⟩, ⟨rfl⟩, ⟨⟨_, rfl⟩⟩⟩
      case round =>
        clear q1 q hlt hx
        obtain ⟨y, z, rfl, rfl, hz, hy, ⟨m2, rfl⟩⟩ := hrel
        cases gk with
        | succ k2 =>
          have h8 : decide (z < 8) = true := by have := hz.out; simp; omega
          have W2 : Aside0 (wrap64 (z + 1) = z + 1) := ⟨by have := hz.out; unfold wrap64; omega⟩
          have HZ : Aside0 (0 ≤ z + 1 ∧ z + 1 + (k2 : Int) = 8) := ⟨by have := hz.out; omega⟩
          have HY : Aside0 (bitsN k2 (bitS y) = bitsN 8 (bits .xor .u32 x3 (rd l0 x9 % 4294967296))) := ⟨hy.out⟩
          clear hz hy
          by_cases hb : (bits .and .u32 y 1 == 1) = true
          · go_wp2
            go_roundg k2
            case measure => omega
            case rel => exact ⟨_, wrap64 (z + 1), rfl, rfl, ⟨by rw [W2.out]; exact HZ.out⟩, ⟨by rw [← HY.out, bitS, if_pos hb]⟩, ⟨⟨_, rfl⟩⟩⟩
          · have hb' : (bits .and .u32 y 1 == 1) = false := by simpa using hb
            go_wp2
            go_roundg k2
            case measure => omega
            case rel => exact ⟨_, wrap64 (z + 1), rfl, rfl, ⟨by rw [W2.out]; exact HZ.out⟩, ⟨by rw [← HY.out, bitS, if_neg hb]⟩, ⟨⟨_, rfl⟩⟩⟩
        | zero =>
          have h8 : decide (z < 8) = false := by have := hz.out; simp; omega
          have HY : Aside0 (y = bitsN 8 (bits .xor .u32 x3 (rd l0 x9 % 4294967296))) := ⟨hy.out⟩
          clear hz hy
          go_wp2
          go_roundg k1
          case measure => omega
          case rel => exact ⟨_, wrap64 (x9 + 1), rfl, rfl, ⟨by rw [W1.out]; have := H9.out; omega⟩, ⟨by rw [W1.out, HY.out]; exact H2.out⟩, ⟨⟨_, rfl⟩⟩⟩
    | zero =>
      have hge : decide (x9 < (l0.length : Int)) = false := by have := H9.out; simp; omega
      have R : Aside0 (bits .xor .u32 IntKind.u32.max x3 = r) := ⟨by
        rw [← H.out, List.drop_of_length_le (by have := H9.out; omega)]; rfl⟩
      clear H H9 q hL
      go_wp2
      go_ret
      exact ⟨by rw [R.out]; rfl, ⟨⟨_, rfl⟩⟩⟩
end Go.Proofs.Ytppgbfkhiofjiaa.X
