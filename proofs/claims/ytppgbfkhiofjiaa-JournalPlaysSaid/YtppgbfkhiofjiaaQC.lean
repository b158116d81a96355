/-
  Of the proof of JournalPlays (put together by wip/tools/mkclaimj.py):
  The contract of journal.Sum: it returns the check sum (a fold over the bytes, eight steps a byte) of any bytes that are read.
  The walk of JournalSums: it returns true where the two check sums agree and the two fixed sums are as told.
  JournalSums, the plain law: the reference's two loops come to the same sum as the program's steps, for any bytes; the two fixed sums are as told.
  The journal: what its steps come to, as functions of a disk's state; and the contract of head.
  The contract of row: steps one behind the other, up to the first that goes wrong.
  The journal: a disk that has gone on; a row of steps on a disk; the contracts of lays and Format.
-/
import Derived.Test.YtppgbfkhiofjiaaQA
import Derived.Lib.SlBytesConst
import Derived.Lib.SmallJoins
import Derived.Test.YtppgbfkhiofjiaaProg
import Derived.Below
import Derived.Deep.Draws
import Derived.Deep.AppendLies
import Derived.Maps.AppendAt
import Derived.OwnWalk
import Derived.Laws.BytesArg
import Derived.Laws.MakeOwn
import Derived.Laws.OwnMore
import Derived.Deep.OwnRows
import Derived.Tactics
import Derived.Lib.ConvBytes
import Derived.Laws.Slices
import Derived.WalkKit
import Derived.KernelRfl
import Derived.RowKit3
import Derived.Deep.LoopGhost
import Derived.Deep.QuietTactic
import Derived.BigQuiet
import Derived.WideLaws
import Derived.Deep.DeepCutAuto
import Derived.Deep.CutBlock
import Derived.Deep.RegionHeld3
import Derived.Laws.Rows
import Derived.Lib.AppendStr
import Derived.ArgAppend
import Derived.Laws.IdiomCopy
import Derived.OrdersHeld
import Derived.Laws.BitsLemmas
import Derived.RowKit
import Derived.Test.YtppgbfkhiofjiaaWWords
import Derived.Test.YtppgbfkhiofjiaaWLast
import Derived.Test.YtppgbfkhiofjiaaWTab
import Derived.Test.YtppgbfkhiofjiaaWQPut
import Derived.Test.YtppgbfkhiofjiaaWApart
import Derived.Test.YtppgbfkhiofjiaaWArr
import Derived.Test.YtppgbfkhiofjiaaWZeros
import Derived.Test.YtppgbfkhiofjiaaWFoot
import Derived.Test.YtppgbfkhiofjiaaWKept
import Derived.Test.YtppgbfkhiofjiaaWShare
import Derived.Test.YtppgbfkhiofjiaaWN
import Derived.Test.YtppgbfkhiofjiaaWRepsOne
import Derived.Test.YtppgbfkhiofjiaaWNEv
import Derived.Test.YtppgbfkhiofjiaaWMore
namespace Go.Proofs.Ytppgbfkhiofjiaa.X
open Go.RowKit Go.Proofs.YtppgbfkhiofjiaaW.PrintWords Go.Proofs.YtppgbfkhiofjiaaW.PrintLast Go.Proofs.YtppgbfkhiofjiaaW.PrintMore
attribute [local go_sem] max2_int min2_int max_two min_two max_three min_three max_four min_four   -- for this text's walks alone
set_option linter.unusedVariables false
set_option linter.unusedSimpArgs false

/-! ### redlineref24_Sum: function 11 -/
mutual
def redlineref24_Sum.l0 : Nat → List Int → Int → Int → Option (Int)
  | 0, _, _, _ => none
  | k + 1, x0, x3, x4 => if x4 < (x0.length : Int) then (if 0 ≤ x4 then (redlineref24_Sum.l1 k x0 (Go.bits .xor .u32 x3 ((rd x0 x4) % 4294967296)) x4 0) else (none)) else (some (Go.bits .xor .u32 x3 4294967295))
def redlineref24_Sum.l1 : Nat → List Int → Int → Int → Int → Option (Int)
  | 0, _, _, _, _ => none
  | k + 1, x0, x3, x4, x5 => if x5 < 8 then (if (Int.tmod x3 2) = 1 then (redlineref24_Sum.l1 k x0 (Go.bits .xor .u32 ((Int.tdiv x3 2) % 4294967296) 3988292384) x4 (wrap64 (x5 + 1))) else (redlineref24_Sum.l1 k x0 ((Int.tdiv x3 2) % 4294967296) x4 (wrap64 (x5 + 1)))) else (redlineref24_Sum.l0 k x0 x3 (wrap64 (x4 + 1)))
end
def redlineref24_Sum.f (k : Nat) (l0 : List Int) : Option (Int) := redlineref24_Sum.l0 k l0 4294967295 0
theorem redlineref24_Sum.mono_l : ∀ k, (∀ y0 y1 y2, LeO (redlineref24_Sum.l0 k y0 y1 y2) (redlineref24_Sum.l0 (k + 1) y0 y1 y2)) ∧ (∀ y0 y1 y2 y3, LeO (redlineref24_Sum.l1 k y0 y1 y2 y3) (redlineref24_Sum.l1 (k + 1) y0 y1 y2 y3))
  | 0 => ⟨fun _ _ _ r h => by simp [redlineref24_Sum.l0] at h, fun _ _ _ _ r h => by simp [redlineref24_Sum.l1] at h⟩
  | k + 1 => by
    obtain ⟨ih0, ih1⟩ := redlineref24_Sum.mono_l k
    refine ⟨?_, ?_⟩
    · intro y0 y1 y2
      unfold redlineref24_Sum.l0
      repeat' first
      | (with_reducible exact ih0 _ _ _)
      | (with_reducible exact ih1 _ _ _ _)
      | (with_reducible exact LeO.refl _)
      | (with_reducible exact LeO.none _)
      | (with_reducible refine LeO.ite ?_ ?_)
      | (with_reducible refine LeO.bind ?_ (fun _ => ?_))
      | exact ih0 _ _ _
      | exact ih1 _ _ _ _
      | exact LeO.none _
      | refine LeO.ite ?_ ?_
      | refine LeO.bind ?_ (fun _ => ?_)
    · intro y0 y1 y2 y3
      unfold redlineref24_Sum.l1
      repeat' first
      | (with_reducible exact ih0 _ _ _)
      | (with_reducible exact ih1 _ _ _ _)
      | (with_reducible exact LeO.refl _)
      | (with_reducible exact LeO.none _)
      | (with_reducible refine LeO.ite ?_ ?_)
      | (with_reducible refine LeO.bind ?_ (fun _ => ?_))
      | exact ih0 _ _ _
      | exact ih1 _ _ _ _
      | exact LeO.none _
      | refine LeO.ite ?_ ?_
      | refine LeO.bind ?_ (fun _ => ?_)
theorem redlineref24_Sum.mono : ∀ a0 k, LeO (redlineref24_Sum.f k a0) (redlineref24_Sum.f (k + 1) a0) := by
  intro a0 k
  obtain ⟨ih0, ih1⟩ := redlineref24_Sum.mono_l k
  unfold redlineref24_Sum.f
  repeat' first
      | (with_reducible exact ih0 _ _ _)
      | (with_reducible exact ih1 _ _ _ _)
      | (with_reducible exact LeO.refl _)
      | (with_reducible exact LeO.none _)
      | (with_reducible refine LeO.ite ?_ ?_)
      | (with_reducible refine LeO.bind ?_ (fun _ => ?_))
      | exact ih0 _ _ _
      | exact ih1 _ _ _ _
      | exact LeO.none _
      | refine LeO.ite ?_ ?_
      | refine LeO.bind ?_ (fun _ => ?_)
set_option maxHeartbeats 8000000 in
set_option maxRecDepth 100000 in
theorem redlineref24_Sum.calls (k : Nat) (A0 : Option Addr) (c0 : Nat) (l0 : List Int) (r : Int) (w : World) (hr0 : Kd.C (Kd.int .u8) w A0 l0.length l0) (hc0 : l0.length ≤ c0) (h : redlineref24_Sum.f k l0 = some r) :
    Calls Try.prog 11 #[.slice A0 l0.length c0] w fun e w' => e = .returned (.int .u32 r) ∧ Drawn0 w w' := by
  have HR0 := Aside0.mk hr0
  have HC0 := Aside0.mk hc0
  clear hr0 hc0
  have H : (redlineref24_Sum.l0 k l0 4294967295 0) = some r := h
  clear h
  have H' := Aside0.mk H
  clear H
  go_enter Try.func11, Try.ntmps11
  go_wp2
  go_loopg [3, 4] k (fun kq v3 v4 w' => ∃ (x3_1 : Int) (x4_1 : Int), v3 = .int .u32 x3_1 ∧ v4 = .int .i64 x4_1 ∧ Aside0 (redlineref24_Sum.l0 kq l0 x3_1 x4_1 = some r) ∧ Aside0 (kq ≤ k) ∧ Drawn0 w w')
  case atStart => exact ⟨(4294967295), (0), (by first | rfl | (simp; done) | (simp [*]; done)), (by first | rfl | (simp; done) | (simp [*]; done)), H', ⟨Nat.le_refl _⟩, by repeat (first | exact Drawn0.refl _ | apply Drawn0.step)⟩
  case round =>
    clear H'
    try clear c1
    obtain ⟨x3_1, x4_1, rfl, rfl, HA, HK1, ⟨m1, rfl⟩⟩ := hrel
    cases gk with
    | zero => exact absurd HA.out (by simp [redlineref24_Sum.l0])
    | succ k1 =>
      have H := HA.out
      clear HA
      simp only [redlineref24_Sum.l0] at H
      by_cases c2 : x4_1 < (l0.length : Int)
      · rw [if_pos c2] at H
        have c2b0 : decide (x4_1 < (l0.length : Int)) = true := decide_eq_true c2
        clear c2
        by_cases c3 : 0 ≤ x4_1
        · rw [if_pos c3] at H
          have c3b0 : decide (0 ≤ x4_1) = true := decide_eq_true c3
          clear c3
          have H' := Aside0.mk H
          clear H
          have p101 : 0 ≤ (x4_1 : Int) := of_decide_eq_true (by first | (with_reducible assumption) | assumption)
          have q101 : x4_1 < (l0.length : Int) := of_decide_eq_true (by first | (with_reducible assumption) | assumption)
          obtain ⟨ad101, e101, hx101_0⟩ := Kd.at_int HR0.out x4_1 p101 q101
          cases e101
          replace p101 := eq_true p101
          replace q101 := eq_true q101
          go_wp2
          go_loopg [3, 5] k1 (fun kq v3 v5 w' => ∃ (x3_2 : Int) (x5_2 : Int), v3 = .int .u32 x3_2 ∧ v5 = .int .i64 x5_2 ∧ Aside0 (redlineref24_Sum.l1 kq l0 x3_2 x4_1 x5_2 = some r) ∧ Aside0 (kq ≤ k1) ∧ Drawn0 w w')
          case atStart => exact ⟨(Go.bits .xor .u32 x3_1 ((rd l0 x4_1) % 4294967296)), (0), (by first | rfl | (simp; done) | (simp [*]; done)), (by first | rfl | (simp; done) | (simp [*]; done)), H', ⟨Nat.le_refl _⟩, by repeat (first | exact Drawn0.refl _ | apply Drawn0.step)⟩
          case round =>
            clear H'
            try clear c1
            try clear p1
            try clear q1
            try clear hx1
            try clear c2
            try clear c2b0
            try clear p2
            try clear c3
            try clear c3b0
            try clear hx101_0
            try clear p101
            try clear q101
            obtain ⟨x3_2, x5_2, rfl, rfl, HA, HK2, ⟨m2, rfl⟩⟩ := hrel
            cases gk with
            | zero => exact absurd HA.out (by simp [redlineref24_Sum.l1])
            | succ k2 =>
              have H := HA.out
              clear HA
              simp only [redlineref24_Sum.l1] at H
              by_cases c4 : x5_2 < 8
              · rw [if_pos c4] at H
                have c4b0 : decide (x5_2 < 8) = true := decide_eq_true c4
                clear c4
                by_cases c5 : (Int.tmod x3_2 2) = 1
                · rw [if_pos c5] at H
                  have c5b0 : ((Int.tmod x3_2 2) == 1) = true := beq_iff_eq.mpr c5
                  have c5b1 : ((Int.tmod x3_2 2) != 1) = false := bne_eq_false_iff_eq.mpr c5
                  clear c5
                  have H' := Aside0.mk H
                  clear H
                  go_wp2
                  go_roundg k2
                  case measure => have := HK1.out; have := HK2.out; omega
                  case rel => exact ⟨(Go.bits .xor .u32 ((Int.tdiv x3_2 2) % 4294967296) 3988292384), (wrap64 (x5_2 + 1)), (by first | rfl | (simp; done) | (simp [*]; done)), (by first | rfl | (simp; done) | (simp [*]; done)), H', ⟨by have := HK1.out; have := HK2.out; omega⟩, by repeat (first | exact Drawn0.refl _ | apply Drawn0.step)⟩
                · rw [if_neg c5] at H
                  have c5b0 : ((Int.tmod x3_2 2) == 1) = false := beq_eq_false_iff_ne.mpr c5
                  have c5b1 : ((Int.tmod x3_2 2) != 1) = true := bne_iff_ne.mpr c5
                  have H' := Aside0.mk H
                  clear H
                  go_wp2
                  go_roundg k2
                  case measure => have := HK1.out; have := HK2.out; omega
                  case rel => exact ⟨((Int.tdiv x3_2 2) % 4294967296), (wrap64 (x5_2 + 1)), (by first | rfl | (simp; done) | (simp [*]; done)), (by first | rfl | (simp; done) | (simp [*]; done)), H', ⟨by have := HK1.out; have := HK2.out; omega⟩, by repeat (first | exact Drawn0.refl _ | apply Drawn0.step)⟩
              · rw [if_neg c4] at H
                have c4b0 : decide (x5_2 < 8) = false := decide_eq_false c4
                clear c4
                have H' := Aside0.mk H
                clear H
                go_wp2
                go_roundg k2
                case measure => have := HK1.out; have := HK2.out; omega
                case rel => exact ⟨(x3_2), (wrap64 (x4_1 + 1)), (by first | rfl | (simp; done) | (simp [*]; done)), (by first | rfl | (simp; done) | (simp [*]; done)), H', ⟨by have := HK1.out; have := HK2.out; omega⟩, by repeat (first | exact Drawn0.refl _ | apply Drawn0.step)⟩
        · rw [if_neg c3] at H
          exact absurd H (by simp)
      · rw [if_neg c2] at H
        have c2b0 : decide (x4_1 < (l0.length : Int)) = false := decide_eq_false c2
        clear c2
        obtain rfl := Option.some.inj H
        go_wp2
        go_ret
        exact ⟨by first | rfl | (simp; done) | (simp [*]; done), by repeat (first | exact Drawn0.refl _ | apply Drawn0.step)⟩

end Go.Proofs.Ytppgbfkhiofjiaa.X

namespace Go.Proofs.Ytppgbfkhiofjiaa.X
open Go.RowKit Go.Proofs.YtppgbfkhiofjiaaW.PrintWords Go.Proofs.YtppgbfkhiofjiaaW.PrintLast Go.Proofs.YtppgbfkhiofjiaaW.PrintMore
set_option linter.unusedVariables false

/-- One bit's step. -/
def bitS (s : Int) : Int := if (bits .and .u32 s 1 == 1) = true then bits .xor .u32 (s / 2) 3988292384 else s / 2
def bitsN : Nat → Int → Int
  | 0, s => s
  | n + 1, s => bitsN n (bitS s)
def byteS (s b : Int) : Int := bitsN 8 (bits .xor .u32 s (b % 4294967296))
def sumL (s : Int) (l : List Int) : Int := l.foldl byteS s
def journal_Sum.f (l0 : List Int) : Option Int := some (bits .xor .u32 IntKind.u32.max (sumL 4294967295 l0))

theorem sumL_step (s : Int) (l : List Int) (i : Int) (h0 : 0 ≤ i) (h1 : i < l.length) : sumL s (l.drop i.toNat) = sumL (byteS s (rd l i)) (l.drop (i + 1).toNat) := by
  have hl : i.toNat < l.length := by omega
  have e : l.drop i.toNat = rd l i :: l.drop (i + 1).toNat := by
    rw [List.drop_eq_getElem_cons hl, show (i + 1).toNat = i.toNat + 1 by omega]
    simp [rd, List.getD_eq_getElem?_getD, List.getElem?_eq_getElem hl]
  rw [e]
  rfl

set_option maxHeartbeats 400000 in
theorem journal_Sum.calls (A0 : Option Addr) (c0 : Nat) (l0 : List Int) (r : Int) (w : World) (hr0 : Kd.C (Kd.int .u8) w A0 l0.length l0) (hc0 : l0.length ≤ c0) (h : journal_Sum.f l0 = some r) :
    Calls Try.prog 10 #[.slice A0 l0.length c0] w fun e w' => e = .returned (.int .u32 r) ∧ Drawn0 w w' := by
  have HR0 := Aside0.mk hr0
  have HC0 := Aside0.mk hc0
  have HL := Aside0.mk hr0.2.1
  have H : Aside0 (bits .xor .u32 IntKind.u32.max (sumL 4294967295 (l0.drop (0 : Int).toNat)) = r) := ⟨Option.some.inj h⟩
  clear hr0 hc0 h
  go_enter Try.func10, Try.ntmps10
  go_wp2
  go_loopg [3, 5, 6, 9, 17] l0.length (fun kq v3 v5 v6 v9 v17 w' => ∃ (x3 : Int) (x9 : Int), v3 = .int .u32 x3 ∧ v9 = .int .i64 x9 ∧ Aside0 (0 ≤ x9 ∧ x9 + kq = l0.length) ∧ Aside0 (bits .xor .u32 IntKind.u32.max (sumL x3 (l0.drop x9.toNat)) = r) ∧ Drawn0 w w')
  case atStart => exact ⟨4294967295, 0, rfl, rfl, ⟨by omega⟩, H, Drawn0.refl _⟩
  case round =>
    clear H
    obtain ⟨x3, x9, rfl, rfl, H9, H, ⟨m1, rfl⟩⟩ := hrel
    have q := H9.out.1
    have hL := HL.out
    cases gk with
    | succ k1 =>
      have hlt : x9 < l0.length := by have := H9.out; omega
      have q1 : decide (x9 < (l0.length : Int)) = true := by simpa using hlt
      have H2 : Aside0 (bits .xor .u32 IntKind.u32.max (sumL (bitsN 8 (bits .xor .u32 x3 (rd l0 x9 % 4294967296))) (l0.drop (x9 + 1).toNat)) = r) := ⟨by rw [← H.out, sumL_step x3 l0 x9 q hlt]; rfl⟩
      clear H
      obtain ⟨ad, e, hx⟩ := Kd.at_int HR0.out x9 q hlt
      cases e
      have W1 : Aside0 (wrap64 (x9 + 1) = x9 + 1) := ⟨by unfold wrap64; omega⟩
      replace q := eq_true q
      replace hlt := eq_true hlt
      clear hL
      go_wp2
      go_loopg [3, 6, 17] 8 (fun kq v3 v6 v17 w' => ∃ (y : Int) (z : Int), v3 = .int .u32 y ∧ v17 = .int .i64 z ∧ Aside0 (0 ≤ z ∧ z + kq = 8) ∧ Aside0 (bitsN kq y = bitsN 8 (bits .xor .u32 x3 (rd l0 x9 % 4294967296))) ∧ Drawn0 w w')
      case atStart => exact ⟨_, 0, rfl, rfl, ⟨by omega⟩, ⟨rfl⟩, ⟨⟨_, rfl⟩⟩⟩
      case round =>
        clear q1 q hlt hx
        obtain ⟨y, z, rfl, rfl, hz, hy, ⟨m2, rfl⟩⟩ := hrel
        cases gk with
        | succ k2 =>
          have h8 : decide (z < 8) = true := by have := hz.out; simp; omega
          have W2 : Aside0 (wrap64 (z + 1) = z + 1) := ⟨by have := hz.out; unfold wrap64; omega⟩
          have HZ : Aside0 (0 ≤ z + 1 ∧ z + 1 + (k2 : Int) = 8) := ⟨by have := hz.out; omega⟩
          have HY : Aside0 (bitsN k2 (bitS y) = bitsN 8 (bits .xor .u32 x3 (rd l0 x9 % 4294967296))) := ⟨hy.out⟩
          clear hz hy
          by_cases hb : (bits .and .u32 y 1 == 1) = true
          · go_wp2
            go_roundg k2
            case measure => omega
            case rel => exact ⟨_, wrap64 (z + 1), rfl, rfl, ⟨by rw [W2.out]; exact HZ.out⟩, ⟨by rw [← HY.out, bitS, if_pos hb]⟩, ⟨⟨_, rfl⟩⟩⟩
          · have hb' : (bits .and .u32 y 1 == 1) = false := by simpa using hb
            go_wp2
            go_roundg k2
            case measure => omega
            case rel => exact ⟨_, wrap64 (z + 1), rfl, rfl, ⟨by rw [W2.out]; exact HZ.out⟩, ⟨by rw [← HY.out, bitS, if_neg hb]⟩, ⟨⟨_, rfl⟩⟩⟩
        | zero =>
          have h8 : decide (z < 8) = false := by have := hz.out; simp; omega
          have HY : Aside0 (y = bitsN 8 (bits .xor .u32 x3 (rd l0 x9 % 4294967296))) := ⟨hy.out⟩
          clear hz hy
          go_wp2
          go_roundg k1
          case measure => omega
          case rel => exact ⟨_, wrap64 (x9 + 1), rfl, rfl, ⟨by rw [W1.out]; have := H9.out; omega⟩, ⟨by rw [W1.out, HY.out]; exact H2.out⟩, ⟨⟨_, rfl⟩⟩⟩
    | zero =>
      have hge : decide (x9 < (l0.length : Int)) = false := by have := H9.out; simp; omega
      have R : Aside0 (bits .xor .u32 IntKind.u32.max x3 = r) := ⟨by
        rw [← H.out, List.drop_of_length_le (by have := H9.out; omega)]; rfl⟩
      clear H H9 q hL
      go_wp2
      go_ret
      exact ⟨by rw [R.out]; rfl, ⟨⟨_, rfl⟩⟩⟩
end Go.Proofs.Ytppgbfkhiofjiaa.X

namespace Go.Proofs.Ytppgbfkhiofjiaa.X
open Go.RowKit Go.Proofs.YtppgbfkhiofjiaaW.PrintWords Go.Proofs.YtppgbfkhiofjiaaW.PrintLast Go.Proofs.YtppgbfkhiofjiaaW.PrintMore
set_option linter.unusedVariables false

/-- A row of bytes in a block that bears a conversion's mark is read as the bytes. -/
theorem reads_marked (w : World) (xs : List Int) (fr : Nat × Nat) (hl : xs.length ≤ 9223372036854775807) :
    Kd.C (Kd.int .u8) (w.alloc (.cells (nums .u8 xs).toArray 5 fr)) (some ⟨w.heap.size, 0, none⟩) xs.length xs := by
  refine Kd.C_of_reads (d := (0 : Int)) (h1 := fun _ => rfl) ⟨rfl, hl, fun _ => ⟨_, rfl, fun j hj => ?_⟩⟩
  rw [add_plain, World.cell?_alloc_mark]
  simp [nums, List.getD_eq_getElem?_getD, List.getElem?_eq_getElem hj]

set_option maxHeartbeats 400000 in
set_option maxRecDepth 100000 in
theorem JournalSums_calls (k : Nat) (A0 : Option Addr) (c0 : Nat) (l0 : List Int) (r : Int) (w : World) (hr0 : Kd.C (Kd.int .u8) w A0 l0.length l0) (hc0 : l0.length ≤ c0)
    (h1 : journal_Sum.f l0 = some r) (h2 : redlineref24_Sum.f k l0 = some r) (h3 : journal_Sum.f [49, 50, 51, 52, 53, 54, 55, 56, 57] = some 3421780262) (h4 : journal_Sum.f [] = some 0) :
    Calls Try.prog 3 #[.slice A0 l0.length c0] w fun e w' => e = .returned (.bool true) ∧ Below w.heap.size w w' := by
  have HR0 := Aside0.mk hr0
  have HC0 := Aside0.mk hc0
  have H1 := Aside0.mk h1
  have H2 := Aside0.mk h2
  have H3 := Aside0.mk h3
  have H4 := Aside0.mk h4
  clear hr0 hc0 h1 h2 h3 h4
  have kc := fun (W : World) (C : Array Value) (n c g : Nat) (hg : g = W.heap.size) => Joins.run_convert_bytes_const_at (P := Try.prog) W 22 5 C n c g hg Try.underlying22 Try.underlying5
  go_enter Try.func3, Try.ntmps3
  go_wp2_with fail
  refine (journal_Sum.calls _ _ l0 r _ HR0.out HC0.out H1.out).mono ?_
  rintro e w' ⟨rfl, ⟨n1, rfl⟩⟩
  go_wp2_with fail
  refine (redlineref24_Sum.calls k _ _ l0 r _ ?side1 ?side2 H2.out).mono ?_
  case side1 => exact Kd.C_drewN HR0.out _
  case side2 => exact HC0.out
  rintro e w' ⟨rfl, ⟨n2, rfl⟩⟩
  go_wp2_with fail
  have kd := kc (w.drewN (n1 + n2)) (nums .u8 [49, 50, 51, 52, 53, 54, 55, 56, 57]).toArray 9 9 w.heap.size (by simp)
  have hr := reads_marked (w.drewN (n1 + n2)) [49, 50, 51, 52, 53, 54, 55, 56, 57] (9, 10) (by decide)
  have hb : Below w.heap.size w ((w.drewN (n1 + n2)).alloc (.cells (nums .u8 [49, 50, 51, 52, 53, 54, 55, 56, 57]).toArray 5 (9, 10))) := (pw_below_drewN (Below.refl _ _) _).alloc (by simp) _
  refine (congrArg (fun r => Oper.upon _ _ _ _ _ (Result.andThen r _)) kd).mpr ?_
  clear kd kc
  rw [show (nums .u8 [49, 50, 51, 52, 53, 54, 55, 56, 57]).toArray.size = 9 from rfl]
  revert hr hb
  generalize hW : (w.drewN (n1 + n2)).alloc (.cells (nums .u8 [49, 50, 51, 52, 53, 54, 55, 56, 57]).toArray 5 (9, 9 + 1)) = W1
  intro hr hb
  have HR := Aside0.mk hr
  have HB := Aside0.mk hb
  clear hr hb hW
  go_wp2_with fail
  refine (journal_Sum.calls _ _ [49, 50, 51, 52, 53, 54, 55, 56, 57] 3421780262 _ HR.out (by decide) H3.out).mono ?_
  rintro e w' ⟨rfl, ⟨n3, rfl⟩⟩
  go_wp2_with fail
  refine (journal_Sum.calls _ _ [] 0 _ (Kd.C_nil _ _) (Nat.le_refl _) H4.out).mono ?_
  rintro e w' ⟨rfl, ⟨n4, rfl⟩⟩
  go_wp2
  go_ret
  exact ⟨rfl, pw_below_drewN HB.out _⟩
end Go.Proofs.Ytppgbfkhiofjiaa.X

namespace Go.Proofs.Ytppgbfkhiofjiaa.X
open Go.RowKit Go.Proofs.YtppgbfkhiofjiaaW.PrintWords Go.Proofs.YtppgbfkhiofjiaaW.PrintLast Go.Proofs.YtppgbfkhiofjiaaW.PrintMore

theorem u32_range (a b : Int) : 0 ≤ bits .xor .u32 a b ∧ bits .xor .u32 a b < 4294967296 := by
  have h : ∃ n, bits .xor .u32 a b = IntKind.u32.wrap n := ⟨_, rfl⟩
  obtain ⟨n, h⟩ := h
  rw [h, IntKind.wrap_u32]
  omega
theorem u32_and1 (x : Int) (h0 : 0 ≤ x) (h1 : x < 4294967296) : bits .and .u32 x 1 = x % 2 :=
  bits_mask .u32 32 (by decide) (fun n a b => by rw [IntKind.wrap_u32]; omega) 1 (by decide) x h0 h1

theorem bitS_range (s : Int) (h0 : 0 ≤ s) (h1 : s < 4294967296) : 0 ≤ bitS s ∧ bitS s < 4294967296 := by
  unfold bitS
  split
  · exact u32_range _ _
  · omega

theorem bitsN_range (n : Nat) : ∀ s : Int, 0 ≤ s → s < 4294967296 → 0 ≤ bitsN n s ∧ bitsN n s < 4294967296 := by
  induction n with
  | zero => intro s h0 h1; exact ⟨h0, h1⟩
  | succ n ih => intro s h0 h1; have := bitS_range s h0 h1; exact ih _ this.1 this.2

theorem l0_succ (k : Nat) (x0 : List Int) (x3 x4 : Int) : redlineref24_Sum.l0 (k + 1) x0 x3 x4 = if x4 < (x0.length : Int) then (if 0 ≤ x4 then (redlineref24_Sum.l1 k x0 (bits .xor .u32 x3 ((rd x0 x4) % 4294967296)) x4 0) else (none)) else (some (bits .xor .u32 x3 4294967295)) := by
  simp only [redlineref24_Sum.l0]
theorem l1_succ (k : Nat) (x0 : List Int) (x3 x4 x5 : Int) : redlineref24_Sum.l1 (k + 1) x0 x3 x4 x5 = if x5 < 8 then (if (Int.tmod x3 2) = 1 then (redlineref24_Sum.l1 k x0 (bits .xor .u32 ((Int.tdiv x3 2) % 4294967296) 3988292384) x4 (wrap64 (x5 + 1))) else (redlineref24_Sum.l1 k x0 ((Int.tdiv x3 2) % 4294967296) x4 (wrap64 (x5 + 1)))) else (redlineref24_Sum.l0 k x0 x3 (wrap64 (x4 + 1))) := by
  simp only [redlineref24_Sum.l1]

theorem bitS_eq (s : Int) (h0 : 0 ≤ s) (h1 : s < 4294967296) : bitS s = if s % 2 = 1 then bits .xor .u32 (s / 2) 3988292384 else s / 2 := by
  unfold bitS
  rw [u32_and1 s h0 h1]
  simp only [beq_iff_eq]

/-- The reference's inner loop. -/
theorem inner (l0 : List Int) (i : Int) (d : Nat) : ∀ (k : Nat) (s x5 : Int), 0 ≤ s → s < 4294967296 → 0 ≤ x5 → x5 + d = 8 →
    redlineref24_Sum.l1 (k + d + 1) l0 s i x5 = redlineref24_Sum.l0 k l0 (bitsN d s) (wrap64 (i + 1)) := by
  induction d with
  | zero =>
    intro k s x5 h0 h1 h2 h3
    rw [l1_succ, if_neg (by omega)]
    rfl
  | succ d ih =>
    intro k s x5 h0 h1 h2 h3
    have hr := bitS_range s h0 h1
    have hw : wrap64 (x5 + 1) = x5 + 1 := by unfold wrap64; omega
    have ht : Int.tmod s 2 = s % 2 := Int.tmod_eq_emod_of_nonneg h0
    have hd : Int.tdiv s 2 % 4294967296 = s / 2 := by rw [Int.tdiv_eq_ediv_of_nonneg h0]; omega
    have ih' := ih k (bitS s) (x5 + 1) hr.1 hr.2 (by omega) (by omega)
    show _ = redlineref24_Sum.l0 k l0 (bitsN d (bitS s)) (wrap64 (i + 1))
    rw [l1_succ, if_pos (by omega), ht, hd, hw, ← ih', bitS_eq s h0 h1]
    by_cases hb : s % 2 = 1
    · rw [if_pos hb, if_pos hb]; rfl
    · rw [if_neg hb, if_neg hb]; rfl

/-- The reference's outer loop, with enough rounds. -/
theorem outer (l0 : List Int) (hl : l0.length ≤ 9223372036854775807) (d : Nat) : ∀ (s i : Int), 0 ≤ s → s < 4294967296 → 0 ≤ i → i + d = l0.length →
    redlineref24_Sum.l0 (d * 10 + 1) l0 s i = some (bits .xor .u32 (sumL s (l0.drop i.toNat)) 4294967295) := by
  induction d with
  | zero =>
    intro s i h0 h1 h2 h3
    rw [show 0 * 10 + 1 = 0 + 1 from rfl, l0_succ, if_neg (by omega), List.drop_of_length_le (by omega)]
    rfl
  | succ d ih =>
    intro s i h0 h1 h2 h3
    have hw : wrap64 (i + 1) = i + 1 := by unfold wrap64; omega
    rw [show (d + 1) * 10 + 1 = (d * 10 + 1 + 8 + 1) + 1 by omega, l0_succ, if_pos (by omega), if_pos h2]
    have hx := u32_range s (rd l0 i % 4294967296)
    rw [inner l0 i 8 (d * 10 + 1) _ 0 hx.1 hx.2 (by omega) (by omega), hw]
    have hn := bitsN_range 8 _ hx.1 hx.2
    rw [ih _ (i + 1) hn.1 hn.2 (by omega) (by omega), sumL_step s l0 i h2 (by omega)]
    rfl

theorem xor_comm_u32 (a b : Int) : bits .xor .u32 a b = bits .xor .u32 b a := by
  unfold bits
  simp only [BitVec.xor_comm]

theorem sums_agree (l0 : List Int) (hl : l0.length ≤ 9223372036854775807) : ∃ k r, journal_Sum.f l0 = some r ∧ redlineref24_Sum.f k l0 = some r := by
  refine ⟨l0.length * 10 + 1, _, rfl, ?_⟩
  unfold redlineref24_Sum.f
  rw [outer l0 hl l0.length 4294967295 0 (by omega) (by omega) (by omega) (by omega), xor_comm_u32]
  rfl
theorem sum_nine : journal_Sum.f [49, 50, 51, 52, 53, 54, 55, 56, 57] = some 3421780262 := by decide +kernel
theorem sum_none : journal_Sum.f [] = some 0 := by decide +kernel
end Go.Proofs.Ytppgbfkhiofjiaa.X

namespace Go.Proofs.Ytppgbfkhiofjiaa.Y
open Go.RowKit Go.Proofs.YtppgbfkhiofjiaaW.PrintWords Go.Proofs.YtppgbfkhiofjiaaW.PrintLast Go.Proofs.YtppgbfkhiofjiaaW.PrintMore
attribute [local go_sem] max2_int min2_int max_two min_two max_three min_three max_four min_four   -- for this text's walks alone
set_option linter.unusedVariables false
set_option linter.unusedSimpArgs false



def errW : Option Int → Value
  | none => .nilIface
  | some c => .iface 0 (.int .i64 c)
theorem errW_none : errW none = .nilIface := rfl
theorem errW_some (c : Int) : errW (some c) = .iface 0 (.int .i64 c) := rfl

theorem info3 : (Try.prog.info? 3).map (fun i => (i.zero, i.size, i.bytes)) = some (some (.int .i64 0), 1, 8) := by kernel_rfl
theorem info5 : (Try.prog.info? 5).map (fun i => (i.zero, i.size, i.bytes)) = some (some (.int .u8 0), 1, 1) := by kernel_rfl
theorem info102 : (Try.prog.info? 102).map (fun i => (i.zero, i.size, i.bytes)) = some (some (.agg #[(.int .i64 0), (.slice none 0 0)]), 2, 32) := by kernel_rfl
-- the values' own types
def rd_L2 (xs : List (List Int)) (i : Int) : (List Int) := xs.getD i.toNat ([] : List Int)
theorem at_L2 {w : World} {A : Option Addr} {n : Nat} {xs : List (List Int)} (h : Kd.C (Kd.slice 5 (Kd.int .u8)) w A n xs) (i : Int) (h0 : 0 ≤ i) (h1 : i < n) : ∃ ad A0 c0, A = some ad ∧ w.cell? (ad.add i.toNat) = some (.slice A0 (rd_L2 xs i).length c0) ∧ (rd_L2 xs i).length ≤ c0 ∧ (Kd.int .u8).C w A0 (rd_L2 xs i).length (rd_L2 xs i) := by
  obtain ⟨ad, c, e, _, hK, hc0⟩ := Kd.C_get h ([] : List Int) i h0 h1
  have hc : ∀ j u, c[j]? = some u → w.cell? (ad.add (i.toNat * 1 + j)) = some u := hc0
  obtain ⟨A0, c0, rfl, l0, g0⟩ := hK
  exact ⟨ad, A0, c0, e, by have hq := hc 0 _ rfl; rwa [Nat.mul_one, Nat.add_zero] at hq, l0, g0⟩

/-! #### struct type 100 -/
structure S100 where
  f0 : Int
  f1 : (List Int)
def z100 : S100 := ⟨(0 : Int), ([] : List Int)⟩
def k100 : Kd S100 := Kd.iso (Kd.pair (Kd.int .i64) (Kd.slice 5 (Kd.int .u8))) (fun x : S100 => (x.f0, x.f1))
theorem k100_open {w : World} {x : S100} {cs : List Value} (h : k100.K w x cs) : ∃ A1 c1, cs = [.int .i64 x.f0, .slice A1 x.f1.length c1] ∧ x.f1.length ≤ c1 ∧ (Kd.int .u8).C w A1 x.f1.length x.f1 := by
  obtain ⟨_, _, rfl, rfl, ⟨A1, c1, rfl, l1, g1⟩⟩ := h
  exact ⟨A1, c1, rfl, l1, g1⟩
theorem k100_openM {w : World} {base : Nat} {ok : Nat → Prop} {x : S100} {cs : List Value} (h : k100.M w base ok x cs) : ∃ v1, cs = [.int .i64 x.f0, v1] ∧ (Kd.int .u8).R 5 w base ok v1 x.f1 := by
  obtain ⟨_, _, rfl, rfl, ⟨v1, rfl, g1⟩⟩ := h
  exact ⟨v1, rfl, g1⟩
theorem k100_mk (w : World) (x : S100) {A1 : Option Addr} {c1 : Nat} (l1 : x.f1.length ≤ c1) (g1 : (Kd.int .u8).C w A1 x.f1.length x.f1) : k100.K w x [.int .i64 x.f0, .slice A1 x.f1.length c1] := ⟨[.int .i64 x.f0], [.slice A1 x.f1.length c1], rfl, rfl, ⟨A1, c1, rfl, l1, g1⟩⟩
theorem k100_mkM (w : World) (base : Nat) (ok : Nat → Prop) (x : S100) {v1 : Value} (g1 : (Kd.int .u8).R 5 w base ok v1 x.f1) : k100.M w base ok x [.int .i64 x.f0, v1] := ⟨[.int .i64 x.f0], [v1], rfl, rfl, ⟨v1, rfl, g1⟩⟩
def rd_T100 (xs : List S100) (i : Int) : S100 := xs.getD i.toNat z100
theorem at_T100 {w : World} {A : Option Addr} {n : Nat} {xs : List S100} (h : Kd.C k100 w A n xs) (i : Int) (h0 : 0 ≤ i) (h1 : i < n) : ∃ ad A1 c1, A = some ad ∧ w.cell? (ad.add (i.toNat * 2)) = some (.int .i64 (rd_T100 xs i).f0) ∧ w.cell? ⟨(ad.add (i.toNat * 2)).block, (ad.add (i.toNat * 2)).off + 1, none⟩ = some (.slice A1 (rd_T100 xs i).f1.length c1) ∧ (rd_T100 xs i).f1.length ≤ c1 ∧ (Kd.int .u8).C w A1 (rd_T100 xs i).f1.length (rd_T100 xs i).f1 := by
  obtain ⟨ad, c, e, _, hK, hc0⟩ := Kd.C_get h z100 i h0 h1
  have hc : ∀ j u, c[j]? = some u → w.cell? (ad.add (i.toNat * 2 + j)) = some u := hc0
  obtain ⟨A1, c1, rfl, l1, g1⟩ := k100_open hK
  exact ⟨ad, A1, c1, e, hc 0 _ rfl, by rw [← add_field _ _ 1 (by omega)]; exact hc 1 _ rfl, l1, g1⟩

/-! #### struct type 105 -/
structure S105 where
  f0 : Int
  f1 : (List Int)
def z105 : S105 := ⟨(0 : Int), ([] : List Int)⟩
def k105 : Kd S105 := Kd.iso (Kd.pair (Kd.int .i64) (Kd.slice 5 (Kd.int .u8))) (fun x : S105 => (x.f0, x.f1))
theorem k105_open {w : World} {x : S105} {cs : List Value} (h : k105.K w x cs) : ∃ A1 c1, cs = [.int .i64 x.f0, .slice A1 x.f1.length c1] ∧ x.f1.length ≤ c1 ∧ (Kd.int .u8).C w A1 x.f1.length x.f1 := by
  obtain ⟨_, _, rfl, rfl, ⟨A1, c1, rfl, l1, g1⟩⟩ := h
  exact ⟨A1, c1, rfl, l1, g1⟩
theorem k105_openM {w : World} {base : Nat} {ok : Nat → Prop} {x : S105} {cs : List Value} (h : k105.M w base ok x cs) : ∃ v1, cs = [.int .i64 x.f0, v1] ∧ (Kd.int .u8).R 5 w base ok v1 x.f1 := by
  obtain ⟨_, _, rfl, rfl, ⟨v1, rfl, g1⟩⟩ := h
  exact ⟨v1, rfl, g1⟩
theorem k105_mk (w : World) (x : S105) {A1 : Option Addr} {c1 : Nat} (l1 : x.f1.length ≤ c1) (g1 : (Kd.int .u8).C w A1 x.f1.length x.f1) : k105.K w x [.int .i64 x.f0, .slice A1 x.f1.length c1] := ⟨[.int .i64 x.f0], [.slice A1 x.f1.length c1], rfl, rfl, ⟨A1, c1, rfl, l1, g1⟩⟩
theorem k105_mkM (w : World) (base : Nat) (ok : Nat → Prop) (x : S105) {v1 : Value} (g1 : (Kd.int .u8).R 5 w base ok v1 x.f1) : k105.M w base ok x [.int .i64 x.f0, v1] := ⟨[.int .i64 x.f0], [v1], rfl, rfl, ⟨v1, rfl, g1⟩⟩
def rd_T105 (xs : List S105) (i : Int) : S105 := xs.getD i.toNat z105
theorem at_T105 {w : World} {A : Option Addr} {n : Nat} {xs : List S105} (h : Kd.C k105 w A n xs) (i : Int) (h0 : 0 ≤ i) (h1 : i < n) : ∃ ad A1 c1, A = some ad ∧ w.cell? (ad.add (i.toNat * 2)) = some (.int .i64 (rd_T105 xs i).f0) ∧ w.cell? ⟨(ad.add (i.toNat * 2)).block, (ad.add (i.toNat * 2)).off + 1, none⟩ = some (.slice A1 (rd_T105 xs i).f1.length c1) ∧ (rd_T105 xs i).f1.length ≤ c1 ∧ (Kd.int .u8).C w A1 (rd_T105 xs i).f1.length (rd_T105 xs i).f1 := by
  obtain ⟨ad, c, e, _, hK, hc0⟩ := Kd.C_get h z105 i h0 h1
  have hc : ∀ j u, c[j]? = some u → w.cell? (ad.add (i.toNat * 2 + j)) = some u := hc0
  obtain ⟨A1, c1, rfl, l1, g1⟩ := k105_open hK
  exact ⟨ad, A1, c1, e, hc 0 _ rfl, by rw [← add_field _ _ 1 (by omega)]; exact hc 1 _ rfl, l1, g1⟩

/-! #### struct type 102 -/
structure S102 where
  f0 : Int
  f1 : (List Int)
def z102 : S102 := ⟨(0 : Int), ([] : List Int)⟩
def k102 : Kd S102 := Kd.iso (Kd.pair (Kd.int .i64) (Kd.slice 5 (Kd.int .u8))) (fun x : S102 => (x.f0, x.f1))
theorem k102_open {w : World} {x : S102} {cs : List Value} (h : k102.K w x cs) : ∃ A1 c1, cs = [.int .i64 x.f0, .slice A1 x.f1.length c1] ∧ x.f1.length ≤ c1 ∧ (Kd.int .u8).C w A1 x.f1.length x.f1 := by
  obtain ⟨_, _, rfl, rfl, ⟨A1, c1, rfl, l1, g1⟩⟩ := h
  exact ⟨A1, c1, rfl, l1, g1⟩
theorem k102_openM {w : World} {base : Nat} {ok : Nat → Prop} {x : S102} {cs : List Value} (h : k102.M w base ok x cs) : ∃ v1, cs = [.int .i64 x.f0, v1] ∧ (Kd.int .u8).R 5 w base ok v1 x.f1 := by
  obtain ⟨_, _, rfl, rfl, ⟨v1, rfl, g1⟩⟩ := h
  exact ⟨v1, rfl, g1⟩
theorem k102_mk (w : World) (x : S102) {A1 : Option Addr} {c1 : Nat} (l1 : x.f1.length ≤ c1) (g1 : (Kd.int .u8).C w A1 x.f1.length x.f1) : k102.K w x [.int .i64 x.f0, .slice A1 x.f1.length c1] := ⟨[.int .i64 x.f0], [.slice A1 x.f1.length c1], rfl, rfl, ⟨A1, c1, rfl, l1, g1⟩⟩
theorem k102_mkM (w : World) (base : Nat) (ok : Nat → Prop) (x : S102) {v1 : Value} (g1 : (Kd.int .u8).R 5 w base ok v1 x.f1) : k102.M w base ok x [.int .i64 x.f0, v1] := ⟨[.int .i64 x.f0], [v1], rfl, rfl, ⟨v1, rfl, g1⟩⟩
def rd_T102 (xs : List S102) (i : Int) : S102 := xs.getD i.toNat z102
theorem at_T102 {w : World} {A : Option Addr} {n : Nat} {xs : List S102} (h : Kd.C k102 w A n xs) (i : Int) (h0 : 0 ≤ i) (h1 : i < n) : ∃ ad A1 c1, A = some ad ∧ w.cell? (ad.add (i.toNat * 2)) = some (.int .i64 (rd_T102 xs i).f0) ∧ w.cell? ⟨(ad.add (i.toNat * 2)).block, (ad.add (i.toNat * 2)).off + 1, none⟩ = some (.slice A1 (rd_T102 xs i).f1.length c1) ∧ (rd_T102 xs i).f1.length ≤ c1 ∧ (Kd.int .u8).C w A1 (rd_T102 xs i).f1.length (rd_T102 xs i).f1 := by
  obtain ⟨ad, c, e, _, hK, hc0⟩ := Kd.C_get h z102 i h0 h1
  have hc : ∀ j u, c[j]? = some u → w.cell? (ad.add (i.toNat * 2 + j)) = some u := hc0
  obtain ⟨A1, c1, rfl, l1, g1⟩ := k102_open hK
  exact ⟨ad, A1, c1, e, hc 0 _ rfl, by rw [← add_field _ _ 1 (by omega)]; exact hc 1 _ rfl, l1, g1⟩

end Go.Proofs.Ytppgbfkhiofjiaa.Y

namespace Go.Proofs.Ytppgbfkhiofjiaa.Y
open Go.RowKit Go.Proofs.YtppgbfkhiofjiaaW.PrintWords Go.Proofs.YtppgbfkhiofjiaaW.PrintLast Go.Proofs.YtppgbfkhiofjiaaW.PrintMore
attribute [local go_sem] max2_int min2_int max_two min_two max_three min_three max_four min_four   -- for this text's walks alone
set_option linter.unusedVariables false
set_option linter.unusedSimpArgs false

/-! ### journal_four: function 74 -/
def journal_four.f (l0 : List Int) (a1 : Int) : Option (List Int) := (some (([(a1) % 256, (a1 / 256) % 256, (a1 / 65536) % 256, (a1 / 16777216) % 256] : List Int) : List Int)).bind fun y104 => (if l0.length + y104.length < 140737488355328 then (some (l0 ++ y104)) else (none))
set_option maxHeartbeats 8000000 in
set_option maxRecDepth 100000 in
theorem journal_four.calls (P0_ : Nat → Prop) (u9000_ : Value) (l0 : List Int) (a1 : Int) (r : List Int) (w0 w : World) (hB : Below w0.heap.size w0 w) (ho0 : Kd.R (Kd.int .u8) 5 w w0.heap.size P0_ u9000_ l0) (h : journal_four.f l0 a1 = some r) :
    Calls Try.prog 74 #[u9000_, .int .u32 a1] w fun e w' => ∃ v0_ : Value, e = .returned (v0_) ∧ Kd.R (Kd.int .u8) 5 w' w0.heap.size (fun k_ => (P0_ k_ ∨ w.heap.size ≤ k_)) v0_ r ∧ Below w0.heap.size w0 w' ∧ Kept w w' (fun k_ => P0_ k_) := by
  have HO0 := Aside0.mk (show Kd.R (Kd.int .u8) 5 w w0.heap.size (fun k_ => (P0_ k_ ∨ w.heap.size ≤ k_)) u9000_ l0 from Kd.R_mono ho0 (fun k_ hk => (.inl hk)))
  have HK := Aside0.mk (Kept.refl w (fun k_ => P0_ k_))
  have HW0 := Aside0.mk hB.size
  have HB := Aside0.mk hB
  clear hB
  have H : ((some (([(a1) % 256, (a1 / 256) % 256, (a1 / 65536) % 256, (a1 / 16777216) % 256] : List Int) : List Int)).bind fun y104 => (if l0.length + y104.length < 140737488355328 then (some (l0 ++ y104)) else (none))) = some r := h
  clear h
  obtain ⟨y104, hy104⟩ : ∃ y_ : List Int, y_ = (([(a1) % 256, (a1 / 256) % 256, (a1 / 65536) % 256, (a1 / 16777216) % 256] : List Int)) := ⟨_, rfl⟩
  replace H : (if l0.length + y104.length < 140737488355328 then (some (l0 ++ y104)) else (none)) = some r := by first | (rw [hy104]; with_reducible exact H) | (have H2_ := (Option.bind_some _ _).symm.trans H; rw [hy104]; with_reducible exact H2_) | (have H2_ := (Option.bind_some _ _).symm.trans H; with_reducible exact H2_) | with_reducible exact H | (rw [hy104]; exact H) | exact H
  have Ny104 := Aside0.mk hy104
  clear hy104
  by_cases c3 : l0.length + y104.length < 140737488355328
  · rw [if_pos c3] at H
    have LMc3 := Aside0.mk c3
    clear c3
    obtain ⟨y107, hy107⟩ : ∃ y_ : List Int, y_ = (l0 ++ y104) := ⟨_, rfl⟩
    replace H : (some y107) = some r := by first | (rw [hy107]; with_reducible exact H) | (have H2_ := (Option.bind_some _ _).symm.trans H; rw [hy107]; with_reducible exact H2_) | (have H2_ := (Option.bind_some _ _).symm.trans H; with_reducible exact H2_) | with_reducible exact H | (rw [hy107]; exact H) | exact H
    have Ny107 := Aside0.mk hy107
    clear hy107
    obtain rfl := Option.some.inj H
    go_enter Try.func74, Try.ntmps74
    go_wp2_with (first | ((with_reducible refine gate_dst (N := 17) rfl ?_); refine Kd.R_lit (Kd.int .u8) _ 5 ?hg (N := 17) ?hd (xs := ([(a1) % 256, (a1 / 256) % 256, (a1 / 65536) % 256, (a1 / 16777216) % 256] : List Int)) (inner := [.int .u8 ((a1) % 256), .int .u8 ((a1 / 256) % 256), .int .u8 ((a1 / 65536) % 256), .int .u8 ((a1 / 16777216) % 256)]) (ok := fun _ => True) (okp := fun _ => True) ?hr ?hp (fun _ hk => hk) trivial (Below.refl _ _) (Nat.le_refl _) (by simp) ?_; (case hd => rfl); (case hg => rfl); (case hr => first | (go_simp; done) | (go_simp; rfl)); (case hp => exact (Reps.one (show Kd.M (Kd.int .u8) _ _ _ ((a1) % 256) [.int .u8 ((a1) % 256)] from rfl) (Reps.one (show Kd.M (Kd.int .u8) _ _ _ ((a1 / 256) % 256) [.int .u8 ((a1 / 256) % 256)] from rfl) (Reps.one (show Kd.M (Kd.int .u8) _ _ _ ((a1 / 65536) % 256) [.int .u8 ((a1 / 65536) % 256)] from rfl) (Reps.one (show Kd.M (Kd.int .u8) _ _ _ ((a1 / 16777216) % 256) [.int .u8 ((a1 / 16777216) % 256)] from rfl) (Reps.none _ _)))))); intro v105 w4 ho5 hb hg_ hnew_; clear hg_ hnew_; (first | rw [← Ny104.out] at ho5 | (simp only [Int.reduceToNat] at ho5; rw [← Ny104.out] at ho5)); have n0_ := Aside0.mk (Kd.R_elder' (by (with_reducible repeat (first | apply Kd.R_alloc | apply Kd.R_drewN | apply Kd.R_drew)); exact HO0.out) (Kd.R_base ho5) hb); have n1_ := Aside0.mk (Kd.R_lower (Kd.R_new' (Kd.R_newM (M := fun k_ => (P0_ k_ ∨ w.heap.size ≤ k_)) ho5 (by first | exact HK.out.1 | exact (show Kept w _ (fun k_ => P0_ k_) from by repeat (first | (with_reducible first | exact HK.out | apply Kept.alloc | apply Kept.drewN | apply Kept.drew) | exact HK.out)).1) (fun k_ h_ => .inr h_)) (Kd.R_lt (by (with_reducible repeat (first | apply Kd.R_alloc | apply Kd.R_drewN | apply Kd.R_drew)); exact HO0.out))) (below_size (by repeat (first | (with_reducible first | exact HB.out | apply below_alloc | apply pw_below_drewN | apply below_drew1) | exact HB.out)))); have n2_ := Aside0.mk (Kept.below (S := (fun k_ => P0_ k_)) (by repeat (first | (with_reducible first | exact HK.out | apply Kept.alloc | apply Kept.drewN | apply Kept.drew) | exact HK.out)) hb); have n3_ := Aside0.mk (below_step (by repeat (first | (with_reducible first | exact HB.out | apply below_alloc | apply pw_below_drewN | apply below_drew1) | exact HB.out)) hb); clear HO0; clear HK; clear HB; have HO0 := n0_; have HO106 := n1_; have HK := n2_; have HB := n3_; clear n0_ n1_ n2_ n3_; clear hb ho5; obtain ⟨Ao7, co7, eo7⟩ := Kd.R_slice HO106.out; subst eo7) | ((with_reducible refine gate_builtin (b := .append) (xs := #[.tmp 5, .tmp 17]) rfl ?_); at_builtin; refine Kd.R_append_rows (Kd.int .u8) (w0 := w0) w0.heap.size rfl (.tmp 5) (.tmp 17) 22 5 (.int .u8 0) 1 rfl Try.underlying22 info5 rfl (by decide) (by omega) u9000_ l0 y104 _ _ _ (fun k_ => (P0_ k_ ∨ w.heap.size ≤ k_) ∧ some k_ ≠ (.slice Ao7 y104.length co7 : Value).ownBlock) (fun _ => False) rfl rfl ?aO ?aR (fun _ _ h => h) (fun _ h => h.elim) ?aF ?aB ?aS ?aL ?_; (case aR => repeat (first | exact (Kd.R_reads' HO106.out).2.2 | (with_reducible refine Kd.C_alloc ?_ _) | (with_reducible refine Kd.C_drewN ?_ _) | (with_reducible refine Kd.C_drew ?_))); (case aB => exact (by repeat (first | (with_reducible first | exact HB.out | apply below_alloc | apply pw_below_drewN | apply below_drew1) | exact HB.out))); (case aF => exact (fun k_ hk => ⟨(.inr (Nat.le_trans (by first | exact HK.out.1 | exact (show Kept w _ (fun k_ => P0_ k_) from by repeat (first | (with_reducible first | exact HK.out | apply Kept.alloc | apply Kept.drewN | apply Kept.drew) | exact HK.out)).1) hk)), Kd.fresh' (Kd.R_lt (by (with_reducible repeat (first | apply Kd.R_alloc | apply Kd.R_drewN | apply Kd.R_drew)); exact HO106.out)) k_ hk⟩)); (case aO => exact (by (with_reducible repeat (first | apply Kd.R_alloc | apply Kd.R_drewN | apply Kd.R_drew)); exact HO0.out)); (case aS => exact (below_size (by repeat (first | (with_reducible first | exact HB.out | apply below_alloc | apply pw_below_drewN | apply below_drew1) | exact HB.out)))); (case aL => have := LMc3.out; omega); intro v108 w6 ho hb hg hat; rw [← Ny107.out] at ho; have n0_ := Aside0.mk (Kd.R_after (ok := (fun k_ => (P0_ k_ ∨ w.heap.size ≤ k_))) (by (with_reducible repeat (first | apply Kd.R_alloc | apply Kd.R_drewN | apply Kd.R_drew)); exact Kd.R_mono HO106.out (fun _ hk => ⟨hk.1.1, hk.2⟩)) hg hat); have n1_ := Aside0.mk (hb); have n2_ := Aside0.mk (Kept.of_grown (S := (fun k_ => P0_ k_)) hg (by repeat (first | (with_reducible first | exact HK.out | apply Kept.alloc | apply Kept.drewN | apply Kept.drew) | exact HK.out)) (fun k_ e_ => (HO0.out.1 k_ e_).1)); have n3_ := Aside0.mk (ho); clear HO106; clear HB; clear HK; clear HO0; have HO106 := n0_; have HB := n1_; have HK := n2_; have HO109 := n3_; clear n0_ n1_ n2_ n3_; clear ho hb hg hat))
    go_ret
    exact ⟨_, by first | rfl | (simp [errW_none, errW_some] <;> rfl) | (simp [*, errW_none, errW_some] <;> rfl), by (with_reducible repeat (first | apply Kd.R_alloc | apply Kd.R_drewN | apply Kd.R_drew)); exact Kd.R_mono HO109.out (fun _ hk => hk.1), by repeat (first | (with_reducible first | exact HB.out | apply below_alloc | apply pw_below_drewN | apply below_drew1) | exact HB.out), by repeat (first | (with_reducible first | exact HK.out | apply Kept.alloc | apply Kept.drewN | apply Kept.drew) | exact HK.out)⟩
  · rw [if_neg c3] at H
    exact absurd H (by simp)

end Go.Proofs.Ytppgbfkhiofjiaa.Y

namespace Go.Proofs.Ytppgbfkhiofjiaa.Y
open Go.RowKit Go.Proofs.YtppgbfkhiofjiaaW.PrintWords Go.Proofs.YtppgbfkhiofjiaaW.PrintLast Go.Proofs.YtppgbfkhiofjiaaW.PrintMore
attribute [local go_sem] max2_int min2_int max_two min_two max_three min_three max_four min_four   -- for this text's walks alone
set_option linter.unusedVariables false
set_option linter.unusedSimpArgs false

/-! ### journal_number: function 60 -/
def journal_number.f (l0 : List Int) : Option (Int) := if 0 < (l0.length : Int) then (if 1 < (l0.length : Int) then (if 2 < (l0.length : Int) then (if 3 < (l0.length : Int) then (some (Go.bits .or .u32 (Go.bits .or .u32 (Go.bits .or .u32 ((rd l0 0) % 4294967296) ((((rd l0 1) % 4294967296) * 256) % 4294967296)) ((((rd l0 2) % 4294967296) * 65536) % 4294967296)) ((((rd l0 3) % 4294967296) * 16777216) % 4294967296))) else (none)) else (none)) else (none)) else (none)
set_option maxHeartbeats 8000000 in
set_option maxRecDepth 100000 in
theorem journal_number.calls (A0 : Option Addr) (c0 : Nat) (l0 : List Int) (r : Int) (w : World) (hr0 : Kd.C (Kd.int .u8) w A0 l0.length l0) (hc0 : l0.length ≤ c0) (h : journal_number.f l0 = some r) :
    Calls Try.prog 60 #[.slice A0 l0.length c0] w fun e w' => e = .returned (.int .u32 r) ∧ Drawn0 w w' := by
  have HR0 := Aside0.mk hr0
  have HC0 := Aside0.mk hc0
  clear hr0 hc0
  have H : (if 0 < (l0.length : Int) then (if 1 < (l0.length : Int) then (if 2 < (l0.length : Int) then (if 3 < (l0.length : Int) then (some (Go.bits .or .u32 (Go.bits .or .u32 (Go.bits .or .u32 ((rd l0 0) % 4294967296) ((((rd l0 1) % 4294967296) * 256) % 4294967296)) ((((rd l0 2) % 4294967296) * 65536) % 4294967296)) ((((rd l0 3) % 4294967296) * 16777216) % 4294967296))) else (none)) else (none)) else (none)) else (none)) = some r := h
  clear h
  by_cases c2 : 0 < (l0.length : Int)
  · rw [if_pos c2] at H
    have c2b0 : decide (0 < (l0.length : Int)) = true := decide_eq_true c2
    have c2b1 : decide (0 < l0.length) = true := decide_eq_true (by omega)
    clear c2
    by_cases c3 : 1 < (l0.length : Int)
    · rw [if_pos c3] at H
      have c3b0 : decide (1 < (l0.length : Int)) = true := decide_eq_true c3
      have c3b1 : decide (1 < l0.length) = true := decide_eq_true (by omega)
      clear c3
      by_cases c4 : 2 < (l0.length : Int)
      · rw [if_pos c4] at H
        have c4b0 : decide (2 < (l0.length : Int)) = true := decide_eq_true c4
        have c4b1 : decide (2 < l0.length) = true := decide_eq_true (by omega)
        clear c4
        by_cases c5 : 3 < (l0.length : Int)
        · rw [if_pos c5] at H
          have c5b0 : decide (3 < (l0.length : Int)) = true := decide_eq_true c5
          have c5b1 : decide (3 < l0.length) = true := decide_eq_true (by omega)
          clear c5
          obtain rfl := Option.some.inj H
          have p172 : 0 ≤ (0 : Int) := (by omega)
          have q172 : 0 < (l0.length : Int) := of_decide_eq_true (by first | (with_reducible assumption) | assumption)
          obtain ⟨ad172, e172, hx172_0⟩ := Kd.at_int HR0.out 0 p172 q172
          cases e172
          have qi172 : (0 < l0.length) = True := eq_true (by omega)
          (try rw [show ((0 : Int)).toNat = 0 from rfl] at hx172_0)
          (try rw [Addr.add_zero'] at hx172_0)
          replace p172 := eq_true p172
          replace q172 := eq_true q172
          have p173 : 0 ≤ (1 : Int) := (by omega)
          have q173 : 1 < (l0.length : Int) := of_decide_eq_true (by first | (with_reducible assumption) | assumption)
          obtain ⟨ad173, e173, hx173_0⟩ := Kd.at_int HR0.out 1 p173 q173
          obtain rfl : ad172 = ad173 := (by injection e173)
          (try simp only [show (1 : Int).toNat = 1 from rfl, Nat.reduceMul, Nat.reduceEqDiff, Go.Addr.add, ↓reduceIte] at hx173_0)
          have qi173 : (1 < l0.length) = True := eq_true (by omega)
          (try rw [show ((1 : Int)).toNat = 1 from rfl] at hx173_0)
          replace p173 := eq_true p173
          replace q173 := eq_true q173
          have p174 : 0 ≤ (2 : Int) := (by omega)
          have q174 : 2 < (l0.length : Int) := of_decide_eq_true (by first | (with_reducible assumption) | assumption)
          obtain ⟨ad174, e174, hx174_0⟩ := Kd.at_int HR0.out 2 p174 q174
          obtain rfl : ad172 = ad174 := (by injection e174)
          (try simp only [show (2 : Int).toNat = 2 from rfl, Nat.reduceMul, Nat.reduceEqDiff, Go.Addr.add, ↓reduceIte] at hx174_0)
          have qi174 : (2 < l0.length) = True := eq_true (by omega)
          (try rw [show ((2 : Int)).toNat = 2 from rfl] at hx174_0)
          replace p174 := eq_true p174
          replace q174 := eq_true q174
          have p175 : 0 ≤ (3 : Int) := (by omega)
          have q175 : 3 < (l0.length : Int) := of_decide_eq_true (by first | (with_reducible assumption) | assumption)
          obtain ⟨ad175, e175, hx175_0⟩ := Kd.at_int HR0.out 3 p175 q175
          obtain rfl : ad172 = ad175 := (by injection e175)
          (try simp only [show (3 : Int).toNat = 3 from rfl, Nat.reduceMul, Nat.reduceEqDiff, Go.Addr.add, ↓reduceIte] at hx175_0)
          have qi175 : (3 < l0.length) = True := eq_true (by omega)
          (try rw [show ((3 : Int)).toNat = 3 from rfl] at hx175_0)
          replace p175 := eq_true p175
          replace q175 := eq_true q175
          go_enter Try.func60, Try.ntmps60
          go_wp2
          repeat (go_quiet (fail); try go_wp2)
          go_ret
          exact ⟨by first | rfl | (simp; done) | (simp [*]; done), by repeat (first | exact Drawn0.refl _ | apply Drawn0.step)⟩
        · rw [if_neg c5] at H
          exact absurd H (by simp)
      · rw [if_neg c4] at H
        exact absurd H (by simp)
    · rw [if_neg c3] at H
      exact absurd H (by simp)
  · rw [if_neg c2] at H
    exact absurd H (by simp)

end Go.Proofs.Ytppgbfkhiofjiaa.Y

namespace Go.Proofs.Ytppgbfkhiofjiaa.Y
open Go.RowKit Go.Proofs.YtppgbfkhiofjiaaW.PrintWords Go.Proofs.YtppgbfkhiofjiaaW.PrintLast Go.Proofs.YtppgbfkhiofjiaaW.PrintMore
attribute [local go_sem] max2_int min2_int max_two min_two max_three min_three max_four min_four   -- for this text's walks alone
set_option linter.unusedVariables false
set_option linter.unusedSimpArgs false

/-! ### bytes_Equal: function 61 -/
def bytes_Equal.f (l0 : List Int) (l1 : List Int) : Option (Bool) := some ((strOfNums l0).toList == (strOfNums l1).toList)
set_option maxHeartbeats 8000000 in
set_option maxRecDepth 100000 in
theorem bytes_Equal.calls (A0 : Option Addr) (c0 : Nat) (l0 : List Int) (A1 : Option Addr) (c1 : Nat) (l1 : List Int) (r : Bool) (w : World) (hr0 : Kd.C (Kd.int .u8) w A0 l0.length l0) (hc0 : l0.length ≤ c0) (hr1 : Kd.C (Kd.int .u8) w A1 l1.length l1) (hc1 : l1.length ≤ c1) (h : bytes_Equal.f l0 l1 = some r) :
    Calls Try.prog 61 #[.slice A0 l0.length c0, .slice A1 l1.length c1] w fun e w' => e = .returned (.bool r) ∧ Drawn0 w w' := by
  have HR0 := Aside0.mk hr0
  have HC0 := Aside0.mk hc0
  clear hr0 hc0
  have HR1 := Aside0.mk hr1
  have HC1 := Aside0.mk hc1
  clear hr1 hc1
  have H : (some ((strOfNums l0).toList == (strOfNums l1).toList)) = some r := h
  clear h
  obtain rfl := Option.some.inj H
  have hcv3 := Kd.C_string (P := Try.prog) (A := A0) (c := c0) Try.underlying22 Try.underlying5 Try.underlying9 HR0.out
  have hcv4 := Kd.C_string (P := Try.prog) (A := A1) (c := c1) Try.underlying22 Try.underlying5 Try.underlying9 HR1.out
  go_enter Try.func61, Try.ntmps61
  go_wp2
  go_ret
  exact ⟨by first | rfl | (simp; done) | (simp [*]; done), by repeat (first | exact Drawn0.refl _ | apply Drawn0.step)⟩

end Go.Proofs.Ytppgbfkhiofjiaa.Y

namespace Go.Proofs.Ytppgbfkhiofjiaa.Y
open Go.RowKit Go.Proofs.YtppgbfkhiofjiaaW.PrintWords Go.Proofs.YtppgbfkhiofjiaaW.PrintLast Go.Proofs.YtppgbfkhiofjiaaW.PrintMore
attribute [local go_sem] max2_int min2_int max_two min_two max_three min_three max_four min_four   -- for this text's walks alone
set_option linter.unusedVariables false
set_option linter.unusedSimpArgs false

/-! ### redlinelaw24_writes: function 29 -/
def redlinelaw24_writes.l0 : Nat → List (S105) → List (S102) → Int → Option ((List (S102)))
  | 0, _, _, _ => none
  | k + 1, x0, x3, x4 => if x4 < (x0.length : Int) then (if 0 ≤ x4 then ((some (([] : List Int) : List Int)).bind fun y188 => (if y188.length + ((rd_T105 x0 x4).f1).length < 140737488355328 then (if x3.length < 4398046511104 then (redlinelaw24_writes.l0 k x0 (x3 ++ [(⟨(rd_T105 x0 x4).f0, (y188 ++ ((rd_T105 x0 x4).f1))⟩ : S102)]) (wrap64 (x4 + 1))) else (none)) else (none))) else (none)) else (some x3)
def redlinelaw24_writes.f (k : Nat) (l0 : List (S105)) : Option ((List (S102))) := redlinelaw24_writes.l0 k l0 ([] : List (S102)) 0
theorem redlinelaw24_writes.mono_l : ∀ k, (∀ y0 y1 y2, LeO (redlinelaw24_writes.l0 k y0 y1 y2) (redlinelaw24_writes.l0 (k + 1) y0 y1 y2))
  | 0 => fun _ _ _ r h => by simp [redlinelaw24_writes.l0] at h
  | k + 1 => by
    have ih0 := redlinelaw24_writes.mono_l k
    · intro y0 y1 y2
      unfold redlinelaw24_writes.l0
      repeat' first
      | (with_reducible exact ih0 _ _ _)
      | (with_reducible exact LeO.refl _)
      | (with_reducible exact LeO.none _)
      | (with_reducible refine LeO.ite ?_ ?_)
      | (with_reducible refine LeO.bind ?_ (fun _ => ?_))
      | exact ih0 _ _ _
      | exact LeO.none _
      | refine LeO.ite ?_ ?_
      | refine LeO.bind ?_ (fun _ => ?_)
theorem redlinelaw24_writes.mono : ∀ a0 k, LeO (redlinelaw24_writes.f k a0) (redlinelaw24_writes.f (k + 1) a0) := by
  intro a0 k
  have ih0 := redlinelaw24_writes.mono_l k
  unfold redlinelaw24_writes.f
  repeat' first
      | (with_reducible exact ih0 _ _ _)
      | (with_reducible exact LeO.refl _)
      | (with_reducible exact LeO.none _)
      | (with_reducible refine LeO.ite ?_ ?_)
      | (with_reducible refine LeO.bind ?_ (fun _ => ?_))
      | exact ih0 _ _ _
      | exact LeO.none _
      | refine LeO.ite ?_ ?_
      | refine LeO.bind ?_ (fun _ => ?_)
def redlinelaw24_writes.T5 : Bool × List (List Nat × List Nat) := (true, [([], []), ([], []), ([], []), ([1, 2], [1, 2]), ([3], [3]), ([4], [4]), ([], []), ([], []), ([], []), ([7, 8], [7, 8]), ([9], [9]), ([10], [10]), ([6, 11], [6, 11]), ([5, 12], [5, 12]), ([13], [13]), ([0, 14, 12], [0, 14]), ([15, 15, 0, 1, 2, 3, 4, 5, 6, 7, 8, 9, 10, 11, 12, 13, 14, 15], [0, 15])])
def redlinelaw24_writes.B5 : List Nat := [0, 0, 0, 6, 14, 30, 0, 0, 0, 384, 896, 1920, 4032, 8190, 16382, 32767, 65535]
theorem redlinelaw24_writes.tab5 : rtab .any (opsOf Try.f29 5) = redlinelaw24_writes.T5 := by kernel_rfl
theorem redlinelaw24_writes.bits5 : waitsOk redlinelaw24_writes.T5.2 redlinelaw24_writes.B5 = true := by kernel_rfl
set_option maxHeartbeats 8000000 in
set_option maxRecDepth 100000 in
theorem redlinelaw24_writes.calls (k : Nat) (A0 : Option Addr) (c0 : Nat) (l0 : List (S105)) (r : List (S102)) (w : World) (hr0 : Kd.C k105 w A0 l0.length l0) (hc0 : l0.length ≤ c0) (h : redlinelaw24_writes.f k l0 = some r) :
    Calls Try.prog 29 #[.slice A0 l0.length c0] w fun e w' => ∃ v0_ : Value, e = .returned (v0_) ∧ Kd.S k102 102 w' w.heap.size (fun _ => True) v0_ r ∧ Below w.heap.size w w' := by
  have hu102 := Try.underlying102
  have HR0 := Aside0.mk hr0
  have HC0 := Aside0.mk hc0
  clear hr0 hc0
  have HB := Aside0.mk (Below.refl w.heap.size w)
  have H : (redlinelaw24_writes.l0 k l0 ([] : List (S102)) 0) = some r := h
  clear h
  have H' := Aside0.mk H
  clear H
  go_enter Try.func29, Try.ntmps29
  go_wp2
  go_loopg [3, 4] k (fun kq v3 v4 w' => ∃ (x3_1 : List (S102)) (x4_1 : Int), v4 = .int .i64 x4_1 ∧ Aside0 (redlinelaw24_writes.l0 kq l0 x3_1 x4_1 = some r) ∧ Aside0 (kq ≤ k) ∧ Aside0 (Kd.S k102 102 w' w.heap.size (fun _ => True) v3 x3_1) ∧ Aside0 (Below w.heap.size w w'))
  case atStart => exact ⟨(([] : List (S102))), (0), (by first | rfl | (simp; done) | (simp [*]; done)), H', ⟨Nat.le_refl _⟩, ⟨by first | exact Kd.S_nil _ _ _ _ _ | exact Kd.N_nil _ _ _ _ _ | exact Kd.V_nil _ _ _ _ _ | exact Kd.Q_nil _ _ _ _ _ | exact Kd.R_nil _ _ _ _ _⟩, ⟨by repeat (first | (with_reducible first | exact HB.out | apply below_alloc | apply pw_below_drewN | apply below_drew1) | exact HB.out)⟩⟩
  case round =>
    clear H'
    obtain ⟨x3_1, x4_1, rfl, HA, HK1, HO_3, HB⟩ := hrel
    cases gk with
    | zero => exact absurd HA.out (by simp [redlinelaw24_writes.l0])
    | succ k1 =>
      have H := HA.out
      clear HA
      simp only [redlinelaw24_writes.l0] at H
      by_cases c2 : x4_1 < (l0.length : Int)
      · rw [if_pos c2] at H
        have c2b0 : decide (x4_1 < (l0.length : Int)) = true := decide_eq_true c2
        clear c2
        by_cases c3 : 0 ≤ x4_1
        · rw [if_pos c3] at H
          have c3b0 : decide (0 ≤ x4_1) = true := decide_eq_true c3
          clear c3
          obtain ⟨y188, hy188⟩ : ∃ y_ : List Int, y_ = (([] : List Int)) := ⟨_, rfl⟩
          replace H : (if y188.length + ((rd_T105 l0 x4_1).f1).length < 140737488355328 then (if x3_1.length < 4398046511104 then (redlinelaw24_writes.l0 k1 l0 (x3_1 ++ [(⟨(rd_T105 l0 x4_1).f0, (y188 ++ ((rd_T105 l0 x4_1).f1))⟩ : S102)]) (wrap64 (x4_1 + 1))) else (none)) else (none)) = some r := by first | (rw [hy188]; with_reducible exact H) | (have H2_ := (Option.bind_some _ _).symm.trans H; rw [hy188]; with_reducible exact H2_) | (have H2_ := (Option.bind_some _ _).symm.trans H; with_reducible exact H2_) | with_reducible exact H | (rw [hy188]; exact H) | exact H
          have Ny188 := Aside0.mk hy188
          clear hy188
          by_cases c4 : y188.length + ((rd_T105 l0 x4_1).f1).length < 140737488355328
          · rw [if_pos c4] at H
            have LMc4 := Aside0.mk c4
            clear c4
            obtain ⟨y192, hy192⟩ : ∃ y_ : List Int, y_ = (y188 ++ ((rd_T105 l0 x4_1).f1)) := ⟨_, rfl⟩
            replace H : (if x3_1.length < 4398046511104 then (redlinelaw24_writes.l0 k1 l0 (x3_1 ++ [(⟨(rd_T105 l0 x4_1).f0, y192⟩ : S102)]) (wrap64 (x4_1 + 1))) else (none)) = some r := by first | (rw [hy192]; with_reducible exact H) | (have H2_ := (Option.bind_some _ _).symm.trans H; rw [hy192]; with_reducible exact H2_) | (have H2_ := (Option.bind_some _ _).symm.trans H; with_reducible exact H2_) | with_reducible exact H | (rw [hy192]; exact H) | exact H
            have Ny192 := Aside0.mk hy192
            clear hy192
            by_cases c5 : x3_1.length < 4398046511104
            · rw [if_pos c5] at H
              have LMc5 := Aside0.mk c5
              clear c5
              obtain ⟨y195, hy195⟩ : ∃ y_ : List (S102), y_ = (x3_1 ++ [(⟨(rd_T105 l0 x4_1).f0, y192⟩ : S102)]) := ⟨_, rfl⟩
              replace H : (redlinelaw24_writes.l0 k1 l0 y195 (wrap64 (x4_1 + 1))) = some r := by first | (rw [hy195]; with_reducible exact H) | (have H2_ := (Option.bind_some _ _).symm.trans H; rw [hy195]; with_reducible exact H2_) | (have H2_ := (Option.bind_some _ _).symm.trans H; with_reducible exact H2_) | with_reducible exact H | (rw [hy195]; exact H) | exact H
              have Ny195 := Aside0.mk hy195
              clear hy195
              have H' := Aside0.mk H
              clear H
              try go_wp2
              have n0_ := Aside0.mk (Kd.S_drew HO_3.out)
              have n1_ := Aside0.mk (below_drew1 HB.out)
              clear HO_3
              clear HB
              have HO_3 := n0_
              have HB := n1_
              clear n0_ n1_
              have p187 : 0 ≤ (x4_1 : Int) := of_decide_eq_true (by first | (with_reducible assumption) | assumption)
              have q187 : x4_1 < (l0.length : Int) := of_decide_eq_true (by first | (with_reducible assumption) | assumption)
              obtain ⟨ad187, A187_1, c187_1, e187, hx187_0, hx187_1, hl187_1, hi187_1⟩ := at_T105 HR0.out x4_1 p187 q187
              have hw187_1 := hx187_1
              have hw187_0 := hx187_0
              cases e187
              replace hx187_0 := (HB.out.cell (World.block_lt_of_cell? w _ hx187_0)).trans hx187_0
              replace hx187_1 := (HB.out.cell (World.block_lt_of_cell? w _ hx187_1)).trans hx187_1
              have HR187_1 := Aside0.mk hi187_1
              have HC187_1 := Aside0.mk hl187_1
              clear hi187_1 hl187_1
              replace p187 := eq_true p187
              replace q187 := eq_true q187
              have p191 : 0 ≤ (x4_1 : Int) := of_decide_eq_true (by first | (with_reducible assumption) | assumption)
              have q191 : x4_1 < (l0.length : Int) := of_decide_eq_true (by first | (with_reducible assumption) | assumption)
              obtain ⟨ad191, A191_1, c191_1, e191, hx191_0, hx191_1, hl191_1, hi191_1⟩ := at_T105 HR0.out x4_1 p191 q191
              have hw191_1 := hx191_1
              have hw191_0 := hx191_0
              obtain rfl : ad187 = ad191 := (by injection e191)
              replace hx191_0 := (HB.out.cell (World.block_lt_of_cell? w _ hx191_0)).trans hx191_0
              replace hx191_1 := (HB.out.cell (World.block_lt_of_cell? w _ hx191_1)).trans hx191_1
              have HR191_1 := Aside0.mk hi191_1
              have HC191_1 := Aside0.mk hl191_1
              clear hi191_1 hl191_1
              replace p191 := eq_true p191
              replace q191 := eq_true q191
              have ea_ := Option.some.inj (hx187_1.symm.trans hx191_1)
              injection ea_ with ea_ en_ ec_
              subst ea_
              subst ec_
              clear en_
              refine start_ (n := 17) (S := fun w' => w'.cell? (ad187.add ((x4_1).toNat * 2)) = some (.int .i64 ((rd_T105 l0 x4_1).f0)) ∧ w'.cell? ⟨(ad187.add ((x4_1).toNat * 2)).block, (ad187.add ((x4_1).toNat * 2)).off + 1, none⟩ = some (.slice A187_1 ((rd_T105 l0 x4_1).f1).length c187_1) ∧ w'.cell? (ad187.add ((x4_1).toNat * 2)) = some (.int .i64 ((rd_T105 l0 x4_1).f0)) ∧ w'.cell? ⟨(ad187.add ((x4_1).toNat * 2)).block, (ad187.add ((x4_1).toNat * 2)).off + 1, none⟩ = some (.slice A187_1 ((rd_T105 l0 x4_1).f1).length c187_1)) (ds := []) #[false, false, false, false, false, false, false, false, false, false, false, false, false, false, false, false, false] (by kernel_rfl) rfl rfl ⟨((HB.out.cell (World.block_lt_of_cell? w _ hw187_0)).trans hw187_0), ((HB.out.cell (World.block_lt_of_cell? w _ hw187_1)).trans hw187_1), ((HB.out.cell (World.block_lt_of_cell? w _ hw191_0)).trans hw191_0), ((HB.out.cell (World.block_lt_of_cell? w _ hw191_1)).trans hw191_1)⟩ (fun hHeld => ?_); refine with_tabW redlinelaw24_writes.tab5 redlinelaw24_writes.bits5 (fun HT_ HW_ => ?_)
              generalize wr.drew = w6 at HO_3 HB HR187_1 HR191_1 hx187_0 hx187_1 hx191_0 hx191_1 hHeld ⊢
              refine pure_ (i := 0) (N := some 11) (v := ?_) (a' := ?_) #[true, false, false, false, false, false, false, false, false, false, false, false, false, false, false, false, false] rfl rfl (any_of HT_.out (by kernel_rfl)) (fun _ _ _ h => h) (Or.inl ⟨by rfl, ?_⟩) ?_ ?_
              rotate_left
              · intro w'
                go_simp
                with_reducible rfl
              rotate_left
              · simp only [Act.put, List.setIfInBounds_toArray, List.set_cons_zero, List.set_cons_succ, i64_w, i32_w]
                rfl
              refine pure_ (i := 1) (N := some 12) (v := ?_) (a' := ?_) #[true, true, false, false, false, false, false, false, false, false, false, false, false, false, false, false, false] rfl rfl (any_of HT_.out (by kernel_rfl)) (fun _ _ _ h => h) (Or.inl ⟨by rfl, ?_⟩) ?_ ?_
              rotate_left
              · intro w'
                go_simp
                with_reducible rfl
              rotate_left
              · simp only [Act.put, List.setIfInBounds_toArray, List.set_cons_zero, List.set_cons_succ, i64_w, i32_w]
                rfl
              refine pure_ (i := 2) (N := some 13) (v := ?_) (a' := ?_) #[true, true, true, false, false, false, false, false, false, false, false, false, false, false, false, false, false] rfl rfl (any_of HT_.out (by kernel_rfl)) (fun _ _ _ h => h) (Or.inl ⟨by rfl, ?_⟩) ?_ ?_
              rotate_left
              · intro w'
                go_simp
                with_reducible rfl
              rotate_left
              · simp only [Act.put, List.setIfInBounds_toArray, List.set_cons_zero, List.set_cons_succ, i64_w, i32_w]
                rfl
              refine pure_ (i := 3) (N := some 14) (v := ?_) (a' := ?_) #[true, true, true, true, false, false, false, false, false, false, false, false, false, false, false, false, false] rfl rfl (any_of HT_.out (by kernel_rfl)) (fun _ _ _ h => h) (Or.inl ⟨by rfl, ?_⟩) ?_ ?_
              rotate_left
              · intro w'
                go_simp
                with_reducible rfl
              rotate_left
              · simp only [Act.put, List.setIfInBounds_toArray, List.set_cons_zero, List.set_cons_succ, i64_w, i32_w]
                rfl
              refine pure_ (i := 4) (N := some 15) (v := ?_) (a' := ?_) #[true, true, true, true, true, false, false, false, false, false, false, false, false, false, false, false, false] rfl rfl (any_of HT_.out (by kernel_rfl)) (fun _ _ _ h => h) (Or.inl ⟨by rfl, ?_⟩) ?_ ?_
              rotate_left
              · intro w'
                go_simp
                with_reducible rfl
              rotate_left
              · simp only [Act.put, List.setIfInBounds_toArray, List.set_cons_zero, List.set_cons_succ, i64_w, i32_w]
                rfl
              refine pure_ (i := 7) (N := some 18) (v := ?_) (a' := ?_) #[true, true, true, true, true, false, false, true, false, false, false, false, false, false, false, false, false] rfl rfl (any_of HT_.out (by kernel_rfl)) (fun _ _ _ h => h) (Or.inl ⟨by rfl, ?_⟩) ?_ ?_
              rotate_left
              · intro w'
                go_simp
                with_reducible rfl
              rotate_left
              · simp only [Act.put, List.setIfInBounds_toArray, List.set_cons_zero, List.set_cons_succ, i64_w, i32_w]
                rfl
              refine pure_ (i := 8) (N := some 19) (v := ?_) (a' := ?_) #[true, true, true, true, true, false, false, true, true, false, false, false, false, false, false, false, false] rfl rfl (any_of HT_.out (by kernel_rfl)) (fun _ _ _ h => h) (Or.inl ⟨by rfl, ?_⟩) ?_ ?_
              rotate_left
              · intro w'
                go_simp
                with_reducible rfl
              rotate_left
              · simp only [Act.put, List.setIfInBounds_toArray, List.set_cons_zero, List.set_cons_succ, i64_w, i32_w]
                rfl
              refine pure_ (i := 9) (N := some 20) (v := ?_) (a' := ?_) #[true, true, true, true, true, false, false, true, true, true, false, false, false, false, false, false, false] rfl rfl (any_of HT_.out (by kernel_rfl)) (fun _ _ _ h => h) (Or.inl ⟨by rfl, ?_⟩) ?_ ?_
              rotate_left
              · intro w'
                go_simp
                with_reducible rfl
              rotate_left
              · simp only [Act.put, List.setIfInBounds_toArray, List.set_cons_zero, List.set_cons_succ, i64_w, i32_w]
                rfl
              refine pure_ (i := 10) (N := some 21) (v := ?_) (a' := ?_) #[true, true, true, true, true, false, false, true, true, true, true, false, false, false, false, false, false] rfl rfl (any_of HT_.out (by kernel_rfl)) (fun _ _ _ h => h) (Or.inl ⟨by rfl, ?_⟩) ?_ ?_
              rotate_left
              · intro w'
                go_simp
                with_reducible rfl
              rotate_left
              · simp only [Act.put, List.setIfInBounds_toArray, List.set_cons_zero, List.set_cons_succ, i64_w, i32_w]
                rfl
              refine take_ (i := 5) (N := some 16) (v := ?_) (a' := ?_) #[true, true, true, true, true, true, false, true, true, true, true, false, false, false, false, false, false] rfl rfl (take_ofW HT_.out HW_.out (by kernel_rfl)) (fun _ _ _ h => h) (Or.inl ⟨by rfl, ?_⟩) hHeld ?_ ?_
              rotate_left
              · rintro w' ⟨s0, s1, s2, s3⟩
                go_simp
                with_reducible rfl
              rotate_left
              · simp only [Act.put, List.setIfInBounds_toArray, List.set_cons_zero, List.set_cons_succ, i64_w, i32_w]
                rfl
              refine take_ (i := 11) (N := some 22) (v := ?_) (a' := ?_) #[true, true, true, true, true, true, false, true, true, true, true, true, false, false, false, false, false] rfl rfl (take_ofW HT_.out HW_.out (by kernel_rfl)) (fun _ _ _ h => h) (Or.inl ⟨by rfl, ?_⟩) hHeld ?_ ?_
              rotate_left
              · rintro w' ⟨s0, s1, s2, s3⟩
                go_simp
                with_reducible rfl
              rotate_left
              · simp only [Act.put, List.setIfInBounds_toArray, List.set_cons_zero, List.set_cons_succ, i64_w, i32_w]
                rfl
              refine one_ (i := 6) (N := some 17) #[true, true, true, true, true, true, true, true, true, true, true, true, false, false, false, false, false] rfl rfl (one_of HT_.out (by kernel_rfl)) (by decide) (fun K hK => ?_)
              refine Kd.R_lit_step (Kd.int .u8) _ 5 ?hg (N := 17) ?hd (xs := ([] : List Int)) (inner := []) (ok := fun _ => True) (okp := fun _ => True) ?hr ?hp (fun _ hk => hk) trivial (Below.refl _ _) (Nat.le_refl _) (by simp) ?_; (case hd => rfl); (case hg => rfl); (case hr => first | (go_simp; done) | (go_simp; rfl)); (case hp => exact (Reps.none _ _))
              intro v189 w7 ho8 hb hg_ hnew_
              clear hg_ hnew_
              (first | rw [← Ny188.out] at ho8 | (simp only [Int.reduceToNat] at ho8; rw [← Ny188.out] at ho8))
              have n0_ := Aside0.mk (Kd.S_elder' (by (with_reducible repeat (first | apply Kd.S_alloc | apply Kd.S_drewN | apply Kd.S_drew)); exact HO_3.out) (Kd.R_base ho8) hb)
              have n1_ := Aside0.mk (Kd.R_lower ho8 (below_size (by repeat (first | (with_reducible first | exact HB.out | apply below_alloc | apply pw_below_drewN | apply below_drew1) | exact HB.out))))
              have n2_ := Aside0.mk (below_step (by repeat (first | (with_reducible first | exact HB.out | apply below_alloc | apply pw_below_drewN | apply below_drew1) | exact HB.out)) hb)
              clear HO_3
              clear HB
              have HO_3 := n0_
              have HO190 := n1_
              have HB := n2_
              clear n0_ n1_ n2_
              clear hb ho8
              refine hK.out _ _ ⟨((HB.out.cell (World.block_lt_of_cell? w _ hw187_0)).trans hw187_0), ((HB.out.cell (World.block_lt_of_cell? w _ hw187_1)).trans hw187_1), ((HB.out.cell (World.block_lt_of_cell? w _ hw191_0)).trans hw191_0), ((HB.out.cell (World.block_lt_of_cell? w _ hw191_1)).trans hw191_1)⟩ (fun hHeld => ?_)
              clear hK K
              refine norm_ (a' := ?_) ?_ ?_
              rotate_left
              · show Act.put _ (some 17) _ = _
                simp only [Act.put, List.setIfInBounds_toArray, List.set_cons_zero, List.set_cons_succ, i64_w, i32_w]
                rfl
              refine one_ (i := 12) (N := some 23) #[true, true, true, true, true, true, true, true, true, true, true, true, true, false, false, false, false] rfl rfl (one_of HT_.out (by kernel_rfl)) (by decide) (fun K hK => ?_)
              refine Kd.R_append_rows_step (Kd.int .u8) (w0 := w) w.heap.size (by rfl) (.tmp 17) (.tmp 22) 22 5 (.int .u8 0) 1 rfl Try.underlying22 info5 rfl (by decide) (by omega) v189 y188 ((rd_T105 l0 x4_1).f1) _ _ _ (fun _ => True) (fun _ => False) rfl rfl ?aO ?aR (fun _ _ h => h) (fun _ h => h.elim) ?aF ?aB ?aS ?aL ?_
              (case aR => repeat (first | exact (Kd.C_below HR191_1.out HB.out) | (with_reducible refine Kd.C_alloc ?_ _) | (with_reducible refine Kd.C_drewN ?_ _) | (with_reducible refine Kd.C_drew ?_)))
              (case aB => exact (by repeat (first | (with_reducible first | exact HB.out | apply below_alloc | apply pw_below_drewN | apply below_drew1) | exact HB.out)))
              (case aF => exact (fun _ _ => trivial))
              (case aO => exact (by (with_reducible repeat (first | apply Kd.R_alloc | apply Kd.R_drewN | apply Kd.R_drew)); exact HO190.out))
              (case aS => exact (below_size (by repeat (first | (with_reducible first | exact HB.out | apply below_alloc | apply pw_below_drewN | apply below_drew1) | exact HB.out))))
              (case aL => have := LMc4.out; omega)
              intro v193 w9 ho hb hg hat
              rw [← Ny192.out] at ho
              have n0_ := Aside0.mk (Kd.S_after (ok := (fun _ => True)) (by (with_reducible repeat (first | apply Kd.S_alloc | apply Kd.S_drewN | apply Kd.S_drew)); exact HO_3.out) hg hat)
              have n1_ := Aside0.mk (hb)
              have n2_ := Aside0.mk (ho)
              clear HO_3
              clear HB
              clear HO190
              have HO_3 := n0_
              have HB := n1_
              have HO194 := n2_
              clear n0_ n1_ n2_
              clear ho hb hg hat
              obtain ⟨Ao10, co10, eo10⟩ := Kd.R_slice HO194.out
              (first | subst eo10 | (injection eo10 with f1_ f2_ f3_; have f4_ := f1_.symm; have f5_ := f3_.symm; clear f1_ f2_ f3_; subst f4_; subst f5_))
              refine hK.out _ _ ⟨((HB.out.cell (World.block_lt_of_cell? w _ hw187_0)).trans hw187_0), ((HB.out.cell (World.block_lt_of_cell? w _ hw187_1)).trans hw187_1), ((HB.out.cell (World.block_lt_of_cell? w _ hw191_0)).trans hw191_0), ((HB.out.cell (World.block_lt_of_cell? w _ hw191_1)).trans hw191_1)⟩ (fun hHeld => ?_)
              clear hK K
              refine norm_ (a' := ?_) ?_ ?_
              rotate_left
              · show Act.put _ (some 23) _ = _
                simp only [Act.put, List.setIfInBounds_toArray, List.set_cons_zero, List.set_cons_succ, i64_w, i32_w]
                rfl
              refine pure_ (i := 13) (N := some 24) (v := ?_) (a' := ?_) #[true, true, true, true, true, true, true, true, true, true, true, true, true, true, false, false, false] rfl rfl (any_of HT_.out (by kernel_rfl)) (fun _ _ _ h => h) (Or.inl ⟨by rfl, ?_⟩) ?_ ?_
              rotate_left
              · intro w'
                go_simp
                with_reducible rfl
              rotate_left
              · simp only [Act.put, List.setIfInBounds_toArray, List.set_cons_zero, List.set_cons_succ, i64_w, i32_w]
                rfl
              refine one_ (i := 14) (N := some 25) #[true, true, true, true, true, true, true, true, true, true, true, true, true, true, true, false, false] rfl rfl (one_of HT_.out (by kernel_rfl)) (by decide) (fun K hK => ?_)
              refine value_ (w1 := ?_) (v := ?_) (by rfl) rfl ?_ ?_
              rotate_left 2
              · go_simp
                constructor
                · rfl
                · rfl
              refine hK.out _ _ ⟨(World.cell?_alloc_lt _ _ _ (World.block_lt_of_cell? _ _ (((HB.out.cell (World.block_lt_of_cell? w _ hw187_0)).trans hw187_0)))).trans (((HB.out.cell (World.block_lt_of_cell? w _ hw187_0)).trans hw187_0)), (World.cell?_alloc_lt _ _ _ (World.block_lt_of_cell? _ _ (((HB.out.cell (World.block_lt_of_cell? w _ hw187_1)).trans hw187_1)))).trans (((HB.out.cell (World.block_lt_of_cell? w _ hw187_1)).trans hw187_1)), (World.cell?_alloc_lt _ _ _ (World.block_lt_of_cell? _ _ (((HB.out.cell (World.block_lt_of_cell? w _ hw191_0)).trans hw191_0)))).trans (((HB.out.cell (World.block_lt_of_cell? w _ hw191_0)).trans hw191_0)), (World.cell?_alloc_lt _ _ _ (World.block_lt_of_cell? _ _ (((HB.out.cell (World.block_lt_of_cell? w _ hw191_1)).trans hw191_1)))).trans (((HB.out.cell (World.block_lt_of_cell? w _ hw191_1)).trans hw191_1))⟩ (fun hHeld => ?_)
              clear hK K
              refine norm_ (a' := ?_) ?_ ?_
              rotate_left
              · show Act.put _ (some 25) _ = _
                simp only [Act.put, List.setIfInBounds_toArray, List.set_cons_zero, List.set_cons_succ, i64_w, i32_w]
                rfl
              refine one_ (i := 15) (N := some 26) #[true, true, true, true, true, true, true, true, true, true, true, true, true, true, true, true, false] rfl rfl (one_of HT_.out (by kernel_rfl)) (by decide) (fun K hK => ?_)
              refine Kd.S_append_step k102 (w0 := w) w.heap.size (by rfl) (.tmp 11) (.tmp 25) 60 102 (.agg #[(.int .i64 0), (.slice none 0 0)]) 32 rfl Try.underlying60 info102 rfl (by decide) (by omega) u3 x3_1 (⟨(rd_T105 l0 x4_1).f0, y192⟩ : S102) [.int .i64 ((rd_T105 l0 x4_1).f0), .slice Ao10 y192.length co10] (fun _ => True) (fun k_ => some k_ = (.slice Ao10 y192.length co10 : Value).ownBlock) rfl rfl ?aP (fun k_ hk_ => ((Kd.R_mono (ok' := fun k_ => ((fun _ => True)) k_ ∧ some k_ ≠ (u3 : Value).ownBlock) (Kd.R_apart' (HO194.out) (Kd.S_typed HO_3.out) (by decide)) (fun k_ hk => ⟨trivial, hk.2⟩))).1 k_ hk_.symm) ?aF ?aO ?aB ?aS ?aL ?_
              (case aP => exact k102_mkM _ _ _ (⟨(rd_T105 l0 x4_1).f0, y192⟩ : S102) (Kd.R_mono (Kd.R_tight rfl (Kd.R_mono (ok' := fun k_ => ((fun _ => True)) k_ ∧ some k_ ≠ (u3 : Value).ownBlock) (Kd.R_apart' (HO194.out) (Kd.S_typed HO_3.out) (by decide)) (fun k_ hk => ⟨trivial, hk.2⟩))) (fun _ h_ => h_)))
              (case aB => exact (by repeat (first | (with_reducible first | exact HB.out | apply below_alloc | apply pw_below_drewN | apply below_drew1) | exact HB.out)))
              (case aF => exact (fun _ _ => trivial))
              (case aO => exact (by (with_reducible repeat (first | apply Kd.S_alloc | apply Kd.S_drewN | apply Kd.S_drew)); exact Kd.S_mono HO_3.out (fun k_ hk => ⟨trivial, fun e_ => hk.2 e_⟩)))
              (case aS => exact (below_size (by repeat (first | (with_reducible first | exact HB.out | apply below_alloc | apply pw_below_drewN | apply below_drew1) | exact HB.out))))
              (case aL => have := LMc5.out; omega)
              intro v196 w11 ho hb hg hat
              rw [← Ny195.out] at ho
              have n0_ := Aside0.mk (hb)
              have n1_ := Aside0.mk (ho)
              clear HB
              clear HO_3
              clear HO194
              have HB := n0_
              have HO197 := n1_
              clear n0_ n1_
              clear ho hb hg hat
              refine hK.out _ _ ⟨((HB.out.cell (World.block_lt_of_cell? w _ hw187_0)).trans hw187_0), ((HB.out.cell (World.block_lt_of_cell? w _ hw187_1)).trans hw187_1), ((HB.out.cell (World.block_lt_of_cell? w _ hw191_0)).trans hw191_0), ((HB.out.cell (World.block_lt_of_cell? w _ hw191_1)).trans hw191_1)⟩ (fun hHeld => ?_)
              clear hK K
              refine norm_ (a' := ?_) ?_ ?_
              rotate_left
              · show Act.put _ (some 26) _ = _
                simp only [Act.put, List.setIfInBounds_toArray, List.set_cons_zero, List.set_cons_succ, i64_w, i32_w]
                rfl
              refine pure_ (i := 16) (N := some 3) (v := ?_) (a' := ?_) #[true, true, true, true, true, true, true, true, true, true, true, true, true, true, true, true, true] rfl rfl (any_of HT_.out (by kernel_rfl)) (fun _ _ _ h => h) (Or.inl ⟨by rfl, ?_⟩) ?_ ?_
              rotate_left
              · intro w'
                go_simp
                with_reducible rfl
              rotate_left
              · simp only [Act.put, List.setIfInBounds_toArray, List.set_cons_zero, List.set_cons_succ, i64_w, i32_w]
                rfl
              refine done_ (done_of HT_.out (by kernel_rfl)) ?_
              try go_wp2
              go_roundg k1
              case measure => have := HK1.out; omega
              case rel => exact ⟨(y195), (wrap64 (x4_1 + 1)), (by first | rfl | (simp; done) | (simp [*]; done)), H', ⟨by have := HK1.out; omega⟩, ⟨by (with_reducible repeat (first | apply Kd.S_alloc | apply Kd.S_drewN | apply Kd.S_drew)); exact HO197.out⟩, ⟨by repeat (first | (with_reducible first | exact HB.out | apply below_alloc | apply pw_below_drewN | apply below_drew1) | exact HB.out)⟩⟩
            · rw [if_neg c5] at H
              exact absurd H (by simp)
          · rw [if_neg c4] at H
            exact absurd H (by simp)
        · rw [if_neg c3] at H
          exact absurd H (by simp)
      · rw [if_neg c2] at H
        have c2b0 : decide (x4_1 < (l0.length : Int)) = false := decide_eq_false c2
        clear c2
        obtain rfl := Option.some.inj H
        go_wp2
        go_ret
        exact ⟨_, by first | rfl | (simp [errW_none, errW_some] <;> rfl) | (simp [*, errW_none, errW_some] <;> rfl), by (with_reducible repeat (first | apply Kd.S_alloc | apply Kd.S_drewN | apply Kd.S_drew)); exact HO_3.out, by repeat (first | (with_reducible first | exact HB.out | apply below_alloc | apply pw_below_drewN | apply below_drew1) | exact HB.out)⟩

end Go.Proofs.Ytppgbfkhiofjiaa.Y

namespace Go.Proofs.Ytppgbfkhiofjiaa.Y
open Go.RowKit Go.Proofs.YtppgbfkhiofjiaaW.PrintWords Go.Proofs.YtppgbfkhiofjiaaW.PrintLast Go.Proofs.YtppgbfkhiofjiaaW.PrintMore
attribute [local go_sem] max2_int min2_int max_two min_two max_three min_three max_four min_four   -- for this text's walks alone
set_option linter.unusedVariables false
set_option linter.unusedSimpArgs false

/-! ### redlineref24_four: function 85 -/
def redlineref24_four.f (a0 : Int) : Option (List Int) := some (([(Int.tmod a0 256) % 256, ((Int.tdiv a0 256) % 4294967296) % 256, ((Int.tdiv a0 65536) % 4294967296) % 256, ((Int.tdiv a0 16777216) % 4294967296) % 256] : List Int))
set_option maxHeartbeats 8000000 in
set_option maxRecDepth 100000 in
theorem redlineref24_four.calls (a0 : Int) (r : List Int) (w : World) (h : redlineref24_four.f a0 = some r) :
    Calls Try.prog 85 #[.int .u32 a0] w fun e w' => ∃ v0_ : Value, e = .returned (v0_) ∧ Kd.R (Kd.int .u8) 5 w' w.heap.size (fun _ => True) v0_ r ∧ Below w.heap.size w w' := by
  have HB := Aside0.mk (Below.refl w.heap.size w)
  have H : (some (([(Int.tmod a0 256) % 256, ((Int.tdiv a0 256) % 4294967296) % 256, ((Int.tdiv a0 65536) % 4294967296) % 256, ((Int.tdiv a0 16777216) % 4294967296) % 256] : List Int))) = some r := h
  clear h
  obtain ⟨y141, hy141⟩ : ∃ y_ : List Int, y_ = (([(Int.tmod a0 256) % 256, ((Int.tdiv a0 256) % 4294967296) % 256, ((Int.tdiv a0 65536) % 4294967296) % 256, ((Int.tdiv a0 16777216) % 4294967296) % 256] : List Int)) := ⟨_, rfl⟩
  replace H : (some y141) = some r := by first | (rw [hy141]; with_reducible exact H) | (have H2_ := (Option.bind_some _ _).symm.trans H; rw [hy141]; with_reducible exact H2_) | (have H2_ := (Option.bind_some _ _).symm.trans H; with_reducible exact H2_) | with_reducible exact H | (rw [hy141]; exact H) | exact H
  have Ny141 := Aside0.mk hy141
  clear hy141
  obtain rfl := Option.some.inj H
  go_enter Try.func85, Try.ntmps85
  go_wp2_with (first | ((with_reducible refine gate_dst (N := 17) rfl ?_); refine Kd.R_lit (Kd.int .u8) _ 5 ?hg (N := 17) ?hd (xs := ([(Int.tmod a0 256) % 256, ((Int.tdiv a0 256) % 4294967296) % 256, ((Int.tdiv a0 65536) % 4294967296) % 256, ((Int.tdiv a0 16777216) % 4294967296) % 256] : List Int)) (inner := [.int .u8 ((Int.tmod a0 256) % 256), .int .u8 (((Int.tdiv a0 256) % 4294967296) % 256), .int .u8 (((Int.tdiv a0 65536) % 4294967296) % 256), .int .u8 (((Int.tdiv a0 16777216) % 4294967296) % 256)]) (ok := fun _ => True) (okp := fun _ => True) ?hr ?hp (fun _ hk => hk) trivial (Below.refl _ _) (Nat.le_refl _) (by simp) ?_; (case hd => rfl); (case hg => rfl); (case hr => first | (go_simp; done) | (go_simp; rfl)); (case hp => exact (Reps.one (show Kd.M (Kd.int .u8) _ _ _ ((Int.tmod a0 256) % 256) [.int .u8 ((Int.tmod a0 256) % 256)] from rfl) (Reps.one (show Kd.M (Kd.int .u8) _ _ _ (((Int.tdiv a0 256) % 4294967296) % 256) [.int .u8 (((Int.tdiv a0 256) % 4294967296) % 256)] from rfl) (Reps.one (show Kd.M (Kd.int .u8) _ _ _ (((Int.tdiv a0 65536) % 4294967296) % 256) [.int .u8 (((Int.tdiv a0 65536) % 4294967296) % 256)] from rfl) (Reps.one (show Kd.M (Kd.int .u8) _ _ _ (((Int.tdiv a0 16777216) % 4294967296) % 256) [.int .u8 (((Int.tdiv a0 16777216) % 4294967296) % 256)] from rfl) (Reps.none _ _)))))); intro v142 w2 ho3 hb hg_ hnew_; clear hg_ hnew_; (first | rw [← Ny141.out] at ho3 | (simp only [Int.reduceToNat] at ho3; rw [← Ny141.out] at ho3)); have n0_ := Aside0.mk (Kd.R_lower ho3 (below_size (by repeat (first | (with_reducible first | exact HB.out | apply below_alloc | apply pw_below_drewN | apply below_drew1) | exact HB.out)))); have n1_ := Aside0.mk (below_step (by repeat (first | (with_reducible first | exact HB.out | apply below_alloc | apply pw_below_drewN | apply below_drew1) | exact HB.out)) hb); clear HB; have HO143 := n0_; have HB := n1_; clear n0_ n1_; clear hb ho3))
  go_ret
  exact ⟨_, by first | rfl | (simp [errW_none, errW_some] <;> rfl) | (simp [*, errW_none, errW_some] <;> rfl), by (with_reducible repeat (first | apply Kd.R_alloc | apply Kd.R_drewN | apply Kd.R_drew)); exact HO143.out, by repeat (first | (with_reducible first | exact HB.out | apply below_alloc | apply pw_below_drewN | apply below_drew1) | exact HB.out)⟩

end Go.Proofs.Ytppgbfkhiofjiaa.Y

namespace Go.Proofs.Ytppgbfkhiofjiaa.Y
open Go.RowKit Go.Proofs.YtppgbfkhiofjiaaW.PrintWords Go.Proofs.YtppgbfkhiofjiaaW.PrintLast Go.Proofs.YtppgbfkhiofjiaaW.PrintMore
attribute [local go_sem] max2_int min2_int max_two min_two max_three min_three max_four min_four   -- for this text's walks alone
set_option linter.unusedVariables false
set_option linter.unusedSimpArgs false

/-! ### redlineref24_number: function 86 -/
def redlineref24_number.f (l0 : List Int) : Option (Int) := if 0 < (l0.length : Int) then (if 1 < (l0.length : Int) then (if 2 < (l0.length : Int) then (if 3 < (l0.length : Int) then (some ((((((((rd l0 0) % 4294967296) + ((((rd l0 1) % 4294967296) * 256) % 4294967296)) % 4294967296) + ((((rd l0 2) % 4294967296) * 65536) % 4294967296)) % 4294967296) + ((((rd l0 3) % 4294967296) * 16777216) % 4294967296)) % 4294967296)) else (none)) else (none)) else (none)) else (none)
set_option maxHeartbeats 8000000 in
set_option maxRecDepth 100000 in
theorem redlineref24_number.calls (A0 : Option Addr) (c0 : Nat) (l0 : List Int) (r : Int) (w : World) (hr0 : Kd.C (Kd.int .u8) w A0 l0.length l0) (hc0 : l0.length ≤ c0) (h : redlineref24_number.f l0 = some r) :
    Calls Try.prog 86 #[.slice A0 l0.length c0] w fun e w' => e = .returned (.int .u32 r) ∧ Drawn0 w w' := by
  have HR0 := Aside0.mk hr0
  have HC0 := Aside0.mk hc0
  clear hr0 hc0
  have H : (if 0 < (l0.length : Int) then (if 1 < (l0.length : Int) then (if 2 < (l0.length : Int) then (if 3 < (l0.length : Int) then (some ((((((((rd l0 0) % 4294967296) + ((((rd l0 1) % 4294967296) * 256) % 4294967296)) % 4294967296) + ((((rd l0 2) % 4294967296) * 65536) % 4294967296)) % 4294967296) + ((((rd l0 3) % 4294967296) * 16777216) % 4294967296)) % 4294967296)) else (none)) else (none)) else (none)) else (none)) = some r := h
  clear h
  by_cases c2 : 0 < (l0.length : Int)
  · rw [if_pos c2] at H
    have c2b0 : decide (0 < (l0.length : Int)) = true := decide_eq_true c2
    have c2b1 : decide (0 < l0.length) = true := decide_eq_true (by omega)
    clear c2
    by_cases c3 : 1 < (l0.length : Int)
    · rw [if_pos c3] at H
      have c3b0 : decide (1 < (l0.length : Int)) = true := decide_eq_true c3
      have c3b1 : decide (1 < l0.length) = true := decide_eq_true (by omega)
      clear c3
      by_cases c4 : 2 < (l0.length : Int)
      · rw [if_pos c4] at H
        have c4b0 : decide (2 < (l0.length : Int)) = true := decide_eq_true c4
        have c4b1 : decide (2 < l0.length) = true := decide_eq_true (by omega)
        clear c4
        by_cases c5 : 3 < (l0.length : Int)
        · rw [if_pos c5] at H
          have c5b0 : decide (3 < (l0.length : Int)) = true := decide_eq_true c5
          have c5b1 : decide (3 < l0.length) = true := decide_eq_true (by omega)
          clear c5
          obtain rfl := Option.some.inj H
          have p181 : 0 ≤ (0 : Int) := (by omega)
          have q181 : 0 < (l0.length : Int) := of_decide_eq_true (by first | (with_reducible assumption) | assumption)
          obtain ⟨ad181, e181, hx181_0⟩ := Kd.at_int HR0.out 0 p181 q181
          cases e181
          have qi181 : (0 < l0.length) = True := eq_true (by omega)
          (try rw [show ((0 : Int)).toNat = 0 from rfl] at hx181_0)
          (try rw [Addr.add_zero'] at hx181_0)
          replace p181 := eq_true p181
          replace q181 := eq_true q181
          have p182 : 0 ≤ (1 : Int) := (by omega)
          have q182 : 1 < (l0.length : Int) := of_decide_eq_true (by first | (with_reducible assumption) | assumption)
          obtain ⟨ad182, e182, hx182_0⟩ := Kd.at_int HR0.out 1 p182 q182
          obtain rfl : ad181 = ad182 := (by injection e182)
          (try simp only [show (1 : Int).toNat = 1 from rfl, Nat.reduceMul, Nat.reduceEqDiff, Go.Addr.add, ↓reduceIte] at hx182_0)
          have qi182 : (1 < l0.length) = True := eq_true (by omega)
          (try rw [show ((1 : Int)).toNat = 1 from rfl] at hx182_0)
          replace p182 := eq_true p182
          replace q182 := eq_true q182
          have p183 : 0 ≤ (2 : Int) := (by omega)
          have q183 : 2 < (l0.length : Int) := of_decide_eq_true (by first | (with_reducible assumption) | assumption)
          obtain ⟨ad183, e183, hx183_0⟩ := Kd.at_int HR0.out 2 p183 q183
          obtain rfl : ad181 = ad183 := (by injection e183)
          (try simp only [show (2 : Int).toNat = 2 from rfl, Nat.reduceMul, Nat.reduceEqDiff, Go.Addr.add, ↓reduceIte] at hx183_0)
          have qi183 : (2 < l0.length) = True := eq_true (by omega)
          (try rw [show ((2 : Int)).toNat = 2 from rfl] at hx183_0)
          replace p183 := eq_true p183
          replace q183 := eq_true q183
          have p184 : 0 ≤ (3 : Int) := (by omega)
          have q184 : 3 < (l0.length : Int) := of_decide_eq_true (by first | (with_reducible assumption) | assumption)
          obtain ⟨ad184, e184, hx184_0⟩ := Kd.at_int HR0.out 3 p184 q184
          obtain rfl : ad181 = ad184 := (by injection e184)
          (try simp only [show (3 : Int).toNat = 3 from rfl, Nat.reduceMul, Nat.reduceEqDiff, Go.Addr.add, ↓reduceIte] at hx184_0)
          have qi184 : (3 < l0.length) = True := eq_true (by omega)
          (try rw [show ((3 : Int)).toNat = 3 from rfl] at hx184_0)
          replace p184 := eq_true p184
          replace q184 := eq_true q184
          go_enter Try.func86, Try.ntmps86
          go_wp2
          repeat (go_quiet (fail); try go_wp2)
          go_ret
          exact ⟨by first | rfl | (simp; done) | (simp [*]; done), by repeat (first | exact Drawn0.refl _ | apply Drawn0.step)⟩
        · rw [if_neg c5] at H
          exact absurd H (by simp)
      · rw [if_neg c4] at H
        exact absurd H (by simp)
    · rw [if_neg c3] at H
      exact absurd H (by simp)
  · rw [if_neg c2] at H
    exact absurd H (by simp)

end Go.Proofs.Ytppgbfkhiofjiaa.Y

namespace Go.Proofs.Ytppgbfkhiofjiaa.X
open Go.RowKit Go.Proofs.YtppgbfkhiofjiaaW.PrintWords Go.Proofs.YtppgbfkhiofjiaaW.PrintLast Go.Proofs.YtppgbfkhiofjiaaW.PrintMore Go.Proofs.Ytppgbfkhiofjiaa.Y
set_option linter.unusedVariables false
set_option linter.unusedSimpArgs false

def fourL (n : Int) : List Int := [n % 256, n / 256 % 256, n / 65536 % 256, n / 16777216 % 256]
def headL (count sum : Int) : List Int := [82, 76, 74, 49] ++ fourL count ++ fourL sum ++ List.replicate 52 0
theorem headL_length (a s : Int) : (headL a s).length = 64 := rfl

theorem cellK {w w' : World} (hf : Fr (fun _ => False) w w') {a : Addr} {u : Value} (h : w.cell? a = some u) : w'.cell? a = some u :=
  (World.cell?_of_block (w := w) (hf.keep _ (World.block_lt_of_cell? w _ h) (fun h => h))).trans h
theorem nums_four (l : List Int) : encs (Value.int .u8) l = nums .u8 l := rfl
set_option maxHeartbeats 4000000 in
set_option maxRecDepth 100000 in
/-- four onto a row that is full. -/
theorem four_const (g : Nat) (n : Nat) (l : List Int) (a : Int) (w : World) (hn : l.length = n) (hn' : n ≤ 1000) (hc : ∀ j u, (nums .u8 l)[j]? = some u → w.cell? ⟨g, j, none⟩ = some u) :
    Calls Try.prog 74 #[.slice (some ⟨g, 0, none⟩) n n, .int .u32 a] w fun e w' => ∃ v, e = .returned v ∧ Kd.R (Kd.int .u8) 5 w' w.heap.size (fun k => w.heap.size ≤ k) v (l ++ fourL a) ∧ Below w.heap.size w w' := by
  have HC := Aside0.mk hc
  have HN := Aside0.mk hn
  obtain ⟨i0, hi0, hzz⟩ := Option.map_eq_some_iff.1 info5
  simp only [Prod.mk.injEq] at hzz
  have HI := Aside0.mk hi0
  have HZ := Aside0.mk hzz
  clear hc hn hi0 hzz
  go_enter Try.func74, Try.ntmps74
  go_wp2_with ((with_reducible refine gate_builtin (b := .append) (xs := #[.tmp 5, .tmp 17]) rfl ?_); at_builtin; refine wpList_append_grows _ rfl (.tmp 5) (.tmp 17) 22 rfl 5 i0 (.int .u8 0) 1 1 Try.underlying22 HI.out HZ.out.1 HZ.out.2.1 HZ.out.2.2 rfl (by decide) (some ⟨g, 0, none⟩) n n (nums .u8 l) rfl (by simp) (by rw [nums, List.length_map, HN.out, Nat.mul_one]) (fun b e j u hj => by injection e with e; subst e; have h1 := HC.out j u hj; rw [Addr.add_mid, Nat.zero_add]; exact cellK ((Fr.refl (fun _ => False) w).alloc _) h1) ⟨w.heap.size, 0, none⟩ 4 4 (nums .u8 (fourL a)) rfl rfl (fun j u hj => by rw [Addr.add_mid, Nat.zero_add, cell_of_row _ _ _ _ 5 (0, 0) (heap_alloc_new w _)]; rw [← hj]; exact List.getElem?_toArray) (fun u hu => by obtain ⟨x, _, rfl⟩ := List.mem_map.1 hu; rfl) (by omega) (by simp only [maxLen]; omega) (by omega) ?_; intro v1 w1 h1 h2)
  go_ret
  have ho : w1.ownsRow w.heap.size 5 1 v1 (l ++ fourL a).length (encs (Value.int .u8) (l ++ fourL a)) := by
    have e1 : (l ++ fourL a).length = n + 4 := by rw [List.length_append, HN.out]; rfl
    rw [e1]
    have e2 : encs (Value.int .u8) (l ++ fourL a) = nums .u8 l ++ nums .u8 (fourL a) := by simp [nums, encs]
    rw [e2]
    exact own_weaken h1 (by simp)
  exact ⟨v1, rfl, Kd.R_of_own (h1 := fun _ => rfl) ho (fun k e => own_base ho k e), ((Below.refl _ _).alloc (Nat.le_refl _) _).grown h2 (by simp) (fun k e => by cases e)⟩
set_option maxHeartbeats 4000000 in
set_option maxRecDepth 100000 in
theorem head_calls (a s : Int) (w : World) (ha : 0 ≤ a ∧ a < 4294967296) :
    Calls Try.prog 62 #[.int .i64 a, .int .u32 s] w fun e w' => ∃ A c, e = .returned (.slice A 64 c) ∧ Kd.R (Kd.int .u8) 5 w' w.heap.size (fun _ => True) (.slice A 64 c) (headL a s) ∧ Below w.heap.size w w' := by
  obtain ⟨h1, h2⟩ := ha
  have kc := fun (w : World) (C : Array Value) (n c : Nat) => Lib.run_convert_bytes_const (P := Try.prog) w 22 5 C n c Try.underlying22 Try.underlying5
  have hcc := fun j u hj => (cell_of_row (w.alloc (.cells #[.int .u8 82, .int .u8 76, .int .u8 74, .int .u8 49] 5 (4, 5))) w.heap.size j _ 5 (4, 5) (heap_alloc_new w _)).trans (show (#[.int .u8 82, .int .u8 76, .int .u8 74, .int .u8 49] : Array Value)[j]? = some u from hj)
  have FC := Aside0.mk (four_const w.heap.size 4 [82, 76, 74, 49] a (w.alloc (.cells #[.int .u8 82, .int .u8 76, .int .u8 74, .int .u8 49] 5 (4, 5))) rfl (by omega) (fun j u hj => hcc j u (by rw [← hj]; exact List.getElem?_toArray)))
  have HB0 : Aside0 (Below w.heap.size w (w.alloc (.cells #[.int .u8 82, .int .u8 76, .int .u8 74, .int .u8 49] 5 (4, 5)))) := ⟨(Below.refl _ _).alloc (Nat.le_refl _) _⟩
  clear hcc
  go_enter Try.func62, Try.ntmps62
  go_wp2_with fail
  refine FC.out.mono ?_
  rintro e w1 ⟨v1, rfl, r1, b1⟩
  have HR1 : Aside0 (Kd.R (Kd.int .u8) 5 w1 w.heap.size (fun k => w.heap.size ≤ k) v1 ([82, 76, 74, 49] ++ fourL a)) := ⟨Kd.R_lower (Kd.R_mono r1 (fun k h => by simp at h; omega)) (by simp)⟩
  have HB1 : Aside0 (Below w.heap.size w w1) := ⟨HB0.out.trans (b1.mono (by simp))⟩
  clear r1 b1 HB0 FC
  obtain ⟨A1, c1, rfl⟩ := Kd.R_slice HR1.out
  go_wp2_with fail
  refine (journal_four.calls _ _ _ s ([82, 76, 74, 49] ++ fourL a ++ fourL s) w _ HB1.out HR1.out rfl).mono ?_
  rintro e w2 ⟨v2, rfl, r2, b2, k2⟩
  have HR2 : Aside0 (Kd.R (Kd.int .u8) 5 w2 w.heap.size (fun k => w.heap.size ≤ k) v2 ([82, 76, 74, 49] ++ fourL a ++ fourL s)) := ⟨Kd.R_mono r2 (fun k h => h.elim id (fun h => by have := b2.size; have := HB1.out.size; omega))⟩
  have HB2 := Aside0.mk b2
  clear r2 b2 k2 HR1 HB1
  obtain ⟨A2, c2, rfl⟩ := Kd.R_slice HR2.out
  have hl12 : ([82, 76, 74, 49] ++ fourL a ++ fourL s : List Int).length = 12 := rfl
  rw [hl12] at HR2 ⊢
  clear hl12
  go_wp2_with ((with_reducible refine gate_builtin (b := .append) (xs := #[.tmp 13, .tmp 16]) rfl ?_); at_builtin; refine Kd.R_append_zeros (Kd.int .u8) w.heap.size rfl (.tmp 13) (.tmp 16) 22 3 5 (.int .u8 0) 1 rfl Try.underlying22 Try.underlying3 info5 rfl (by decide) (by decide) (.slice A2 12 c2) _ 0 52 (fun k => w.heap.size ≤ k) rfl rfl rfl (fun _ h => Nat.le_trans HB2.out.size h) HR2.out (by omega) HB2.out HB2.out.size (by show (12 + 52) * 1 ≤ _; omega) ?_; intro v3 w3 r3 b3 g3 at3)
  obtain ⟨A3, c3, rfl⟩ := Kd.R_slice r3
  go_ret
  exact ⟨A3, c3, rfl, Kd.R_mono r3 (fun _ _ => trivial), b3⟩
end Go.Proofs.Ytppgbfkhiofjiaa.X

namespace Go.Proofs.Ytppgbfkhiofjiaa.X
open Go.RowKit Go.Proofs.YtppgbfkhiofjiaaW.PrintWords Go.Proofs.YtppgbfkhiofjiaaW.PrintLast Go.Proofs.YtppgbfkhiofjiaaW.PrintMore
set_option linter.unusedVariables false
set_option linter.unusedSimpArgs false

/-- A step: a function, what is bound ahead, what it captured. -/
structure StepV where
  k : Nat
  bnd : Array Value
  fr : Array Value
def StepV.val (s : StepV) : Value := .func (.func s.k) s.bnd s.fr
/-- What a row's end says. -/
def SomeErr (Q : Int → World → Prop) (e : Ending) (w' : World) : Prop := ∃ x : Int, e = .returned (.int .i64 x) ∧ Q x w'
/-- What one step's end says. -/
def StepEnd (J : World → Prop) (Q : Int → World → Prop) (e : Ending) (w' : World) : Prop := ∃ x : Int, e = .returned (.int .i64 x) ∧ (x = 0 → J w') ∧ (x ≠ 0 → Q x w')

set_option maxHeartbeats 4000000 in
set_option maxRecDepth 100000 in
theorem row_calls (fs : List StepV) (n : Nat) (hn : fs.length = n) (hn9 : n ≤ 1000) (A : Addr) (c : Nat) (w : World) (J : Nat → World → Prop) (Q : Int → World → Prop)
    (hcell : ∀ (i : Nat) (s : StepV) (W : World), J i W → fs[i]? = some s → W.cell? (A.add i) = some s.val)
    (hstep : ∀ (i : Nat) (s : StepV) (W : World), fs[i]? = some s → J i W → Calls Try.prog s.k (s.bnd ++ s.fr) W (StepEnd (J (i + 1)) Q))
    (hent : ∀ (i : Nat) (s : StepV), fs[i]? = some s → ∀ (args : Array Value) (W : World), (callFunc s.k args).run Try.prog W = .ok (.enter s.k args) W)
    (hend : ∀ W, J n W → Q 0 W) (h0 : J 0 w) :
    Calls Try.prog 78 #[.slice (some A) n c] w (SomeErr Q) := by
  have HC := Aside0.mk hcell
  have HS := Aside0.mk hstep
  have HE := Aside0.mk hend
  have H0 := Aside0.mk h0
  have HN := Aside0.mk hn
  have HEN := Aside0.mk hent
  clear hent hcell hstep hend h0 hn
  go_enter Try.func78, Try.ntmps78
  go_wp2_with fail
  go_loopg [8] n (fun kq v8 w' => ∃ (i : Nat), v8 = .int .i64 (i : Int) ∧ Aside0 (i + kq = n) ∧ Aside0 (J i w'))
  case atStart => exact ⟨0, rfl, ⟨by omega⟩, H0⟩
  case round =>
    clear H0
    obtain ⟨i, rfl, HI, HJ⟩ := hrel
    have hi0 : (0 : Int) ≤ (i : Int) := by omega
    cases gk with
    | zero =>
      have hi : i = n := by have := HI.out; omega
      subst hi
      go_wp2_with fail
      go_ret
      exact ⟨0, rfl, HE.out _ HJ.out⟩
    | succ k1 =>
      have hi1 : (i : Int) < (n : Int) := by have := HI.out; omega
      have HI3 : Aside0 (i + 1 + k1 = n) := ⟨by have := HI.out; omega⟩
      obtain ⟨s, hs⟩ : ∃ s, fs[i]? = some s := ⟨_, List.getElem?_eq_getElem (by rw [HN.out]; omega)⟩
      have x0 := HC.out i s wr HJ.out hs
      have ST := Aside0.mk (HS.out i s wr hs HJ.out)
      obtain ⟨k, bnd, fr⟩ := s
      have y0 : wr.cell? (A.add i) = some (.func (.func k) bnd fr) := x0
      have en : ∀ (args : Array Value) (W : World), (callFunc k args).run Try.prog W = .ok (.enter k args) W := HEN.out i _ hs
      clear x0 hs
      go_wp2_with fail
      refine ST.out.mono ?_
      rintro e w' ⟨x, rfl, hx0, hx1⟩
      have X0 := Aside0.mk hx0
      have X1 := Aside0.mk hx1
      clear hx0 hx1 ST y0 en
      by_cases hx : x = 0
      · subst hx
        have HJ2 := Aside0.mk (X0.out rfl)
        clear X0 X1
        go_wp2_with fail
        go_roundg k1
        case measure => omega
        case rel => exact ⟨i + 1, by go_num, HI3, HJ2⟩
      · have hq := X1.out hx
        have HQ := Aside0.mk hq
        have e1 : (x != 0) = true := by simpa using hx
        clear X0 X1 hq
        go_wp2_with fail
        go_ret
        exact ⟨x, rfl, HQ.out⟩
end Go.Proofs.Ytppgbfkhiofjiaa.X

namespace Go.Proofs.Ytppgbfkhiofjiaa.X
open Go.RowKit Go.Proofs.YtppgbfkhiofjiaaW.PrintWords Go.Proofs.YtppgbfkhiofjiaaW.PrintLast Go.Proofs.YtppgbfkhiofjiaaW.PrintMore Go.Proofs.Ytppgbfkhiofjiaa.Y
set_option linter.unusedVariables false
set_option linter.unusedSimpArgs false

/-! ### Pure -/
def seqD (r : Int × DS) (k : DS → Int × DS) : Int × DS := if r.1 = 0 then k r.2 else r
def runD : List (DS → Int × DS) → DS → Int × DS
  | [], D => (0, D)
  | f :: l, D => seqD (f D) (runD l)
def laysD (h : List Int) (D : DS) : Int × DS := runD [fun D => writeD D 0 h, flushD] D

/-- What a journal's steps ask of a disk: i bounds what has been done. -/
structure JOk (i : Nat) (D : DS) : Prop where
  steps : 0 ≤ D.steps ∧ D.steps ≤ i
  left : D.left ≤ 9223372036854775807
  u : D.u + D.c.length ≤ i
theorem JOk.mono {i j : Nat} {D : DS} (h : JOk i D) (hj : i ≤ j) : JOk j D := ⟨⟨h.steps.1, by have := h.steps.2; omega⟩, h.left, by have := h.u; omega⟩
theorem JOk.step {i : Nat} {D : DS} (h : JOk i D) : JOk (i + 1) (stepD D).2 ∧ (stepD D).2.u + (stepD D).2.c.length ≤ i := by
  obtain ⟨h1, h2, h3⟩ := h
  obtain ⟨a1, a2, a3, a4⟩ := stepD_c D
  refine ⟨⟨?_, ?_, by rw [a1, a2]; omega⟩, by rw [a1, a2]; exact h3⟩
  · unfold stepD
    split
    · exact ⟨h1.1, by show D.steps ≤ ((i + 1 : Nat) : Int); omega⟩
    · exact ⟨by show 0 ≤ D.steps + 1; omega, by show D.steps + 1 ≤ ((i + 1 : Nat) : Int); omega⟩
  · unfold stepD
    split
    · exact h2
    · show (if 0 < D.left then D.left - 1 else D.left) ≤ _
      split <;> omega
theorem JOk.write {i : Nat} {D : DS} (h : JOk i D) (n : Int) (b : List Int) : JOk (i + 1) (writeD D n b).2 := by
  unfold writeD
  split
  · split
    · split
      · obtain ⟨⟨g1, g2, g3⟩, g4⟩ := h.step
        refine ⟨g1, g2, ?_⟩
        show (stepD D).2.u + ((stepD D).2.c ++ [(n, b)]).length ≤ i + 1
        rw [List.length_append, List.length_singleton]
        omega
      · exact h.step.1
    · exact h.mono (Nat.le_succ i)
  · exact h.mono (Nat.le_succ i)
theorem JOk.flush {i : Nat} {D : DS} (h : JOk i D) : JOk (i + 1) (flushD D).2 := by
  unfold flushD
  split
  · exact h.mono (Nat.le_succ i)
  · split
    · obtain ⟨⟨g1, g2, g3⟩, g4⟩ := h.step
      exact ⟨g1, g2, by show (stepD D).2.u + (stepD D).2.c.length + 0 ≤ i + 1; omega⟩
    · exact h.step.1
theorem JOk.mend {i : Nat} {D : DS} (h : JOk i D) (l : List Bool) : JOk i (mendD l D) := by
  obtain ⟨h1, h2, h3⟩ := h
  exact ⟨h1, by show (-1 : Int) ≤ _; decide, by show D.u + D.c.length + 0 ≤ i; omega⟩
theorem JOk.arm {i : Nat} {D : DS} (h : JOk i D) (n : Int) (hn : n ≤ 9223372036854775807) : JOk i { D with left := if n < -1 then -1 else n } := by
  obtain ⟨h1, h2, h3⟩ := h
  exact ⟨h1, by show (if n < -1 then -1 else n) ≤ _; split <;> omega, h3⟩
theorem jok_new (n : Int) : JOk 0 (newD n) := ⟨⟨Int.le_refl 0, Int.le_refl 0⟩, by show (-1 : Int) ≤ 9223372036854775807; decide, Nat.le_refl 0⟩
theorem JOk.seq {i j k : Nat} {r : Int × DS} {f : DS → Int × DS} (h : JOk i r.2) (hk : JOk i r.2 → JOk k (f r.2).2) (hik : i ≤ k) : JOk k (seqD r f).2 := by
  unfold seqD
  split
  · exact hk h
  · exact h.mono hik
theorem JOk.lays {i : Nat} {D : DS} (h : JOk i D) (b : List Int) : JOk (i + 2) (laysD b D).2 :=
  JOk.seq (j := 0) (h.write 0 b) (fun h1 => JOk.seq (j := 0) h1.flush (fun h2 => h2) (Nat.le_refl _)) (by omega)

/-! ### A disk that has gone on -/
def Moved (w0 : World) (B : Nat → Prop) (g : Nat) (W : World) (D : DS) : Prop := ∃ B', IsDisk W B' g D ∧ (∀ k, B' k → B k ∨ w0.heap.size ≤ k) ∧ Fr B w0 W
theorem Moved.refl {w : World} {B : Nat → Prop} {g : Nat} {D : DS} (h : IsDisk w B g D) : Moved w B g w D := ⟨B, h, fun _ h => .inl h, Fr.refl _ _⟩
theorem Moved.of {w W : World} {B : Nat → Prop} {g : Nat} {D : DS} (h : IsDisk W B g D) (f : Fr B w W) : Moved w B g W D := ⟨B, h, fun _ h => .inl h, f⟩
theorem Moved.back {w0 w1 w2 : World} {B B1 : Nat → Prop} {g : Nat} {D : DS} (m : Moved w1 B1 g w2 D) (hs : ∀ k, B1 k → B k ∨ w0.heap.size ≤ k) (f : Fr B w0 w1) : Moved w0 B g w2 D := by
  obtain ⟨B2, h, h1, f2⟩ := m
  exact ⟨B2, h, fun k hk => (h1 k hk).elim (hs k) (fun h => .inr (Nat.le_trans f.size h)), f.trans f2 hs⟩
theorem Moved.quiet {w0 W W' : World} {B : Nat → Prop} {g : Nat} {D : DS} (m : Moved w0 B g W D) (f : Fr (fun _ => False) W W') : Moved w0 B g W' D := by
  obtain ⟨B', h, h1, f1⟩ := m
  exact ⟨B', h.fr f (fun _ _ h => h), h1, f1.trans f (fun _ h => h.elim)⟩
theorem Moved.fr {w0 W : World} {B : Nat → Prop} {g : Nat} {D : DS} (m : Moved w0 B g W D) : Fr B w0 W := m.elim fun _ h => h.2.2
theorem Moved.ahead {w w0 W : World} {B : Nat → Prop} {g : Nat} {D : DS} (m : Moved w0 B g W D) (f : Fr (fun _ => False) w w0) : Moved w B g W D :=
  m.back (fun _ h => .inl h) (f.mono (fun _ h => h.elim))
theorem cellB {w w' : World} {B : Nat → Prop} (hf : Fr B w w') {a : Addr} (hb : ¬ B a.block) {u : Value} (h : w.cell? a = some u) : w'.cell? a = some u :=
  (World.cell?_of_block (w := w) (hf.keep _ (World.block_lt_of_cell? w _ h) hb)).trans h
theorem farC {α : Type} {enc : α → Value} {h1 : ∀ x, (enc x).oneCell' = true} (d : α) {w : World} {A : Option Addr} {n : Nat} {xs : List α} (h : (Kd.scalar enc h1).C w A n xs) : ∀ ad, A = some ad → 0 < n → ad.block < w.heap.size := fun ad e h0 => by
  rcases Nat.lt_or_ge ad.block w.heap.size with h' | h'
  · exact h'
  · exact absurd rfl (Kd.far_C d h h' ad e h0)

/-- A step of a row with what it does to a disk. -/
abbrev StepD := StepV × (DS → Int × DS)
theorem row_disk (fs : List StepD) (n : Nat) (hn : fs.length = n) (hn9 : n ≤ 1000) (A : Addr) (c : Nat) (W0 : World) (B : Nat → Prop) (g : Nat) (D : DS) (I : Nat → DS → Prop)
    (hcells : ∀ (i : Nat) (s : StepD), fs[i]? = some s → W0.cell? (A.add i) = some s.1.val) (hA : ¬ B A.block)
    (hent : ∀ (i : Nat) (s : StepD), fs[i]? = some s → ∀ (args : Array Value) (W : World), (callFunc s.1.k args).run Try.prog W = .ok (.enter s.1.k args) W)
    (hstep : ∀ (i : Nat) (s : StepD) (W : World) (D' : DS), fs[i]? = some s → I i D' → Moved W0 B g W D' → Calls Try.prog s.1.k (s.1.bnd ++ s.1.fr) W fun e W' => e = .returned (.int .i64 (s.2 D').1) ∧ Moved W0 B g W' (s.2 D').2)
    (hI : ∀ (i : Nat) (s : StepD) (D' : DS), fs[i]? = some s → I i D' → I (i + 1) (s.2 D').2) (h0 : IsDisk W0 B g D) (hI0 : I 0 D) :
    Calls Try.prog 78 #[.slice (some A) n c] W0 fun e w' => e = .returned (.int .i64 (runD (fs.map (·.2)) D).1) ∧ Moved W0 B g w' (runD (fs.map (·.2)) D).2 := by
  have hAb : ∀ i, (A.add i).block = A.block := fun i => by unfold Addr.add; split <;> rfl
  refine (row_calls (fs.map (·.1)) n (by simpa using hn) hn9 A c W0 (fun i W => ∃ D', Moved W0 B g W D' ∧ I i D' ∧ runD (fs.map (·.2)) D = runD ((fs.drop i).map (·.2)) D')
    (fun x W => x = (runD (fs.map (·.2)) D).1 ∧ Moved W0 B g W (runD (fs.map (·.2)) D).2) ?_ ?_ ?_ ?_ ?_).mono ?_
  · rintro i s W ⟨D', m, _, _⟩ hs
    rw [List.getElem?_map] at hs
    obtain ⟨s', hs', rfl⟩ := Option.map_eq_some_iff.1 hs
    exact cellB m.fr (by rw [hAb]; exact hA) (hcells i s' hs')
  · rintro i s W hs ⟨D', m, hi, he⟩
    rw [List.getElem?_map] at hs
    obtain ⟨s', hs', rfl⟩ := Option.map_eq_some_iff.1 hs
    refine (hstep i s' W D' hs' hi m).mono ?_
    rintro e W' ⟨rfl, m'⟩
    obtain ⟨hlt, hget⟩ := List.getElem?_eq_some_iff.1 hs'
    rw [List.drop_eq_getElem_cons hlt, hget, List.map_cons, runD, seqD] at he
    refine ⟨_, rfl, fun h => ⟨_, m', hI i s' D' hs' hi, ?_⟩, fun h => ?_⟩
    · rw [he, if_pos h]
    · rw [he, if_neg h]
      exact ⟨rfl, m'⟩
  · intro i s hs
    rw [List.getElem?_map] at hs
    obtain ⟨s', hs', rfl⟩ := Option.map_eq_some_iff.1 hs
    exact hent i s' hs'
  · rintro W ⟨D', m, hi, he⟩
    rw [List.drop_eq_nil_of_le (by omega)] at he
    rw [he]
    exact ⟨rfl, m⟩
  · exact ⟨D, Moved.refl h0, hI0, by rw [List.drop_zero]⟩
  · rintro e w' ⟨x, rfl, rfl, m⟩
    exact ⟨rfl, m⟩

theorem ent14 (args : Array Value) (W : World) : (callFunc 14 args).run Try.prog W = .ok (.enter 14 args) W := enters_ Try.func14 (by kernel_rfl) rfl args W
theorem ent15 (args : Array Value) (W : World) : (callFunc 15 args).run Try.prog W = .ok (.enter 15 args) W := enters_ Try.func15 (by kernel_rfl) rfl args W
theorem ent77 (args : Array Value) (W : World) : (callFunc 77 args).run Try.prog W = .ok (.enter 77 args) W := enters_ Try.func77 (by kernel_rfl) rfl args W
theorem ent79 (args : Array Value) (W : World) : (callFunc 79 args).run Try.prog W = .ok (.enter 79 args) W := enters_ Try.func79 (by kernel_rfl) rfl args W
theorem ent80 (args : Array Value) (W : World) : (callFunc 80 args).run Try.prog W = .ok (.enter 80 args) W := enters_ Try.func80 (by kernel_rfl) rfl args W
theorem ent82 (args : Array Value) (W : World) : (callFunc 82 args).run Try.prog W = .ok (.enter 82 args) W := enters_ Try.func82 (by kernel_rfl) rfl args W
theorem ent83 (args : Array Value) (W : World) : (callFunc 83 args).run Try.prog W = .ok (.enter 83 args) W := enters_ Try.func83 (by kernel_rfl) rfl args W
theorem ent84 (args : Array Value) (W : World) : (callFunc 84 args).run Try.prog W = .ok (.enter 84 args) W := enters_ Try.func84 (by kernel_rfl) rfl args W

theorem wf0 : (Lit.int .i64 0).wf = true := by decide
/-- Write and Flush, said as 'Moved'. -/
theorem write_moved (g : Nat) (B : Nat → Prop) (D : DS) (n : Int) (A : Option Addr) (cp : Nat) (b : List Int) (w : World) (i : Nat) (h : IsDisk w B g D) (ho : JOk i D) (hi : i ≤ 500000)
    (hwf : (Lit.int .i64 n).wf = true) (hb : Kd.C (Kd.int .u8) w A b.length b) (hcap : b.length ≤ cp) (hdis : ∀ ad, A = some ad → 0 < b.length → ¬ B ad.block) :
    Calls Try.prog 14 #[.pointer (some ⟨g, 0, none⟩), .int .i64 n, .slice A b.length cp] w fun e w' => e = .returned (.int .i64 (writeD D n b).1) ∧ Moved w B g w' (writeD D n b).2 :=
  (write_calls g B D n A cp b w h ⟨by have := ho.steps.1; omega, by have := ho.steps.2; omega⟩ ho.left hwf (by have := ho.u; omega) hb hcap hdis).mono fun e w' ⟨he, ⟨B', h1, h2⟩, h3⟩ => ⟨he, B', h1, h2, h3⟩
theorem flush_moved (g : Nat) (B : Nat → Prop) (D : DS) (w : World) (i : Nat) (h : IsDisk w B g D) (ho : JOk i D) (hi : i ≤ 500000) :
    Calls Try.prog 15 #[.pointer (some ⟨g, 0, none⟩)] w fun e w' => e = .returned (.int .i64 (flushD D).1) ∧ Moved w B g w' (flushD D).2 :=
  (flush_calls g B D w h ⟨by have := ho.steps.1; omega, by have := ho.steps.2; omega⟩ ho.left (by have := ho.u; omega) (by have := ho.u; omega)).mono fun e w' ⟨he, h1, h3⟩ => ⟨he, Moved.of h1 h3⟩

set_option maxHeartbeats 4000000 in
set_option maxRecDepth 100000 in
theorem lays1_calls (g : Nat) (B : Nat → Prop) (D : DS) (A : Option Addr) (cp : Nat) (b : List Int) (n0 n1 : Nat) (w : World) (i : Nat) (h : IsDisk w B g D) (ho : JOk i D) (hi : i ≤ 500000)
    (c0 : w.cell? ⟨n0, 0, none⟩ = some (.pointer (some ⟨g, 0, none⟩))) (c1 : w.cell? ⟨n1, 0, none⟩ = some (.slice A 64 cp)) (hl : b.length = 64) (hb : Kd.C (Kd.int .u8) w A 64 b) (hcap : 64 ≤ cp) (hdis : ∀ ad, A = some ad → ¬ B ad.block) :
    Calls Try.prog 84 #[.pointer (some ⟨n0, 0, none⟩), .pointer (some ⟨n1, 0, none⟩)] w fun e w' => e = .returned (.int .i64 (writeD D 0 b).1) ∧ Moved w B g w' (writeD D 0 b).2 := by
  have WC := Aside0.mk (write_moved g B D 0 A cp b w i h ho hi wf0 (by rw [hl]; exact hb) (by rw [hl]; exact hcap) (fun ad e _ => hdis ad e))
  rw [hl] at WC
  clear h ho hl hb hdis
  go_enter Try.func84, Try.ntmps84
  go_wp2_with fail
  refine WC.out.mono ?_
  rintro e w' ⟨rfl, m⟩
  have M := Aside0.mk m
  clear m
  go_wp2_with fail
  go_ret
  exact ⟨rfl, M.out⟩

/-- The row of lays, told of any world that looks like it. -/
theorem lays_row (g : Nat) (B : Nat → Prop) (D : DS) (A : Option Addr) (cp : Nat) (b : List Int) (n0 n1 n2 c : Nat) (W : World) (i : Nat) (h : IsDisk W B g D) (ho : JOk i D) (hi : i ≤ 400000)
    (c0 : W.cell? ⟨n0, 0, none⟩ = some (.pointer (some ⟨g, 0, none⟩))) (c1 : W.cell? ⟨n1, 0, none⟩ = some (.slice A 64 cp)) (b0 : ¬ B n0) (b1 : ¬ B n1) (b2 : ¬ B n2)
    (d0 : W.cell? ⟨n2, 0, none⟩ = some (.func (.func 84) #[] #[.pointer (some ⟨n0, 0, none⟩), .pointer (some ⟨n1, 0, none⟩)])) (d1 : W.cell? ⟨n2, 1, none⟩ = some (.func (.func 15) #[.pointer (some ⟨g, 0, none⟩)] #[]))
    (hl : b.length = 64) (hb : ∀ W', Fr B W W' → Kd.C (Kd.int .u8) W' A 64 b) (hcap : 64 ≤ cp) (hdis : ∀ ad, A = some ad → ¬ B ad.block) :
    Calls Try.prog 78 #[.slice (some ⟨n2, 0, none⟩) 2 c] W fun e w' => e = .returned (.int .i64 (laysD b D).1) ∧ Moved W B g w' (laysD b D).2 := by
  refine row_disk [(⟨84, #[], #[.pointer (some ⟨n0, 0, none⟩), .pointer (some ⟨n1, 0, none⟩)]⟩, fun D => writeD D 0 b), (⟨15, #[.pointer (some ⟨g, 0, none⟩)], #[]⟩, flushD)] 2 rfl (by omega) ⟨n2, 0, none⟩ c W B g D (fun k D => JOk (i + k) D) ?_ b2 ?_ ?_ ?_ h ho
  · intro j s hs
    match j, hs with
    | 0, hs => obtain rfl := Option.some.inj hs; exact d0
    | 1, hs => obtain rfl := Option.some.inj hs; exact d1
  · intro j s hs
    match j, hs with
    | 0, hs => obtain rfl := Option.some.inj hs; exact ent84
    | 1, hs => obtain rfl := Option.some.inj hs; exact ent15
  · intro j s W' D' hs hI m
    obtain ⟨B', h', hs', f'⟩ := m
    match j, hs with
    | 0, hs =>
      obtain rfl := Option.some.inj hs
      have hC := hb W' f'
      refine (lays1_calls g B' D' A cp b n0 n1 W' _ h' hI (by omega) (cellB f' b0 c0) (cellB f' b1 c1) hl hC hcap (fun ad e hB' => (hs' _ hB').elim (hdis ad e) (fun hge => ?_))).mono fun e w' ⟨he, m'⟩ => ⟨he, m'.back hs' f'⟩
      have := farC (0 : Int) (hb W (Fr.refl _ _)) ad e (by omega)
      omega
    | 1, hs =>
      obtain rfl := Option.some.inj hs
      exact (flush_moved g B' D' W' _ h' hI (by omega)).mono fun e w' ⟨he, m'⟩ => ⟨he, m'.back hs' f'⟩
  · intro j s D' hs hI
    match j, hs with
    | 0, hs => obtain rfl := Option.some.inj hs; exact hI.write 0 b
    | 1, hs => obtain rfl := Option.some.inj hs; exact hI.flush

theorem alloc3_cells {w : World} (a b c : Array Value) (t u v : TypeId) (j : Nat) :
    (((w.alloc (.cells a t)).alloc (.cells b u)).alloc (.cells c v)).cell? ⟨w.heap.size, j, none⟩ = a[j]? ∧ (((w.alloc (.cells a t)).alloc (.cells b u)).alloc (.cells c v)).cell? ⟨w.heap.size + 1, j, none⟩ = b[j]? ∧ (((w.alloc (.cells a t)).alloc (.cells b u)).alloc (.cells c v)).cell? ⟨w.heap.size + 1 + 1, j, none⟩ = c[j]? := by
  have e1 : (w.alloc (.cells a t)).heap.size = w.heap.size + 1 := by simp
  have e2 : ((w.alloc (.cells a t)).alloc (.cells b u)).heap.size = w.heap.size + 1 + 1 := by simp
  have h0 : (((w.alloc (.cells a t)).alloc (.cells b u)).alloc (.cells c v)).heap[w.heap.size]? = some (.cells a t (0, 0)) := by
    rw [Below.heap_alloc _ _ _ (by rw [e2]; omega), Below.heap_alloc _ _ _ (by rw [e1]; omega)]
    exact heap_alloc_new _ _
  have h1 : (((w.alloc (.cells a t)).alloc (.cells b u)).alloc (.cells c v)).heap[w.heap.size + 1]? = some (.cells b u (0, 0)) := by
    rw [Below.heap_alloc _ _ _ (by rw [e2]; omega), ← e1]
    exact heap_alloc_new _ _
  have h2 : (((w.alloc (.cells a t)).alloc (.cells b u)).alloc (.cells c v)).heap[w.heap.size + 1 + 1]? = some (.cells c v (0, 0)) := by
    rw [← e2]
    exact heap_alloc_new _ _
  exact ⟨cell_of_row _ _ _ _ _ _ h0, cell_of_row _ _ _ _ _ _ h1, cell_of_row _ _ _ _ _ _ h2⟩

set_option maxHeartbeats 4000000 in
set_option maxRecDepth 100000 in
theorem lays_calls (g : Nat) (B : Nat → Prop) (D : DS) (A : Option Addr) (cp : Nat) (b : List Int) (w : World) (i : Nat) (h : IsDisk w B g D) (ho : JOk i D) (hi : i ≤ 400000)
    (hl : b.length = 64) (hb : ∀ W, Fr B w W → Kd.C (Kd.int .u8) W A 64 b) (hcap : 64 ≤ cp) (hdis : ∀ ad, A = some ad → ¬ B ad.block) :
    Calls Try.prog 65 #[.pointer (some ⟨g, 0, none⟩), .slice A 64 cp] w fun e w' => e = .returned (.int .i64 (laysD b D).1) ∧ Moved w B g w' (laysD b D).2 := by
  have H := Aside0.mk h
  have HO := Aside0.mk ho
  have HB := Aside0.mk hb
  have HD := Aside0.mk hdis
  clear h ho hb hdis
  go_enter Try.func65, Try.ntmps65
  go_wp2_with fail
  have f3 : Fr (fun _ => False) w (((w.alloc (.cells #[.pointer (some ⟨g, 0, none⟩)] 29)).alloc (.cells #[.slice A 64 cp] 22)).alloc (.cells #[.func (.func 84) #[] #[.pointer (some ⟨w.heap.size, 0, none⟩), .pointer (some ⟨w.heap.size + 1, 0, none⟩)], .func (.func 15) #[.pointer (some ⟨g, 0, none⟩)] #[]] 38)) := (((Fr.refl _ _).alloc _).alloc _).alloc _
  have hc := alloc3_cells (w := w) #[.pointer (some ⟨g, 0, none⟩)] #[.slice A 64 cp] #[.func (.func 84) #[] #[.pointer (some ⟨w.heap.size, 0, none⟩), .pointer (some ⟨w.heap.size + 1, 0, none⟩)], .func (.func 15) #[.pointer (some ⟨g, 0, none⟩)] #[]] 29 22 38
  have hnB : ∀ k, w.heap.size ≤ k → ¬ B k := fun k hk h => by have := H.out.lt k h; omega
  have RC := Aside0.mk (lays_row g B D A cp b w.heap.size (w.heap.size + 1) (w.heap.size + 1 + 1) 2 _ i (H.out.fr f3 (fun _ _ h => h)) HO.out hi (hc 0).1 (hc 0).2.1 (hnB _ (Nat.le_refl _)) (hnB _ (by omega)) (hnB _ (by omega)) (hc 0).2.2 (hc 1).2.2 hl
    (fun W' f' => HB.out W' ((f3.mono (fun _ h => h.elim)).trans f' (fun _ h => .inl h))) hcap HD.out)
  have F3 := Aside0.mk f3
  clear hc f3 hnB
  refine RC.out.mono ?_
  rintro e w' ⟨rfl, m⟩
  have M := Aside0.mk (m.ahead F3.out)
  clear m RC F3
  go_wp2_with fail
  go_ret
  exact ⟨rfl, M.out⟩
end Go.Proofs.Ytppgbfkhiofjiaa.X
