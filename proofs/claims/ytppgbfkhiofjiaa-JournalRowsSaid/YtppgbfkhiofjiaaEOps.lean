/-
  Acts, bytes and truths among a law's arguments, opened as lists.
-/
import Derived.Test.YtppgbfkhiofjiaaED7
import Derived.Deep.Grids
import Derived.SizedLaws
import Derived.ChangeArms
namespace Go.Proofs.Ytppgbfkhiofjiaa.X
open Go.ChangeShapes Go.WideShapes Go.RowKit Go.Proofs.YtppgbfkhiofjiaaW.PrintWords
set_option linter.unusedVariables false
section
variable {H : Type} {enc : TypeId × Value → H} {W : World}

theorem open_bytes {fuel : Nat} {cs : List Value} {x : DataW H × List MemPlace} (h : DataW.trod enc Try.prog W 0 (fun _ => true) true fuel 22 cs = some x) :
    ∃ A cap, ∃ l : List Int, cs = [.slice A l.length cap] ∧ Kd.C (Kd.int .u8) W A l.length l ∧ l.length ≤ cap ∧ ∀ n ∈ l, (Lit.int .u8 n).wf = true := by
  have key : ∃ A len cap zs, cs = [.slice A len cap] ∧ ((A = none ∧ len = 0 ∧ cap = 0 ∧ zs = []) ∨ ∃ x, A = some x ∧ len ≤ cap ∧ cap ≤ maxLen ∧ zs.length = cap ∧ (∀ i, i < zs.length → W.cell? (x.add i) = some (.int .u8 (zs.getD i 0))) ∧ ∀ n ∈ zs, (Lit.int .u8 n).wf = true) := by
    rcases open_ints Try.underlying22 Try.underlying5 (by kernel_rfl) h with ⟨hcs, _⟩ | ⟨a, l, c, zs, hcs, _, hl, hm, hz, _, hcell, hwz⟩
    · exact ⟨none, 0, 0, [], hcs, .inl ⟨rfl, rfl, rfl, rfl⟩⟩
    · exact ⟨_, l, c, zs, hcs, .inr ⟨a, rfl, hl, hm, by simpa using hz, hcell, hwz⟩⟩
  obtain ⟨A, len, cap, zs, hcs, hr⟩ := key
  obtain ⟨l, rfl, hr0, hm0, hw0, hc0⟩ := ReadsInt.ofRowC hr
  exact ⟨A, cap, l, hcs, Kd.C_of_reads (d := (0 : Int)) (h1 := fun _ => rfl) hr0, hc0, hw0⟩

set_option maxRecDepth 100000 in
theorem open_truths {fuel : Nat} {cs : List Value} {x : DataW H × List MemPlace} (h : DataW.trod enc Try.prog W 0 (fun _ => true) true fuel 27 cs = some x) :
    ∃ A cap, ∃ l : List Bool, cs = [.slice A l.length cap] ∧ Kd.C Kd.bool W A l.length l ∧ l.length ≤ cap := by
  rcases Go.Deep.open_bools Try.underlying27 Try.underlying4 (by kernel_rfl) h with ⟨hcs, _⟩ | ⟨a, len, cap, B, hcs, _, hl, hm, _, hcell⟩
  · exact ⟨none, 0, [], hcs, Kd.C_of_reads (d := false) (h1 := fun _ => rfl) ⟨rfl, by simp, fun h => absurd h (Nat.lt_irrefl 0)⟩, Nat.le_refl _⟩
  · have e : ((List.range len).map B).length = len := by simp
    refine ⟨some a, cap, (List.range len).map B, by rw [e]; exact hcs, Kd.C_of_reads (d := false) (h1 := fun _ => rfl) ⟨rfl, by rw [e]; simp only [maxLen] at hm; omega, fun _ => ⟨a, rfl, fun j hj => ?_⟩⟩, by rw [e]; exact hl⟩
    rw [e] at hj
    rw [hcell j (by omega)]
    congr 2
    simp [List.getD_eq_getElem?_getD, hj]

set_option maxRecDepth 100000 in
/-- One act in the cells. -/
theorem open_op {fuel : Nat} {a : Addr} {x : DataW H × List MemPlace} (h : (W.cells? 0 a 4).bind (DataW.trod enc Try.prog W 0 (fun _ => true) true fuel 36) = some x) : ∃ o, OpAt W a o := by
  rw [Option.bind_eq_some_iff] at h
  obtain ⟨cs, hcs, hx⟩ := h
  obtain ⟨_, hl, hc⟩ := World.cells?_some hcs
  obtain ⟨xs, m, rfl, rfl, _, hxl, hf⟩ := DataW.trod_struct Try.underlying36 hx
  obtain ⟨c0, c1, c2, c3, rfl⟩ : ∃ c0 c1 c2 c3, cs = [c0, c1, c2, c3] := by
    match cs, hl with
    | [c0, c1, c2, c3], _ => exact ⟨c0, c1, c2, c3, rfl⟩
  have hxl' : xs.length = 4 := hxl
  have e1 : Try.prog.cellsOf 3 = 1 := by kernel_rfl
  have e2 : Try.prog.cellsOf 22 = 1 := by kernel_rfl
  have e3 : Try.prog.cellsOf 27 = 1 := by kernel_rfl
  have t0 : DataW.trod enc Try.prog W 0 (fun _ => true) true m 3 [c0] = some (xs[0]'(by omega)) := by
    have := hf 0 _ rfl
    rw [List.getElem?_eq_getElem (by omega)] at this
    simpa [e1] using this
  have t1 : DataW.trod enc Try.prog W 0 (fun _ => true) true m 3 [c1] = some (xs[1]'(by omega)) := by
    have := hf 1 _ rfl
    rw [List.getElem?_eq_getElem (by omega)] at this
    simpa [e1] using this
  have t2 : DataW.trod enc Try.prog W 0 (fun _ => true) true m 22 [c2] = some (xs[2]'(by omega)) := by
    have := hf 2 _ rfl
    rw [List.getElem?_eq_getElem (by omega)] at this
    simpa [e2] using this
  have t3 : DataW.trod enc Try.prog W 0 (fun _ => true) true m 27 [c3] = some (xs[3]'(by omega)) := by
    have := hf 3 _ rfl
    rw [List.getElem?_eq_getElem (by omega)] at this
    simpa [e3] using this
  obtain ⟨z0, hz0, _⟩ := DataW.trod_int Try.underlying3 t0
  obtain ⟨z1, hz1, hw1⟩ := DataW.trod_int Try.underlying3 t1
  injection hz0 with hz0
  injection hz1 with hz1
  obtain ⟨A2, p2, l2, hc2, hb2, hp2, hw2⟩ := open_bytes t2
  obtain ⟨A3, p3, l3, hc3, hb3, hp3⟩ := open_truths t3
  injection hc2 with hc2
  injection hc3 with hc3
  subst hz0 hz1 hc2 hc3
  have g : ∀ i (hi : i < 4), W.cell? (a.add i) = [Value.int .i64 z0, .int .i64 z1, .slice A2 l2.length p2, .slice A3 l3.length p3][i]? := hc
  refine ⟨⟨z0, z1, l2, l3⟩, g 0 (by omega), g 1 (by omega), hw1.2, ⟨A2, p2, g 2 (by omega), hb2, hp2⟩, hw2, ⟨A3, p3, g 3 (by omega), hb3, hp3⟩⟩

/-- Acts among the arguments. -/
theorem open_ops {a0 : Option Addr} {len cap : Nat} {d : DataW H} {p : List MemPlace} (h : DataW.Trod enc Try.prog W 0 (fun _ => true) true 26 (.slice a0 len cap) d p) :
    ∃ l : List OpV, len = l.length ∧ Ops W a0 l ∧ l.length ≤ 9223372036854775807 := by
  obtain ⟨fuel, h⟩ := h
  rcases DataW.trod_slice Try.underlying26 h with ⟨hcs, hx⟩ | ⟨a, len', cap', elems, rest, m, _, hcs, hx, hb, hl, hm, hlen, hel, hsp, hns⟩
  · simp [Value.cells] at hcs
    obtain ⟨rfl, rfl, rfl⟩ := hcs
    exact ⟨[], rfl, fun i o h => by simp at h, by simp⟩
  · simp [Value.cells] at hcs
    obtain ⟨rfl, rfl, rfl⟩ := hcs
    have e4 : Try.prog.cellsOf 36 = 4 := by kernel_rfl
    rw [e4] at hel
    have hch : ∀ i : Nat, ∃ o : OpV, i < len → OpAt W (a.add (i * 4)) o := by
      intro i
      by_cases hi : i < len
      · have h1 := hel i hi
        rw [List.getElem?_eq_getElem (by omega)] at h1
        obtain ⟨o, ho⟩ := open_op h1
        exact ⟨o, fun _ => ho⟩
      · exact ⟨⟨0, 0, [], []⟩, fun h => absurd h hi⟩
    obtain ⟨f, hf⟩ := Classical.skolem.1 hch
    have hl' : ((List.range len).map f).length = len := by simp
    refine ⟨(List.range len).map f, hl'.symm, fun i o ho => ⟨a, rfl, ?_⟩, by rw [hl']; simp only [maxLen] at hm; omega⟩
    obtain ⟨hi, e⟩ := List.getElem?_eq_some_iff.1 ho
    rw [hl'] at hi
    rw [List.getElem_map, List.getElem_range] at e
    subst e
    exact hf i hi
end
end Go.Proofs.Ytppgbfkhiofjiaa.X
