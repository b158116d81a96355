/-
  Of the proof of JournalPlays (put together by wip/tools/mkclaimj.py):
  Acts on a journal among a law's arguments, opened as lists; that their bytes are bytes.
-/
import Derived.Test.YtppgbfkhiofjiaaQC
import Derived.Deep.Grids
import Derived.SizedLaws
import Derived.ChangeArms
namespace Go.Proofs.Ytppgbfkhiofjiaa.X
open Go.ChangeShapes Go.WideShapes Go.RowKit Go.Proofs.YtppgbfkhiofjiaaW.PrintWords
set_option linter.unusedVariables false

/-- No part of a reading is larger than can be reached. -/
def W8 {H : Type} (t : TypeId) (d : DataW H) : Prop := ∀ n ∈ d.weights Try.prog t, n ≤ 140737488351232
theorem weightsAll_mem8 {H : Type} {P : Program} {e : TypeId} : ∀ {l : List (DataW H)} {d : DataW H}, d ∈ l → ∀ n ∈ d.weights P e, n ∈ DataW.weightsAll P e l
  | d' :: r, d, hd, n, hn => by
    simp only [DataW.weightsAll, List.mem_append]
    rcases List.mem_cons.1 hd with rfl | h
    · exact Or.inl hn
    · exact Or.inr (weightsAll_mem8 h n hn)
theorem W8.of_all {H : Type} {ts : List TypeId} {ds : List (DataW H)} {j : Nat} {t : TypeId} {d : DataW H} (h : (DataW.weightsEach Try.prog ts ds).all (· ≤ reachBytes) = true) (ht : ts[j]? = some t) (hd : ds[j]? = some d) : W8 t d := fun n hn => by
  have := List.all_eq_true.1 h _ (DataW.weights_mem_each ht hd n hn)
  exact of_decide_eq_true this
theorem W8.len {H : Type} {t e : TypeId} {es sp : List (DataW H)} (h : W8 t (.slice es sp)) (hu : Try.prog.underlying t = some (.slice e)) : (es.length + sp.length) * Try.prog.bytesOf e ≤ 140737488351232 := h _ (by simp [DataW.weights, hu])
theorem W8.elem {H : Type} {t e : TypeId} {es sp : List (DataW H)} (h : W8 t (.slice es sp)) (hu : Try.prog.underlying t = some (.slice e)) {d : DataW H} (hd : d ∈ es) : W8 e d := fun n hn => h n (by
  simp only [DataW.weights, hu, List.mem_cons, List.mem_append]
  exact .inr (.inl (weightsAll_mem8 hd n hn)))
theorem W8.part {H : Type} {t : TypeId} {fs : Array Field} {ps : List (DataW H)} (h : W8 t (.agg ps)) (hu : Try.prog.underlying t = some (.struct fs)) {i : Nat} {f : Field} {d : DataW H} (hf : fs[i]? = some f) (hd : ps[i]? = some d) : W8 f.type d := fun n hn => h n (by
  simp only [DataW.weights, hu]
  exact DataW.weights_mem_each (j := i) (by simp [hf]) hd n hn)

section
variable {H : Type} {enc : TypeId × Value → H} {W : World}

theorem open_bytes8 {fuel : Nat} {cs : List Value} {x : DataW H × List MemPlace} (h : DataW.trod enc Try.prog W 0 (fun _ => true) true fuel 22 cs = some x) :
    ∃ A cap, ∃ l : List Int, cs = [.slice A l.length cap] ∧ Kd.C (Kd.int .u8) W A l.length l ∧ l.length ≤ cap ∧ (∀ n ∈ l, (Lit.int .u8 n).wf = true) ∧ (W8 22 x.1 → l.length ≤ 140737488351232) := by
  have key : ∃ A len cap zs, cs = [.slice A len cap] ∧ ((A = none ∧ len = 0 ∧ cap = 0 ∧ zs = []) ∨ ∃ x, A = some x ∧ len ≤ cap ∧ cap ≤ maxLen ∧ zs.length = cap ∧ (∀ i, i < zs.length → W.cell? (x.add i) = some (.int .u8 (zs.getD i 0))) ∧ ∀ n ∈ zs, (Lit.int .u8 n).wf = true) ∧ (W8 22 x.1 → len ≤ 140737488351232) := by
    rcases open_ints Try.underlying22 Try.underlying5 (by kernel_rfl) h with ⟨hcs, _⟩ | ⟨a, l, c, zs, hcs, _, hl, hm, hz, hx, hcell, hwz⟩
    · exact ⟨none, 0, 0, [], hcs, .inl ⟨rfl, rfl, rfl, rfl⟩, fun _ => Nat.zero_le _⟩
    · refine ⟨_, l, c, zs, hcs, .inr ⟨a, rfl, hl, hm, by simpa using hz, hcell, hwz⟩, fun h8 => ?_⟩
      rw [hx] at h8
      have z := h8.len Try.underlying22
      rw [show Try.prog.bytesOf 5 = 1 by kernel_rfl] at z
      have hz' : zs.length = c := by simpa using hz
      simp [lits] at z
      omega
  obtain ⟨A, len, cap, zs, hcs, hr, h8⟩ := key
  obtain ⟨l, rfl, hr0, hm0, hw0, hc0⟩ := ReadsInt.ofRowC hr
  exact ⟨A, cap, l, hcs, Kd.C_of_reads (d := (0 : Int)) (h1 := fun _ => rfl) hr0, hc0, hw0, h8⟩

set_option maxRecDepth 100000 in
theorem open_truths8 {fuel : Nat} {cs : List Value} {x : DataW H × List MemPlace} (h : DataW.trod enc Try.prog W 0 (fun _ => true) true fuel 27 cs = some x) :
    ∃ A cap, ∃ l : List Bool, cs = [.slice A l.length cap] ∧ Kd.C Kd.bool W A l.length l ∧ l.length ≤ cap ∧ (W8 27 x.1 → l.length ≤ 140737488351232) := by
  rcases Go.Deep.open_bools Try.underlying27 Try.underlying4 (by kernel_rfl) h with ⟨hcs, _⟩ | ⟨a, len, cap, B, hcs, _, hl, hm, hx, hcell⟩
  · exact ⟨none, 0, [], hcs, Kd.C_of_reads (d := false) (h1 := fun _ => rfl) ⟨rfl, by simp, fun h => absurd h (Nat.lt_irrefl 0)⟩, Nat.le_refl _, fun _ => Nat.zero_le _⟩
  · have e : ((List.range len).map B).length = len := by simp
    refine ⟨some a, cap, (List.range len).map B, by rw [e]; exact hcs, Kd.C_of_reads (d := false) (h1 := fun _ => rfl) ⟨rfl, by rw [e]; simp only [maxLen] at hm; omega, fun _ => ⟨a, rfl, fun j hj => ?_⟩⟩, by rw [e]; exact hl, fun h8 => ?_⟩
    · rw [e] at hj
      rw [hcell j (by omega)]
      congr 2
      simp [List.getD_eq_getElem?_getD, hj]
    · rw [hx] at h8
      have z := W8.len (t := 27) (e := 4) (es := (List.range len).map fun i => .lit (.bool (B i))) (sp := (List.range (cap - len)).map fun j => .lit (.bool (B (len + j)))) h8 Try.underlying27
      rw [show Try.prog.bytesOf 4 = 1 by kernel_rfl] at z
      simp at z
      rw [e]
      omega

end
end Go.Proofs.Ytppgbfkhiofjiaa.X


namespace Go.Proofs.Ytppgbfkhiofjiaa.X
open Go.ChangeShapes Go.WideShapes Go.RowKit Go.Proofs.YtppgbfkhiofjiaaW.PrintWords Go.Proofs.Ytppgbfkhiofjiaa.Y
set_option linter.unusedVariables false
section
variable {H : Type} {enc : TypeId × Value → H} {W : World}

theorem open_nums {fuel : Nat} {cs : List Value} {x : DataW H × List MemPlace} (h : DataW.trod enc Try.prog W 0 (fun _ => true) true fuel 45 cs = some x) :
    ∃ A cap, ∃ l : List Int, cs = [.slice A l.length cap] ∧ Kd.C (Kd.int .i64) W A l.length l := by
  have key : ∃ A len cap zs, cs = [.slice A len cap] ∧ ((A = none ∧ len = 0 ∧ cap = 0 ∧ zs = []) ∨ ∃ x, A = some x ∧ len ≤ cap ∧ cap ≤ maxLen ∧ zs.length = cap ∧ (∀ i, i < zs.length → W.cell? (x.add i) = some (.int .i64 (zs.getD i 0))) ∧ ∀ n ∈ zs, (Lit.int .i64 n).wf = true) := by
    rcases open_ints Try.underlying45 Try.underlying3 (by kernel_rfl) h with ⟨hcs, _⟩ | ⟨a, l, c, zs, hcs, _, hl, hm, hz, hx, hcell, hwz⟩
    · exact ⟨none, 0, 0, [], hcs, .inl ⟨rfl, rfl, rfl, rfl⟩⟩
    · exact ⟨_, l, c, zs, hcs, .inr ⟨a, rfl, hl, hm, by simpa using hz, hcell, hwz⟩⟩
  obtain ⟨A, len, cap, zs, hcs, hr⟩ := key
  obtain ⟨l, rfl, hr0, hm0, hw0, hc0⟩ := ReadsInt.ofRowC hr
  exact ⟨A, cap, l, hcs, Kd.C_of_reads (d := (0 : Int)) (h1 := fun _ => rfl) hr0⟩

set_option maxRecDepth 100000 in
/-- One write in the cells. -/
theorem open_write {fuel : Nat} {a : Addr} {x : DataW H × List MemPlace} (h : (W.cells? 0 a 2).bind (DataW.trod enc Try.prog W 0 (fun _ => true) true fuel 105) = some x) :
    ∃ s : S105, (∃ c, c.length = 2 ∧ k105.K W s c ∧ ∀ i u, c[i]? = some u → W.cell? (a.add i) = some u) ∧ (∀ x ∈ s.f1, (Lit.int .u8 x).wf = true) ∧ (W8 105 x.1 → s.f1.length ≤ 140737488351232) := by
  rw [Option.bind_eq_some_iff] at h
  obtain ⟨cs, hcs, hx⟩ := h
  obtain ⟨_, hl, hc⟩ := World.cells?_some hcs
  obtain ⟨xs, m, rfl, rfl, _, hxl, hf⟩ := DataW.trod_struct Try.underlying105 hx
  obtain ⟨c0, c1, rfl⟩ : ∃ c0 c1, cs = [c0, c1] := by
    match cs, hl with
    | [c0, c1], _ => exact ⟨c0, c1, rfl⟩
  have hxl' : xs.length = 2 := hxl
  have e1 : Try.prog.cellsOf 3 = 1 := by kernel_rfl
  have e2 : Try.prog.cellsOf 22 = 1 := by kernel_rfl
  have t0 : DataW.trod enc Try.prog W 0 (fun _ => true) true m 3 [c0] = some (xs[0]'(by omega)) := by
    have := hf 0 _ rfl
    rw [List.getElem?_eq_getElem (by omega)] at this
    simpa [e1] using this
  have t1 : DataW.trod enc Try.prog W 0 (fun _ => true) true m 22 [c1] = some (xs[1]'(by omega)) := by
    have := hf 1 _ rfl
    rw [List.getElem?_eq_getElem (by omega)] at this
    simpa [e1, e2] using this
  obtain ⟨z0, hz0, hw0⟩ := DataW.trod_int Try.underlying3 t0
  injection hz0 with hz0
  obtain ⟨A2, p2, l2, hc2, hb2, hp2, hw2, w82⟩ := open_bytes8 t1
  injection hc2 with hc2
  subst hz0 hc2
  have g : ∀ i (hi : i < 2), W.cell? (a.add i) = [Value.int .i64 z0, .slice A2 l2.length p2][i]? := hc
  refine ⟨⟨z0, l2⟩, ⟨_, rfl, k105_mk W ⟨z0, l2⟩ hp2 hb2, fun i u hu => ?_⟩, hw2, fun h8 => w82 (h8.part Try.underlying105 (i := 1) rfl ?_)⟩
  · have hi : i < 2 := (List.getElem?_eq_some_iff.1 hu).1
    exact (g i hi).trans hu
  · rw [List.getElem?_map, List.getElem?_eq_getElem (by omega)]; rfl

/-- Writes among the arguments. -/
theorem open_writes {a0 : Option Addr} {len cap : Nat} {d : DataW H} {p : List MemPlace} (h : DataW.Trod enc Try.prog W 0 (fun _ => true) true 55 (.slice a0 len cap) d p) :
    ∃ l : List S105, len = l.length ∧ Kd.C k105 W a0 l.length l ∧ l.length ≤ 9223372036854775807 ∧ l.length ≤ cap ∧ (∀ s ∈ l, ∀ x ∈ s.f1, (Lit.int .u8 x).wf = true) ∧ (W8 55 d → l.length ≤ 4398046510976 ∧ ∀ s ∈ l, s.f1.length ≤ 140737488351232) := by
  obtain ⟨fuel, h⟩ := h
  rcases DataW.trod_slice Try.underlying55 h with ⟨hcs, hx⟩ | ⟨a, len', cap', elems, rest, m, _, hcs, hx, hb, hl, hm, hlen, hel, hsp, hns⟩
  · simp [Value.cells] at hcs
    obtain ⟨rfl, rfl, rfl⟩ := hcs
    exact ⟨[], rfl, Kd.C_nil _ _, by simp, Nat.le_refl _, fun s h => by simp at h, fun _ => ⟨by simp, fun s h => by simp at h⟩⟩
  · simp [Value.cells] at hcs
    obtain ⟨rfl, rfl, rfl⟩ := hcs
    injection hx with hx1 hx2
    subst hx1
    have e4 : Try.prog.cellsOf 105 = 2 := by kernel_rfl
    rw [e4] at hel
    have hch : ∀ i : Nat, ∃ s : S105, i < len → (∃ c, c.length = 2 ∧ k105.K W s c ∧ ∀ j u, c[j]? = some u → W.cell? ((a.add (i * 2)).add j) = some u) ∧ (∀ x ∈ s.f1, (Lit.int .u8 x).wf = true) ∧ (W8 55 (.slice (elems.map (·.1)) (rest.map (·.1))) → s.f1.length ≤ 140737488351232) := by
      intro i
      by_cases hi : i < len
      · have h1 := hel i hi
        rw [List.getElem?_eq_getElem (by omega)] at h1
        obtain ⟨s, hs, hwb, h8⟩ := open_write h1
        exact ⟨s, fun _ => ⟨hs, hwb, fun h => h8 (h.elem Try.underlying55 (List.mem_map.2 ⟨_, List.getElem_mem _, rfl⟩))⟩⟩
      · exact ⟨⟨0, []⟩, fun h => absurd h hi⟩
    obtain ⟨f, hf⟩ := Classical.skolem.1 hch
    have hl' : ((List.range len).map f).length = len := by simp
    have hml : len ≤ 9223372036854775807 := by simp only [maxLen] at hm; omega
    refine ⟨(List.range len).map f, hl'.symm, ⟨rfl, by rw [hl']; exact hml, fun _ => ⟨a, rfl, fun j q hq => ?_⟩⟩, by rw [hl']; exact hml, by rw [hl']; exact hl, fun s hs => ?_, fun h8 => ⟨?_, fun s hs => ?_⟩⟩
    · obtain ⟨hi, e⟩ := List.getElem?_eq_some_iff.1 hq
      rw [hl'] at hi
      rw [List.getElem_map, List.getElem_range] at e
      subst e
      obtain ⟨c, c1, c2, c3⟩ := (hf j hi).1
      refine ⟨c, c1, c2, fun i u hu => ?_⟩
      have := c3 i u hu
      rw [Addr.add_add] at this
      exact this
    · obtain ⟨i, hi, rfl⟩ := List.mem_map.1 hs
      exact (hf i (List.mem_range.1 hi)).2.1
    · have z := h8.len Try.underlying55
      rw [show Try.prog.bytesOf 105 = 32 by kernel_rfl] at z
      rw [hl']
      simp at z
      omega
    · obtain ⟨i, hi, rfl⟩ := List.mem_map.1 hs
      exact (hf i (List.mem_range.1 hi)).2.2 h8

/-! ### Acts on a journal -/
structure OpJ where
  kind : Int
  w : List S105
  n : Int
  keep : List Bool
  b : List Int
/-- An act of a journal's law, at an address. -/
def OpJAt (w : World) (a : Addr) (o : OpJ) : Prop :=
  w.cell? a = some (.int .i64 o.kind) ∧ w.cell? ⟨a.block, a.off + 2, none⟩ = some (.int .i64 o.n) ∧ (Lit.int .i64 o.n).wf = true ∧
  (∃ A c, w.cell? ⟨a.block, a.off + 1, none⟩ = some (.slice A o.w.length c) ∧ Kd.C k105 w A o.w.length o.w ∧ o.w.length ≤ c) ∧
  (∃ A c, w.cell? ⟨a.block, a.off + 3, none⟩ = some (.slice A o.keep.length c) ∧ Kd.C Kd.bool w A o.keep.length o.keep ∧ o.keep.length ≤ c) ∧
  (∃ A c, w.cell? ⟨a.block, a.off + 4, none⟩ = some (.slice A o.b.length c) ∧ Kd.C (Kd.int .u8) w A o.b.length o.b ∧ o.b.length ≤ c) ∧ (∀ x ∈ o.b, (Lit.int .u8 x).wf = true) ∧ (∀ s ∈ o.w, ∀ x ∈ s.f1, (Lit.int .u8 x).wf = true)
def OpsJ (w : World) (A : Option Addr) (l : List OpJ) : Prop := ∀ (i : Nat) o, l[i]? = some o → ∃ ad, A = some ad ∧ OpJAt w (ad.add (i * 5)) o
/-- What is not too long in an act. -/
def SizJ (o : OpJ) : Prop := o.b.length ≤ 140737488351232 ∧ o.keep.length ≤ 140737488351232 ∧ o.w.length ≤ 4398046510976 ∧ ∀ s ∈ o.w, s.f1.length ≤ 140737488351232

set_option maxRecDepth 100000 in
/-- One act in the cells. -/
theorem open_opj {fuel : Nat} {a : Addr} {x : DataW H × List MemPlace} (h : (W.cells? 0 a 5).bind (DataW.trod enc Try.prog W 0 (fun _ => true) true fuel 70) = some x) : ∃ o, OpJAt W a o ∧ (W8 70 x.1 → SizJ o) := by
  rw [Option.bind_eq_some_iff] at h
  obtain ⟨cs, hcs, hx⟩ := h
  obtain ⟨_, hl, hc⟩ := World.cells?_some hcs
  obtain ⟨xs, m, rfl, rfl, _, hxl, hf⟩ := DataW.trod_struct Try.underlying70 hx
  obtain ⟨c0, c1, c2, c3, c4, rfl⟩ : ∃ c0 c1 c2 c3 c4, cs = [c0, c1, c2, c3, c4] := by
    match cs, hl with
    | [c0, c1, c2, c3, c4], _ => exact ⟨c0, c1, c2, c3, c4, rfl⟩
  have hxl' : xs.length = 5 := hxl
  have e1 : Try.prog.cellsOf 3 = 1 := by kernel_rfl
  have e2 : Try.prog.cellsOf 22 = 1 := by kernel_rfl
  have e3 : Try.prog.cellsOf 27 = 1 := by kernel_rfl
  have e4 : Try.prog.cellsOf 55 = 1 := by kernel_rfl
  have t0 : DataW.trod enc Try.prog W 0 (fun _ => true) true m 3 [c0] = some (xs[0]'(by omega)) := by
    have := hf 0 _ rfl
    rw [List.getElem?_eq_getElem (by omega)] at this
    simpa [e1] using this
  have t1 : DataW.trod enc Try.prog W 0 (fun _ => true) true m 55 [c1] = some (xs[1]'(by omega)) := by
    have := hf 1 _ rfl
    rw [List.getElem?_eq_getElem (by omega)] at this
    simpa [e4] using this
  have t2 : DataW.trod enc Try.prog W 0 (fun _ => true) true m 3 [c2] = some (xs[2]'(by omega)) := by
    have := hf 2 _ rfl
    rw [List.getElem?_eq_getElem (by omega)] at this
    simpa [e1] using this
  have t3 : DataW.trod enc Try.prog W 0 (fun _ => true) true m 27 [c3] = some (xs[3]'(by omega)) := by
    have := hf 3 _ rfl
    rw [List.getElem?_eq_getElem (by omega)] at this
    simpa [e3] using this
  have t4 : DataW.trod enc Try.prog W 0 (fun _ => true) true m 22 [c4] = some (xs[4]'(by omega)) := by
    have := hf 4 _ rfl
    rw [List.getElem?_eq_getElem (by omega)] at this
    simpa [e2] using this
  obtain ⟨z0, hz0, _⟩ := DataW.trod_int Try.underlying3 t0
  obtain ⟨z2, hz2, hw2⟩ := DataW.trod_int Try.underlying3 t2
  injection hz0 with hz0
  injection hz2 with hz2
  obtain ⟨A1, p1, l1, hc1, hb1, hp1, hw1, w81⟩ : ∃ A p, ∃ l : List S105, c1 = .slice A l.length p ∧ Kd.C k105 W A l.length l ∧ l.length ≤ p ∧ (∀ s ∈ l, ∀ x ∈ s.f1, (Lit.int .u8 x).wf = true) ∧ (W8 55 (xs[1]'(by omega)).1 → l.length ≤ 4398046510976 ∧ ∀ s ∈ l, s.f1.length ≤ 140737488351232) := by
    rcases DataW.trod_slice Try.underlying55 t1 with ⟨hcs, _⟩ | ⟨a, len', cap', _, _, _, _, hcs, _⟩
    · injection hcs with hcs
      subst hcs
      obtain ⟨l, e, h1, _, h2, h4, h3⟩ := open_writes (enc := enc) (W := W) (a0 := none) (len := 0) (cap := 0) ⟨m, t1⟩
      exact ⟨none, 0, l, by rw [← e], h1, h2, h4, h3⟩
    · injection hcs with hcs
      subst hcs
      obtain ⟨l, e, h1, _, h2, h4, h3⟩ := open_writes (enc := enc) (W := W) (a0 := some a) (len := len') (cap := cap') ⟨m, t1⟩
      exact ⟨some a, cap', l, by rw [← e], h1, h2, h4, h3⟩
  obtain ⟨A3, p3, l3, hc3, hb3, hp3, w83⟩ := open_truths8 t3
  obtain ⟨A4, p4, l4, hc4, hb4, hp4, hw4, w84⟩ := open_bytes8 t4
  injection hc3 with hc3
  injection hc4 with hc4
  subst hz0 hz2 hc1 hc3 hc4
  have g : ∀ i (hi : i < 5), W.cell? (a.add i) = [Value.int .i64 z0, .slice A1 l1.length p1, .int .i64 z2, .slice A3 l3.length p3, .slice A4 l4.length p4][i]? := hc
  refine ⟨⟨z0, l1, z2, l3, l4⟩, ⟨g 0 (by omega), g 2 (by omega), hw2.2, ⟨A1, p1, g 1 (by omega), hb1, hp1⟩, ⟨A3, p3, g 3 (by omega), hb3, hp3⟩, ⟨A4, p4, g 4 (by omega), hb4, hp4⟩, hw4, hw1⟩, fun h8 => ⟨w84 (h8.part Try.underlying70 (i := 4) rfl ?_), w83 (h8.part Try.underlying70 (i := 3) rfl ?_), w81 (h8.part Try.underlying70 (i := 1) rfl ?_)⟩⟩
  all_goals (rw [List.getElem?_map, List.getElem?_eq_getElem (by omega)]; rfl)

/-- Acts among the arguments. -/
theorem open_opsj {a0 : Option Addr} {len cap : Nat} {d : DataW H} {p : List MemPlace} (h : DataW.Trod enc Try.prog W 0 (fun _ => true) true 68 (.slice a0 len cap) d p) :
    ∃ l : List OpJ, len = l.length ∧ OpsJ W a0 l ∧ l.length ≤ 9223372036854775807 ∧ (W8 68 d → ∀ o ∈ l, SizJ o) := by
  obtain ⟨fuel, h⟩ := h
  rcases DataW.trod_slice Try.underlying68 h with ⟨hcs, hx⟩ | ⟨a, len', cap', elems, rest, m, _, hcs, hx, hb, hl, hm, hlen, hel, hsp, hns⟩
  · simp [Value.cells] at hcs
    obtain ⟨rfl, rfl, rfl⟩ := hcs
    exact ⟨[], rfl, fun i o h => by simp at h, by simp, fun _ o h => by simp at h⟩
  · simp [Value.cells] at hcs
    obtain ⟨rfl, rfl, rfl⟩ := hcs
    injection hx with hx1 hx2
    subst hx1
    have e4 : Try.prog.cellsOf 70 = 5 := by kernel_rfl
    rw [e4] at hel
    have hch : ∀ i : Nat, ∃ o : OpJ, i < len → OpJAt W (a.add (i * 5)) o ∧ (W8 68 (.slice (elems.map (·.1)) (rest.map (·.1))) → SizJ o) := by
      intro i
      by_cases hi : i < len
      · have h1 := hel i hi
        rw [List.getElem?_eq_getElem (by omega)] at h1
        obtain ⟨o, ho, h8⟩ := open_opj h1
        exact ⟨o, fun _ => ⟨ho, fun h => h8 (h.elem Try.underlying68 (List.mem_map.2 ⟨_, List.getElem_mem _, rfl⟩))⟩⟩
      · exact ⟨⟨0, [], 0, [], []⟩, fun h => absurd h hi⟩
    obtain ⟨f, hf⟩ := Classical.skolem.1 hch
    have hl' : ((List.range len).map f).length = len := by simp
    refine ⟨(List.range len).map f, hl'.symm, fun i o ho => ⟨a, rfl, ?_⟩, by rw [hl']; simp only [maxLen] at hm; omega, fun h8 o ho => ?_⟩
    · obtain ⟨hi, e⟩ := List.getElem?_eq_some_iff.1 ho
      rw [hl'] at hi
      rw [List.getElem_map, List.getElem_range] at e
      subst e
      exact (hf i hi).1
    · obtain ⟨i, hi, rfl⟩ := List.mem_map.1 ho
      exact (hf i (List.mem_range.1 hi)).2 h8
end
end Go.Proofs.Ytppgbfkhiofjiaa.X
