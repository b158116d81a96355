/-
  Slices of texts and slices of changes among a law's arguments, opened as lists; and how long they can be.
-/
import Derived.Test.YtpkhfeeelkhkaaaX0
import Derived.Test.YtpkhfeeelkhkaaaWSized
import Derived.SliceStrings
import Derived.SizedLaws
import Derived.ChangeArms
namespace Go.Proofs.Ytpkhfeeelkhkaaa.X
open Go.ChangeShapes Go.WideShapes Go.RowKit Go.Proofs.YtpkhfeeelkhkaaaW.PrintWords
set_option linter.unusedVariables false

section
variable {H : Type} {enc : TypeId × Value → H} {W : World}

/-- A slice of texts among the arguments. -/
theorem open_texts {a0 : Option Addr} {len cap : Nat} {d : DataW H} {p : List MemPlace} (h : DataW.Trod enc Try.prog W 0 (fun _ => true) true 23 (.slice a0 len cap) d p) :
    ∃ l : List ByteArray, len = l.length ∧ Kd.C Kd.string W a0 l.length l ∧ l.length ≤ cap ∧ (d = .nil ∧ l.length = 0 ∨ ∃ es sp, d = .slice es sp ∧ es.length = l.length) := by
  obtain ⟨fuel, h⟩ := h
  rcases open_strings Try.underlying23 Try.underlying9 (by kernel_rfl) h with ⟨hcs, hx⟩ | ⟨a, len', cap', ss, hcs, _, hl, hm, hz, hx, hcell, hsz⟩
  · simp [Value.cells] at hcs
    obtain ⟨rfl, rfl, rfl⟩ := hcs
    injection hx with hx1 hx2
    exact ⟨[], rfl, ⟨rfl, by simp, fun h => absurd h (Nat.lt_irrefl 0)⟩, Nat.le_refl _, .inl ⟨hx1, rfl⟩⟩
  · simp [Value.cells] at hcs
    obtain ⟨rfl, rfl, rfl⟩ := hcs
    simp only [if_true] at hz
    injection hx with hx1 hx2
    have hlen : (ss.take len).length = len := by rw [List.length_take]; omega
    refine ⟨ss.take len, hlen.symm, ⟨rfl, by rw [hlen]; simp only [maxLen] at hm; omega, fun _ => ⟨a, rfl, fun j s hj => ?_⟩⟩, by rw [hlen]; exact hl, .inr ⟨_, _, hx1, by simp [strs]⟩⟩
    obtain ⟨hj1, hj2⟩ := List.getElem?_eq_some_iff.1 hj
    rw [hlen] at hj1
    refine ⟨[.string s], rfl, rfl, fun i u hu => ?_⟩
    cases i with
    | succ i => simp at hu
    | zero =>
      have hu' : Value.string s = u := by simpa using hu
      subst hu'
      have h1 := hcell j (by omega)
      have h2 : ss.getD j ByteArray.empty = s := by
        rw [List.getElem_take] at hj2
        rw [List.getD_eq_getElem?_getD, List.getElem?_eq_getElem (by omega), hj2]
        rfl
      rw [h2] at h1
      show W.cell? (a.add (j * 1 + 0)) = _
      rw [show j * 1 + 0 = j by omega]
      exact h1

/-- One change in the cells. -/
theorem open_change {fuel : Nat} {a : Addr} {x : DataW H × List MemPlace} (h : (W.cells? 0 a 4).bind (DataW.trod enc Try.prog W 0 (fun _ => true) true fuel 54) = some x) :
    ∃ c : S54, ∀ i u, ([.int .i64 c.f0, .int .i64 c.f1, .int .i64 c.f2, .int .i64 c.f3] : List Value)[i]? = some u → W.cell? (a.add i) = some u := by
  rw [Option.bind_eq_some_iff] at h
  obtain ⟨cs, hcs, hx⟩ := h
  obtain ⟨_, hl, hc⟩ := World.cells?_some hcs
  obtain ⟨xs, m, rfl, rfl, _, hxl, hf⟩ := DataW.trod_struct Try.underlying54 hx
  obtain ⟨c0, c1, c2, c3, rfl⟩ : ∃ c0 c1 c2 c3, cs = [c0, c1, c2, c3] := by
    match cs, hl with
    | [c0, c1, c2, c3], _ => exact ⟨c0, c1, c2, c3, rfl⟩
  have hxl' : xs.length = 4 := hxl
  have g : ∀ i (hi : i < 4) (v : Value), [c0, c1, c2, c3][i]? = some v → DataW.trod enc Try.prog W 0 (fun _ => true) true m 3 [v] = some (xs[i]'(by omega)) → ∃ z, v = .int .i64 z := by
    intro i hi v hv ht
    obtain ⟨z, hz, _⟩ := DataW.trod_int Try.underlying3 ht
    injection hz with hz
    exact ⟨z, hz⟩
  have e1 : Try.prog.cellsOf 3 = 1 := by kernel_rfl
  obtain ⟨z0, rfl⟩ := g 0 (by omega) c0 rfl (by have := hf 0 _ rfl; rw [List.getElem?_eq_getElem (by omega)] at this; simpa [e1] using this)
  obtain ⟨z1, rfl⟩ := g 1 (by omega) c1 rfl (by have := hf 1 _ rfl; rw [List.getElem?_eq_getElem (by omega)] at this; simpa [e1] using this)
  obtain ⟨z2, rfl⟩ := g 2 (by omega) c2 rfl (by have := hf 2 _ rfl; rw [List.getElem?_eq_getElem (by omega)] at this; simpa [e1] using this)
  obtain ⟨z3, rfl⟩ := g 3 (by omega) c3 rfl (by have := hf 3 _ rfl; rw [List.getElem?_eq_getElem (by omega)] at this; simpa [e1] using this)
  refine ⟨⟨z0, z1, z2, z3⟩, fun i u hu => ?_⟩
  have hi := (List.getElem?_eq_some_iff.1 hu).1
  rw [← hu]
  exact hc i hi

/-- A slice of changes among the arguments. -/
theorem open_changes {a0 : Option Addr} {len cap : Nat} {d : DataW H} {p : List MemPlace} (h : DataW.Trod enc Try.prog W 0 (fun _ => true) true 22 (.slice a0 len cap) d p) :
    ∃ l : List S54, len = l.length ∧ Kd.C k54 W a0 l.length l ∧ l.length ≤ cap ∧ (d = .nil ∧ l.length = 0 ∨ ∃ es sp, d = .slice es sp ∧ es.length = l.length) := by
  obtain ⟨fuel, h⟩ := h
  rcases DataW.trod_slice Try.underlying22 h with ⟨hcs, hx⟩ | ⟨a, len', cap', elems, rest, m, _, hcs, hx, hb, hl, hm, hlen, hel, hsp, hns⟩
  · simp [Value.cells] at hcs
    obtain ⟨rfl, rfl, rfl⟩ := hcs
    injection hx with hx1 hx2
    exact ⟨[], rfl, ⟨rfl, by simp, fun h => absurd h (Nat.lt_irrefl 0)⟩, Nat.le_refl _, .inl ⟨hx1, rfl⟩⟩
  · simp [Value.cells] at hcs
    obtain ⟨rfl, rfl, rfl⟩ := hcs
    injection hx with hx1 hx2
    have e4 : Try.prog.cellsOf 54 = 4 := by kernel_rfl
    rw [e4] at hel
    have hch : ∀ i : Nat, ∃ c : S54, i < len → ∀ j u, ([.int .i64 c.f0, .int .i64 c.f1, .int .i64 c.f2, .int .i64 c.f3] : List Value)[j]? = some u → W.cell? ((a.add (i * 4)).add j) = some u := by
      intro i
      by_cases hi : i < len
      · have h1 := hel i hi
        rw [List.getElem?_eq_getElem (by omega)] at h1
        obtain ⟨c, hc⟩ := open_change h1
        exact ⟨c, fun _ => hc⟩
      · exact ⟨z54, fun h => absurd h hi⟩
    obtain ⟨f, hf⟩ := Classical.skolem.1 hch
    have hl' : ((List.range len).map f).length = len := by simp
    refine ⟨(List.range len).map f, hl'.symm, ⟨rfl, by rw [hl']; simp only [maxLen] at hm; omega, fun _ => ⟨a, rfl, fun j c hj => ?_⟩⟩, by rw [hl']; exact hl, .inr ⟨_, _, hx1, by rw [hl', List.length_map, hlen]⟩⟩
    obtain ⟨hj1, hj2⟩ := List.getElem?_eq_some_iff.1 hj
    rw [hl'] at hj1
    rw [List.getElem_map, List.getElem_range] at hj2
    subst hj2
    refine ⟨[.int .i64 (f j).f0, .int .i64 (f j).f1, .int .i64 (f j).f2, .int .i64 (f j).f3], rfl, k54_mk _ _, fun i u hu => ?_⟩
    have h1 := hf j hj1 i u hu
    show W.cell? (a.add (j * 4 + i)) = _
    rw [← h1]
    congr 1
    unfold Addr.add
    by_cases hj0 : j * 4 = 0
    · rw [hj0, Nat.zero_add, if_pos rfl]
    · by_cases hi0 : i = 0
      · subst hi0
        simp
      · rw [if_neg hj0, if_neg (by omega), if_neg hi0]
        simp only [Nat.add_assoc]

/-- How long such a slice can be. -/
theorem len_sized {ts : List TypeId} {ds : List (DataW H)} {j : Nat} {t e : TypeId} {d : DataW H} {n B : Nat} (hsz : (DataW.weightsEach Try.prog ts ds).all (· ≤ reachBytes) = true) (ht : ts[j]? = some t) (hd : ds[j]? = some d)
    (hu : Try.prog.underlying t = some (.slice e)) (hB : Try.prog.bytesOf e = B) (h : d = .nil ∧ n = 0 ∨ ∃ es sp, d = .slice es sp ∧ es.length = n) : n * B ≤ 140737488351232 := by
  rcases h with ⟨_, rfl⟩ | ⟨es, sp, rfl, rfl⟩
  · simp
  · have z := sized_slice hsz ht hd hu
    rw [hB] at z
    exact Nat.le_trans (Nat.mul_le_mul_right _ (Nat.le_add_right _ _)) z
end
end Go.Proofs.Ytpkhfeeelkhkaaa.X
