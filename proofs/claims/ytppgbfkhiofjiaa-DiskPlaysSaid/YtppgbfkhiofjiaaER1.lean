/-
  The contracts of the reference's disk: fails, Arms, Sectors, New; and of the program's Sectors, Down, Steps.
-/
import Derived.Test.YtppgbfkhiofjiaaER0
namespace Go.Proofs.Ytppgbfkhiofjiaa.X
open Go.RowKit Go.Proofs.YtppgbfkhiofjiaaW.PrintWords Go.Proofs.YtppgbfkhiofjiaaW.PrintLast Go.Proofs.YtppgbfkhiofjiaaW.PrintMore
attribute [local go_sem] max2_int min2_int max_two min_two
set_option linter.unusedVariables false
set_option linter.unusedSimpArgs false

set_option maxHeartbeats 1000000 in
theorem fails_calls (r : Nat) (R : Nat → Prop) (D : DS) (w : World) (h : IsRef w R r D) (hs : -1 ≤ D.steps ∧ D.steps < 9223372036854775807) (hl : D.left ≤ 9223372036854775807) :
    Calls Try.prog 73 #[.pointer (some ⟨r, 0, none⟩)] w fun e w' => e = .returned (.bool (!(stepD D).1)) ∧ IsRef w' R r (stepD D).2 ∧ Fr R w w' := by
  obtain ⟨lv, pv, c0, c1, c2, c3, c4, cf, hlt⟩ := h.cells
  obtain ⟨dn, df, dc, dl, dd, ds, du⟩ := D
  dsimp only at c2 c3 c4 hs hl
  have H := Aside0.mk h
  have f2 := cf 2
  have f3 := cf 3
  have f4 := cf 4
  clear c0 c1 cf h
  obtain ⟨hs1, hs2⟩ := hs
  by_cases h0 : dl = 0
  · subst h0
    go_enter Try.func73, Try.ntmps73
    go_wp2
    go_ret
    have p := H.out.putDown true
    exact ⟨rfl, p.1, p.2⟩
  · by_cases h1 : 0 < dl
    · have R : Aside0 (stepD ⟨dn, df, dc, dl, dd, ds, du⟩ = (true, ⟨dn, df, dc, dl - 1, dd, ds + 1, du⟩)) := ⟨by simp [stepD, h0, h1]⟩
      go_enter Try.func73, Try.ntmps73
      go_wp2
      go_ret
      have p := H.out.putLeft (dl - 1)
      have q := p.1.putSteps (ds + 1)
      rw [R.out]
      exact ⟨rfl, q.1, p.2.trans q.2 (fun _ h => .inl h)⟩
    · have R : Aside0 (stepD ⟨dn, df, dc, dl, dd, ds, du⟩ = (true, ⟨dn, df, dc, dl, dd, ds + 1, du⟩)) := ⟨by simp [stepD, h0, h1]⟩
      go_enter Try.func73, Try.ntmps73
      go_wp2
      go_ret
      have q := H.out.putSteps (ds + 1)
      rw [R.out]
      exact ⟨rfl, q.1, q.2⟩

set_option maxHeartbeats 1000000 in
theorem arms_calls (r : Nat) (R : Nat → Prop) (D : DS) (n : Int) (w : World) (h : IsRef w R r D) :
    Calls Try.prog 52 #[.pointer (some ⟨r, 0, none⟩), .int .i64 n] w fun e w' => e = .returned (.tuple #[]) ∧ IsRef w' R r { D with left := if n < -1 then -1 else n } ∧ Fr R w w' := by
  obtain ⟨lv, pv, c0, c1, c2, c3, c4, cf, hlt⟩ := h.cells
  have H := Aside0.mk h
  have f2 := cf 2
  clear c0 c1 c3 c4 cf h
  rcases Int.lt_trichotomy n (-1) with h1 | rfl | h1
  · go_enter Try.func52, Try.ntmps52
    go_wp2
    go_end0
    have p := H.out.putLeft (-1)
    exact ⟨rfl, p.1, p.2⟩
  · go_enter Try.func52, Try.ntmps52
    go_wp2
    all_goals
      go_end0
      have p := H.out.putLeft (-1)
      exact ⟨rfl, p.1, p.2⟩
  · have h2 : ¬ n < -1 := by omega
    have h3 : -1 ≤ n := by omega
    have h4 : ¬ n ≤ -1 := by omega
    go_enter Try.func52, Try.ntmps52
    go_wp2
    go_end0
    have p := H.out.putLeft n
    exact ⟨rfl, p.1, p.2⟩

set_option maxHeartbeats 1000000 in
theorem rsectors_calls (r : Nat) (R : Nat → Prop) (D : DS) (w : World) (h : IsRef w R r D) :
    Calls Try.prog 25 #[.pointer (some ⟨r, 0, none⟩)] w fun e w' => e = .returned (.int .i64 D.n) ∧ Drawn0 w w' := by
  obtain ⟨lv, pv, c0, c1, c2, c3, c4, cf, hlt⟩ := h.cells
  obtain ⟨lv', pv', lb, qs, n, h1, h2, h3, h4, h5, h6, h7, h8, h9, h10, h11, h12, h13⟩ := h
  obtain ⟨A, c, hv, _⟩ := q_slice (q_of_own h8)
  rw [cell_of_row w r _ _ 81 (0, 0) h1] at c0
  have e : lv' = lv := by simpa using c0
  subst e
  have c0 : w.cell? ⟨r, 0, none⟩ = some (.slice A (n * 64) c) := by
    rw [cell_of_row w r _ _ 81 (0, 0) h1, ← hv]
    rfl
  rw [h5]
  clear c1 c2 c3 c4 cf h1 h2 h3 h4 h5 h8 h9 h10 h11 h12 h13 hv
  go_enter Try.func25, Try.ntmps25
  go_wp2
  go_ret
  exact ⟨rfl, Drawn0.refl _⟩

set_option maxHeartbeats 1000000 in
theorem sectors_calls (g : Nat) (B : Nat → Prop) (D : DS) (w : World) (h : IsDisk w B g D) :
    Calls Try.prog 53 #[.pointer (some ⟨g, 0, none⟩)] w fun e w' => e = .returned (.int .i64 D.n) ∧ Drawn0 w w' := by
  obtain ⟨m, cv, c0, c1, c2, c3, c4, c5, cf, hlt, _, _, _, _, _⟩ := h.cells
  clear c1 c2 c3 c4 c5 cf h
  go_enter Try.func53, Try.ntmps53
  go_wp2
  go_ret
  exact ⟨rfl, Drawn0.refl _⟩
set_option maxHeartbeats 1000000 in
theorem down_calls (g : Nat) (B : Nat → Prop) (D : DS) (w : World) (h : IsDisk w B g D) :
    Calls Try.prog 39 #[.pointer (some ⟨g, 0, none⟩)] w fun e w' => e = .returned (.bool D.down) ∧ Drawn0 w w' := by
  obtain ⟨m, cv, c0, c1, c2, c3, c4, c5, cf, hlt, _, _, _, _, _⟩ := h.cells
  clear c0 c1 c2 c3 c5 cf h
  go_enter Try.func39, Try.ntmps39
  go_wp2
  go_ret
  exact ⟨rfl, Drawn0.refl _⟩
set_option maxHeartbeats 1000000 in
theorem steps_calls (g : Nat) (B : Nat → Prop) (D : DS) (w : World) (h : IsDisk w B g D) :
    Calls Try.prog 38 #[.pointer (some ⟨g, 0, none⟩)] w fun e w' => e = .returned (.int .i64 D.steps) ∧ Drawn0 w w' := by
  obtain ⟨m, cv, c0, c1, c2, c3, c4, c5, cf, hlt, _, _, _, _, _⟩ := h.cells
  clear c0 c1 c2 c3 c4 cf h
  go_enter Try.func38, Try.ntmps38
  go_wp2
  go_ret
  exact ⟨rfl, Drawn0.refl _⟩

theorem zeros_rows (n k : Nat) (hk : k < n) : ((List.replicate (n * 64) (0 : Int)).drop (k * 64)).take 64 = zeros64 := by
  rw [List.drop_replicate, List.take_replicate]
  unfold zeros64
  congr 1
  omega
theorem newRef_is (n : Nat) (h1 : 1 ≤ n) (h2 : n ≤ 4096) (w : World) :
    IsRef ((w.alloc (.cells (madeCells #[.int .u8 0] (n * 64)) 5)).alloc (.cells #[.slice (some ⟨w.heap.size, 0, none⟩) (n * 64) (n * 64), .slice none 0 0, .int .i64 (-1), .bool false, .int .i64 0] 81)) (fun k => w.heap.size ≤ k ∧ k < w.heap.size + 2) (w.heap.size + 1) (newD n) := by
  have hm : ((w.alloc (.cells (madeCells #[.int .u8 0] (n * 64)) 5)).alloc (.cells #[.slice (some ⟨w.heap.size, 0, none⟩) (n * 64) (n * 64), .slice none 0 0, .int .i64 (-1), .bool false, .int .i64 0] 81)).heap[w.heap.size]? = some (.cells (madeCells #[.int .u8 0] (n * 64)) 5 (0, 0)) := heap_alloc2_old _ _ _
  refine ⟨.slice (some ⟨w.heap.size, 0, none⟩) (n * 64) (n * 64), .slice none 0 0, List.replicate (n * 64) 0, [], n, heap_alloc2_new _ _ _, ⟨by omega, by omega⟩, fun k e => ?_, (fun k e => by cases e), rfl, h1, h2, ⟨by simp [nums], .inr ⟨w.heap.size, n * 64, _, rfl, Nat.zero_le _, hm, Nat.le_refl _, by unfold maxLen; omega, by rw [size_madeCells, Nat.mul_one], ?_⟩⟩, fun k hk => zeros_rows n k hk, ⟨rfl, .inl ⟨rfl, rfl⟩⟩, ⟨rfl, fun i p q hp => by simp [newD] at hp⟩, (fun p hp => by cases hp), fun k hk => by simp; omega⟩
  · have e2 : w.heap.size = k := by simpa [Value.ownBlock] using e
    exact ⟨by omega, by omega⟩
  · rw [toList_madeCells_one, Nat.mul_one, List.take_of_length_le (by simp)]
    simp [nums]
set_option maxHeartbeats 1000000 in
theorem rnew_calls (n : Nat) (w : World) (h1 : 1 ≤ n) (h2 : n ≤ 4096) :
    Calls Try.prog 21 #[.int .i64 (n : Int)] w fun e w' => ∃ r, e = .returned (.tuple #[.pointer (some ⟨r, 0, none⟩), .int .i64 0]) ∧ (∃ R, IsRef w' R r (newD n) ∧ ∀ k, R k → w.heap.size ≤ k) ∧ Below w.heap.size w w' := by
  have hmk : ∀ w, (Instr.makeSlice 22 (.int .i64 ((n : Int) * 64)) (.int .i64 ((n : Int) * 64))).run Try.prog w = .ok (.slice (some ⟨w.heap.size, 0, none⟩) (n * 64) (n * 64)) (w.alloc (.cells (madeCells #[.int .u8 0] (n * 64)) 5)) := fun w => by
    have h := run_make_row' (P := Try.prog) 22 5 (.int .u8 0) 1 Try.underlying22 info5 rfl .i64 .i64 (n * 64) (by omega) (by omega) w
    rwa [Int.natCast_mul] at h
  have i1 : (1 : Int) ≤ (n : Int) := by omega
  have i2 : (n : Int) ≤ 4096 := by omega
  go_enter Try.func21, Try.ntmps21
  go_wp2
  go_ret2
  exact ⟨w.heap.size + 1, rfl, ⟨_, newRef_is n h1 h2 w, fun k hk => hk.1⟩, ((Below.refl _ _).alloc (Nat.le_refl _) _).alloc (by simp) _⟩
theorem rnew_bad (n : Int) (w : World) (h1 : ¬ (1 ≤ n ∧ n ≤ 4096)) :
    Calls Try.prog 21 #[.int .i64 n] w fun e w' => e = .returned (.tuple #[.pointer none, .int .i64 2]) ∧ Below w.heap.size w w' := by
  by_cases h2 : 1 ≤ n
  · have h3 : 4096 < n := by omega
    go_enter Try.func21, Try.ntmps21
    go_wp2
    go_ret2
    exact ⟨rfl, Below.refl _ _⟩
  · have h3 : n < 1 := by omega
    go_enter Try.func21, Try.ntmps21
    go_wp2
    go_ret2
    exact ⟨rfl, Below.refl _ _⟩
end Go.Proofs.Ytppgbfkhiofjiaa.X
