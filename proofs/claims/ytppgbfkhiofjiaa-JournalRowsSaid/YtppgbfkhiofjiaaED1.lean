/-
  The contracts of look, step and Arm, and of New.
-/
import Derived.Test.YtppgbfkhiofjiaaED0
import Derived.Outline
namespace Go.Proofs.Ytppgbfkhiofjiaa.X
open Go.RowKit Go.Proofs.YtppgbfkhiofjiaaW.PrintWords Go.Proofs.YtppgbfkhiofjiaaW.PrintLast Go.Proofs.YtppgbfkhiofjiaaW.PrintMore
attribute [local go_sem] max2_int min2_int max_two min_two
set_option linter.unusedVariables false
set_option linter.unusedSimpArgs false

/-- What is wrong with a sector's number, or the power. -/
def lookD (D : DS) (n : Int) : Int := if D.down = true then 230 else if n < 0 then 2 else if D.n ≤ n then 2 else 0

set_option maxHeartbeats 1000000 in
theorem look_calls (g : Nat) (B : Nat → Prop) (D : DS) (n : Int) (w : World) (h : IsDisk w B g D) :
    Calls Try.prog 43 #[.pointer (some ⟨g, 0, none⟩), .int .i64 n] w fun e w' => e = .returned (.int .i64 (lookD D n)) ∧ Drawn0 w w' := by
  obtain ⟨m, cv, c0, c1, c2, c3, c4, c5, cf, hlt, _, _, _, _, _⟩ := h.cells
  obtain ⟨dn, df, dc, dl, dd, ds, du⟩ := D
  dsimp only at c0 c1 c2 c3 c4 c5
  clear c1 c2 c3 c5 cf h
  cases dd with
  | true =>
    go_enter Try.func43, Try.ntmps43
    go_wp2
    go_ret
    exact ⟨rfl, Drawn0.refl _⟩
  | false =>
    by_cases h1 : n < 0
    · have R : Aside0 (lookD ⟨dn, df, dc, dl, false, ds, du⟩ n = 2) := ⟨by simp [lookD, h1]⟩
      go_enter Try.func43, Try.ntmps43
      go_wp2
      go_ret
      exact ⟨by rw [R.out]; rfl, Drawn0.refl _⟩
    · by_cases h2 : dn ≤ n
      · have R : Aside0 (lookD ⟨dn, df, dc, dl, false, ds, du⟩ n = 2) := ⟨by simp [lookD, h2]⟩
        go_enter Try.func43, Try.ntmps43
        go_wp2
        go_ret
        exact ⟨by rw [R.out]; rfl, Drawn0.refl _⟩
      · have R : Aside0 (lookD ⟨dn, df, dc, dl, false, ds, du⟩ n = 0) := ⟨by simp [lookD, h1, h2]⟩
        go_enter Try.func43, Try.ntmps43
        go_wp2
        go_ret
        exact ⟨by rw [R.out]; rfl, Drawn0.refl _⟩

/-- A step: false, and the power fails; or true, and it is counted. -/
def stepD (D : DS) : Bool × DS := if D.left = 0 then (false, { D with down := true }) else (true, { D with left := if 0 < D.left then D.left - 1 else D.left, steps := D.steps + 1 })

set_option maxHeartbeats 1000000 in
theorem step_calls (g : Nat) (B : Nat → Prop) (D : DS) (w : World) (h : IsDisk w B g D) (hs : -1 ≤ D.steps ∧ D.steps < 9223372036854775807) (hl : D.left ≤ 9223372036854775807) :
    Calls Try.prog 44 #[.pointer (some ⟨g, 0, none⟩)] w fun e w' => e = .returned (.bool (stepD D).1) ∧ IsDisk w' B g (stepD D).2 ∧ Fr B w w' := by
  obtain ⟨m, cv, c0, c1, c2, c3, c4, c5, cf, hlt, _, _, _, _, _⟩ := h.cells
  obtain ⟨dn, df, dc, dl, dd, ds, du⟩ := D
  dsimp only at c0 c1 c2 c3 c4 c5 hs hl
  have H := Aside0.mk h
  have f3 := cf 3
  have f4 := cf 4
  have f5 := cf 5
  clear c0 c1 c2 cf h
  obtain ⟨hs1, hs2⟩ := hs
  by_cases h0 : dl = 0
  · subst h0
    go_enter Try.func44, Try.ntmps44
    go_wp2
    go_ret
    have p := H.out.put4 true
    exact ⟨rfl, p.1, p.2⟩
  · by_cases h1 : 0 < dl
    · have R : Aside0 (stepD ⟨dn, df, dc, dl, dd, ds, du⟩ = (true, ⟨dn, df, dc, dl - 1, dd, ds + 1, du⟩)) := ⟨by simp [stepD, h0, h1]⟩
      go_enter Try.func44, Try.ntmps44
      go_wp2
      go_ret
      have p := H.out.put3 (dl - 1)
      have q := p.1.put5 (ds + 1)
      rw [R.out]
      exact ⟨rfl, q.1, p.2.trans q.2 (fun _ h => .inl h)⟩
    · have R : Aside0 (stepD ⟨dn, df, dc, dl, dd, ds, du⟩ = (true, ⟨dn, df, dc, dl, dd, ds + 1, du⟩)) := ⟨by simp [stepD, h0, h1]⟩
      go_enter Try.func44, Try.ntmps44
      go_wp2
      go_ret
      have q := H.out.put5 (ds + 1)
      rw [R.out]
      exact ⟨rfl, q.1, q.2⟩

set_option maxHeartbeats 1000000 in
theorem arm_calls (g : Nat) (B : Nat → Prop) (D : DS) (n : Int) (w : World) (h : IsDisk w B g D) :
    Calls Try.prog 16 #[.pointer (some ⟨g, 0, none⟩), .int .i64 n] w fun e w' => e = .returned (.tuple #[]) ∧ IsDisk w' B g { D with left := if n < -1 then -1 else n } ∧ Fr B w w' := by
  obtain ⟨m, cv, c0, c1, c2, c3, c4, c5, cf, hlt, _, _, _, _, _⟩ := h.cells
  have H := Aside0.mk h
  have f3 := cf 3
  clear c0 c1 c2 c4 c5 cf h
  rcases Int.lt_trichotomy n (-1) with h1 | rfl | h1
  · go_enter Try.func16, Try.ntmps16
    go_wp2
    go_end0
    have p := H.out.put3 (-1)
    exact ⟨rfl, p.1, p.2⟩
  · go_enter Try.func16, Try.ntmps16
    go_wp2
    all_goals
      go_end0
      have p := H.out.put3 (-1)
      exact ⟨rfl, p.1, p.2⟩
  · have h2 : ¬ n < -1 := by omega
    have h3 : -1 ≤ n := by omega
    have h4 : ¬ n ≤ -1 := by omega
    go_enter Try.func16, Try.ntmps16
    go_wp2
    go_end0
    have p := H.out.put3 n
    exact ⟨rfl, p.1, p.2⟩

/-- A new disk. -/
def newD (n : Int) : DS := ⟨n, fun _ => zeros64, [], -1, false, 0, 0⟩
theorem newD_is (n : Int) (w : World) : IsDisk ((w.alloc (.map #[] 0)).alloc (.cells #[.int .i64 n, .map (some w.heap.size), .slice none 0 0, .int .i64 (-1), .bool false, .int .i64 0] 88)) (fun k => w.heap.size ≤ k ∧ k < w.heap.size + 2) (w.heap.size + 1) (newD n) := by
  have hm : ((w.alloc (.map #[] 0)).alloc (.cells #[.int .i64 n, .map (some w.heap.size), .slice none 0 0, .int .i64 (-1), .bool false, .int .i64 0] 88)).heap[w.heap.size]? = some (.map #[] 0) := heap_alloc2_old _ _ _
  refine ⟨w.heap.size, .slice none 0 0, heap_alloc2_new _ _ _, ⟨by omega, by omega⟩, ⟨by omega, by omega⟩, (fun k e => by cases e), ?_, ⟨rfl, .inl ⟨rfl, rfl⟩⟩, (fun p hp => by cases hp), fun i => rfl, fun k hk => by simp; omega⟩
  have ho := (World.ownsMap_made (H := Value) w Try.prog 3 asIs).alloc (.cells #[.int .i64 n, .map (some w.heap.size), .slice none 0 0, .int .i64 (-1), .bool false, .int .i64 0] 88)
  exact ⟨.map [], ho, ⟨_, rfl⟩, fun i => rfl⟩
set_option maxHeartbeats 1000000 in
theorem new_calls (n : Int) (w : World) (h1 : 1 ≤ n) (h2 : n ≤ 4096) :
    Calls Try.prog 13 #[.int .i64 n] w fun e w' => ∃ g, e = .returned (.tuple #[.pointer (some ⟨g, 0, none⟩), .int .i64 0]) ∧ (∃ B, IsDisk w' B g (newD n) ∧ ∀ k, B k → w.heap.size ≤ k) ∧ Below w.heap.size w w' := by
  have hmm := @run_makeMap Try.prog
  go_enter Try.func13, Try.ntmps13
  go_wp2
  go_ret2
  exact ⟨w.heap.size + 1, rfl, ⟨_, newD_is n w, fun k hk => hk.1⟩, ((Below.refl _ _).alloc (Nat.le_refl _) _).alloc (by simp) _⟩
theorem new_bad (n : Int) (w : World) (h1 : ¬ (1 ≤ n ∧ n ≤ 4096)) :
    Calls Try.prog 13 #[.int .i64 n] w fun e w' => e = .returned (.tuple #[.pointer none, .int .i64 2]) ∧ Below w.heap.size w w' := by
  have hmm := @run_makeMap Try.prog
  by_cases h2 : 1 ≤ n
  · have h3 : 4096 < n := by omega
    go_enter Try.func13, Try.ntmps13
    go_wp2
    go_ret2
    exact ⟨rfl, Below.refl _ _⟩
  · have h3 : n < 1 := by omega
    go_enter Try.func13, Try.ntmps13
    go_wp2
    go_ret2
    exact ⟨rfl, Below.refl _ _⟩
end Go.Proofs.Ytppgbfkhiofjiaa.X
