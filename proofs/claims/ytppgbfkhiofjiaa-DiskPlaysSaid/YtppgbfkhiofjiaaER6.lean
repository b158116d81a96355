/-
  The contracts of SameInts and of same.
-/
import Derived.Test.YtppgbfkhiofjiaaER5
import Derived.Deep.QuietTactic
import Derived.BigQuiet
import Derived.Deep.RegionWith
namespace Go.Proofs.Ytppgbfkhiofjiaa.X
open Go.RowKit Go.Proofs.YtppgbfkhiofjiaaW.PrintWords Go.Proofs.YtppgbfkhiofjiaaW.PrintLast Go.Proofs.YtppgbfkhiofjiaaW.PrintMore
set_option linter.unusedVariables false
set_option linter.unusedSimpArgs false

set_option maxHeartbeats 4000000 in
set_option maxRecDepth 100000 in
theorem sameInts_calls (A0 A1 : Option Addr) (c0 c1 : Nat) (l : List Int) (w : World) (h0 : Kd.C (Kd.int .i64) w A0 l.length l) (h1 : Kd.C (Kd.int .i64) w A1 l.length l) :
    Calls Try.prog 40 #[.slice A0 l.length c0, .slice A1 l.length c1] w fun e w' => e = .returned (.bool true) ∧ Drawn0 w w' := by
  have H0 := Aside0.mk h0
  have H1 := Aside0.mk h1
  have hmax : l.length ≤ 9223372036854775807 := h0.2.1
  obtain ⟨n, hn⟩ : ∃ n, l.length = n := ⟨_, rfl⟩
  rw [hn] at H0 H1 hmax ⊢
  clear h0 h1 hn
  go_enter Try.func40, Try.ntmps40
  go_wp2_with fail
  go_loopg [5] n (fun kq v5 w' => ∃ (i : Nat), v5 = .int .i64 (i : Int) ∧ Aside0 (i + kq = n) ∧ Aside0 (Drawn0 w w'))
  case atStart => exact ⟨0, rfl, ⟨by omega⟩, ⟨Drawn0.refl _⟩⟩
  case round =>
    obtain ⟨i, rfl, HI, HD⟩ := hrel
    obtain ⟨nq, rfl⟩ := HD.out.out
    have hi0 : (0 : Int) ≤ (i : Int) := by omega
    cases gk with
    | zero =>
      have hi : i = n := by have := HI.out; omega
      subst hi
      go_wp2_with fail
      go_ret
      exact ⟨rfl, HD.out⟩
    | succ k1 =>
      have hi1 : (i : Int) < (n : Int) := by have := HI.out; omega
      have hi : i < n := by omega
      have HI3 : Aside0 (i + 1 + k1 = n) := ⟨by have := HI.out; omega⟩
      obtain ⟨a0, rfl, x0⟩ := Kd.at_int H0.out (i : Int) hi0 hi1
      obtain ⟨a1, rfl, x1⟩ := Kd.at_int H1.out (i : Int) hi0 hi1
      rw [Int.toNat_natCast] at x0 x1
      generalize rd l (i : Int) = x at x0 x1
      have y0 : (w.drewN nq).cell? (a0.add i) = some (.int .i64 x) := x0
      have y1 : (w.drewN nq).cell? (a1.add i) = some (.int .i64 x) := x1
      go_wp2_with fail
      go_quiet (fail)
      go_wp2_with fail
      go_roundg k1
      case measure => omega
      case rel => exact ⟨i + 1, by go_num, HI3, ⟨⟨⟨_, rfl⟩⟩⟩⟩

theorem IsDisk.heapEq {w W : World} {B : Nat → Prop} {g : Nat} {D : DS} (h : IsDisk w B g D) (e : W.heap = w.heap) : IsDisk W B g D := h.move (by rw [e]; exact Nat.le_refl _) (fun k _ => by rw [e])
theorem IsRef.heapEq {w W : World} {R : Nat → Prop} {r : Nat} {D : DS} (h : IsRef w R r D) (e : W.heap = w.heap) : IsRef W R r D := h.move (by rw [e]; exact Nat.le_refl _) (fun k _ => by rw [e])
theorem ints_row {w : World} {base n : Nat} {v : Value} {xs : List Int} (h : w.ownsRow base 3 1 v n (nums .i64 xs)) : ∃ A c, v = .slice A n c ∧ Kd.C (Kd.int .i64) w A n xs := by
  obtain ⟨A, c, e, hr⟩ := own_reads_of (enc := Value.int .i64) (d := (0 : Int)) h
  exact ⟨A, c, e, Kd.C_of_reads (d := (0 : Int)) (h1 := fun _ => rfl) hr⟩

set_option maxHeartbeats 8000000 in
set_option maxRecDepth 100000 in
theorem same_calls (g r : Nat) (B R : Nat → Prop) (D E : DS) (w : World) (h : IsDisk w B g D) (hr : IsRef w R r E) (e1 : E.n = D.n) (e2 : E.down = D.down) (e3 : E.steps = D.steps) (e4 : E.c = D.c) (hc : D.c.length ≤ 1000000) :
    Calls Try.prog 23 #[.pointer (some ⟨g, 0, none⟩), .pointer (some ⟨r, 0, none⟩)] w fun e w' => e = .returned (.bool true) ∧ Fr (fun _ => False) w w' := by
  have H := Aside0.mk h
  have HR := Aside0.mk hr
  obtain ⟨lv, pv, c0, c1, c2, c3, c4, cf, hlt⟩ := hr.cells
  rw [e2] at c3
  rw [e3] at c4
  have S1 : Aside0 (∀ W : World, W.heap = w.heap → Calls Try.prog 53 #[.pointer (some ⟨g, 0, none⟩)] W fun e w' => e = .returned (.int .i64 D.n) ∧ Drawn0 W w') := ⟨fun W e => sectors_calls g B D W (H.out.heapEq e)⟩
  have S2 : Aside0 (∀ W : World, W.heap = w.heap → Calls Try.prog 25 #[.pointer (some ⟨r, 0, none⟩)] W fun e w' => e = .returned (.int .i64 D.n) ∧ Drawn0 W w') := ⟨fun W e => by rw [← e1]; exact rsectors_calls r R E W (HR.out.heapEq e)⟩
  have S3 : Aside0 (∀ W : World, W.heap = w.heap → Calls Try.prog 39 #[.pointer (some ⟨g, 0, none⟩)] W fun e w' => e = .returned (.bool D.down) ∧ Drawn0 W w') := ⟨fun W e => down_calls g B D W (H.out.heapEq e)⟩
  have S4 : Aside0 (∀ W : World, W.heap = w.heap → Calls Try.prog 38 #[.pointer (some ⟨g, 0, none⟩)] W fun e w' => e = .returned (.int .i64 D.steps) ∧ Drawn0 W w') := ⟨fun W e => steps_calls g B D W (H.out.heapEq e)⟩
  have S5 : Aside0 (∀ W : World, W.heap = w.heap → W.os = w.os → W.tape = w.tape → W.output = w.output → Calls Try.prog 20 #[.pointer (some ⟨g, 0, none⟩)] W fun e w' => ∃ A c, e = .returned (.slice A D.c.length c) ∧ Aside0 (Kd.C (Kd.int .i64) w' A D.c.length (keysC D.c)) ∧ Aside0 (Fr (fun _ => False) w w')) := ⟨fun W e a1 a2 a3 => by
    refine (pending_calls g B D W (H.out.heapEq e) hc).mono ?_
    rintro e w' ⟨v, rfl, ho, hf⟩
    obtain ⟨A, c, rfl, hC⟩ := ints_row ho
    exact ⟨A, c, rfl, ⟨hC⟩, ⟨⟨hf.os.trans a1, hf.tape.trans a2, hf.output.trans a3, by have := hf.size; rw [e] at this; exact this, fun k hk hn => (hf.keep k (by rw [e]; exact hk) hn).trans (by rw [e])⟩⟩⟩⟩
  have S6 : Aside0 (∀ W : World, Fr (fun _ => False) w W → Calls Try.prog 41 #[.pointer (some ⟨r, 0, none⟩)] W fun e w' => ∃ A c, e = .returned (.slice A D.c.length c) ∧ Aside0 (Kd.C (Kd.int .i64) w' A D.c.length (keysC D.c)) ∧ Aside0 (Fr (fun _ => False) W w')) := ⟨fun W hf => by
    rw [← e4]
    refine (rpending_calls r R E W (HR.out.fr hf (fun _ _ h => h)) (by rw [e4]; exact hc)).mono ?_
    rintro e w' ⟨v, rfl, ho, hf'⟩
    obtain ⟨A, c, rfl, hC⟩ := ints_row ho
    exact ⟨A, c, rfl, ⟨hC⟩, ⟨hf'⟩⟩⟩
  have hkl : Aside0 ((keysC D.c).length = D.c.length) := ⟨by simp [keysC]⟩
  have S7 : Aside0 (∀ (W W' : World) (A A' : Option Addr) (c c' : Nat), Kd.C (Kd.int .i64) W A D.c.length (keysC D.c) → Kd.C (Kd.int .i64) W' A' D.c.length (keysC D.c) → Fr (fun _ => False) W W' → Calls Try.prog 40 #[.slice A D.c.length c, .slice A' D.c.length c'] W' fun e w' => e = .returned (.bool true) ∧ Drawn0 W' w') := ⟨fun W W' A A' c c' h1 h2 hf => by
    rw [← hkl.out] at h1 h2 ⊢
    exact sameInts_calls A A' c c' (keysC D.c) W' (C_fr (0 : Int) h1 hf (fun _ _ _ h => h)) h2⟩
  generalize D.c.length = N at *
  generalize keysC D.c = K at *
  generalize D.n = dn at *
  generalize D.down = dd at *
  generalize D.steps = ds at *
  clear c0 c1 c2 cf h hr e1 e2 e3 e4 hc
  go_enter Try.func23, Try.ntmps23
  go_wp2_with fail
  go_region_with (first
    | (go_at_call 53; refine (S1.out _ (by rfl)).mono ?_; rintro e w' ⟨rfl, ⟨nq, rfl⟩⟩)
    | (go_at_call 25; refine (S2.out _ (by rfl)).mono ?_; rintro e w' ⟨rfl, ⟨nq, rfl⟩⟩)
    | (go_at_call 39; refine (S3.out _ (by rfl)).mono ?_; rintro e w' ⟨rfl, ⟨nq, rfl⟩⟩)
    | (go_at_call 38; refine (S4.out _ (by rfl)).mono ?_; rintro e w' ⟨rfl, ⟨nq, rfl⟩⟩)
    | (go_at_call 20; refine (S5.out _ (by rfl) (by rfl) (by rfl) (by rfl)).mono ?_; rintro e w5 ⟨A5, c5, rfl, K5, F5⟩)
    | (go_at_call 41; refine (S6.out _ F5.out).mono ?_; rintro e w6 ⟨A6, c6, rfl, K6, F6⟩)
    | (go_at_call 40; refine (S7.out _ _ _ _ _ _ K5.out K6.out F6.out).mono ?_; rintro e w7 ⟨rfl, ⟨nq7, rfl⟩⟩))
  all_goals (
    have FF : Aside0 (Fr (fun _ => False) w w6) := ⟨F5.out.trans F6.out (fun k h => .inl h)⟩
    go_wp2_with fail
    go_ret
    exact ⟨rfl, FF.out.drewN _⟩)
end Go.Proofs.Ytppgbfkhiofjiaa.X
