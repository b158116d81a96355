/-
  The journal: what the laws carry along, a disk with a log, and the contracts in these terms.
-/
import Derived.Test.YtppgbfkhiofjiaaEJF
namespace Go.Proofs.Ytppgbfkhiofjiaa.X
open Go.RowKit Go.Proofs.YtppgbfkhiofjiaaW.PrintWords Go.Proofs.YtppgbfkhiofjiaaW.PrintLast Go.Proofs.YtppgbfkhiofjiaaW.PrintMore Go.Proofs.Ytppgbfkhiofjiaa.Y
set_option linter.unusedVariables false
set_option linter.unusedSimpArgs false

def Only (w0 : World) (B0 : Nat → Prop) (g : Nat) (W : World) (D : DS) (i : Nat) : Prop := JOk i D ∧ Moved w0 B0 g W D
def Both (w0 : World) (B0 : Nat → Prop) (g lb : Nat) (dn : Bool) (W : World) (D : DS) (i : Nat) : Prop :=
  JOk i D ∧ ∃ B, IsDisk W B g D ∧ (∀ k, B k → B0 k ∨ w0.heap.size ≤ k) ∧ Fr B0 w0 W ∧ IsLog W lb g dn ∧ (B0 lb ∨ w0.heap.size ≤ lb) ∧ ¬ B lb
section
variable {w0 W W' Wa Wb : World} {B0 : Nat → Prop} {g lb i : Nat} {D : DS} {dn : Bool}
theorem Both.only (h : Both w0 B0 g lb dn W D i) : Only w0 B0 g W D i := by
  obtain ⟨h0, B, h1, h2, h3, _⟩ := h
  exact ⟨h0, B, h1, h2, h3⟩
theorem Only.fr (h : Only w0 B0 g W D i) : Fr B0 w0 W := by
  obtain ⟨_, B, _, _, h3⟩ := h
  exact h3
theorem Both.fr (h : Both w0 B0 g lb dn W D i) : Fr B0 w0 W := h.only.fr
theorem Only.quiet (h : Only w0 B0 g W D i) (f : Fr (fun _ => False) W W') : Only w0 B0 g W' D i := ⟨h.1, h.2.quiet f⟩
theorem Both.quiet (h : Both w0 B0 g lb dn W D i) (f : Fr (fun _ => False) W W') : Both w0 B0 g lb dn W' D i := by
  obtain ⟨h0, B, h1, h2, h3, h4, h5, h6⟩ := h
  exact ⟨h0, B, h1.fr f (fun _ _ h => h), h2, h3.trans f (fun _ h => h.elim), h4.kept (f.keep _ h4.lt (fun h => h)), h5, h6⟩
theorem Both.base (h : Both w0 B0 g lb dn W D i) : ∃ B1, (∀ k, B1 k → (B0 k ∨ w0.heap.size ≤ k) ∧ k < W.heap.size) ∧ ∀ W', Fr (fun _ => False) W W' → Both W' B1 g lb dn W' D i := by
  have hq := fun W' f => h.quiet (W' := W') f
  obtain ⟨h0, B, h1, h2, h3, h4, h5, h6⟩ := h
  refine ⟨fun k => B k ∨ k = lb, fun k h => h.elim (fun h => ⟨h2 k h, h1.lt k h⟩) (fun h => by rw [h]; exact ⟨h5, h4.lt⟩), fun W' f => ⟨h0, B, h1.fr f (fun _ _ h => h), fun _ h => .inl (.inl h), Fr.refl _ _, h4.kept (f.keep _ h4.lt (fun h => h)), .inl (.inr rfl), h6⟩⟩
theorem Both.back {w : World} {Bw : Nat → Prop} (h : Both w0 B0 g lb dn W D i) (hs : ∀ k, B0 k → Bw k ∨ w.heap.size ≤ k) (f : Fr Bw w w0) : Both w Bw g lb dn W D i := by
  obtain ⟨h0, B, h1, h2, h3, h4, h5, h6⟩ := h
  exact ⟨h0, B, h1, fun k h => (h2 k h).elim (hs k) (fun h => .inr (Nat.le_trans f.size h)), f.trans h3 hs, h4, h5.elim (hs lb) (fun h => .inr (Nat.le_trans f.size h)), h6⟩
theorem fresh_both (n : Int) (w : World) (h1 : 1 ≤ n) (h2 : n ≤ 100) : Calls Try.prog 27 #[.int .i64 n] w fun e w' => ∃ g lb, e = .returned (.tuple #[.pointer (some ⟨g, 0, none⟩), .pointer (some ⟨lb, 0, none⟩)]) ∧ Both w (fun _ => False) g lb false w' (freshM (69 + n)) 2 := by
  refine (fresh_calls n w h1 h2).mono ?_
  rintro e w' ⟨g, lb, B, rfl, a1, a2, a3, a4, a5, a6⟩
  exact ⟨g, lb, rfl, jok_fresh _, B, a1, fun k h => .inr (a2 k h), a6, a3, .inr a4, a5⟩
theorem com_both (h : Both w0 B0 g lb dn Wa D i) (f : Fr (fun _ => False) Wa Wb) {A : Option Addr} {cp n : Nat} {l : List S102} (hm : Made102 Wa Wb A n l) (hn : l.length = n) (hn9 : n ≤ 9223372036854775807) (hi : i ≤ 100000) (hD : 0 ≤ D.n ∧ D.n ≤ 4096) :
    Calls Try.prog 28 #[.pointer (some ⟨lb, 0, none⟩), .slice A n cp] Wb fun e W' => e = .returned (.int .i64 (logC l D dn).1) ∧ Both w0 B0 g lb (logC l D dn).2.2 W' (logC l D dn).2.1 (i + 150) := by
  obtain ⟨h0, Ba, a1, a2, a3, a4, a5, a6⟩ := h
  have h3 : Fr B0 w0 Wb := a3.trans f (fun _ h => h.elim)
  have h4 : IsLog Wb lb g dn := a4.kept (f.keep _ a4.lt (fun h => h))
  refine (com_calls lb g dn Ba D A cp n l Wb i (a1.fr f (fun _ _ h => h)) h0 hi h4 a6 hD hn hn9 (fun W' fw => hm Ba W' (fun k hk => a1.lt k hk) fw)).mono ?_
  rintro e W' ⟨rfl, ⟨B2, b1, b2⟩, b3, b4⟩
  exact ⟨rfl, h0.logC l dn, B2, b1, fun k hk => (b2 k hk).elim (a2 k) (fun h => .inr (Nat.le_trans h3.size h)), h3.trans b3 (fun k hk => hk.elim (a2 k) (fun h => by rw [h]; exact a5)), b4, a5, fun hk => (b2 lb hk).elim a6 (fun h => by have := h4.lt; omega)⟩
theorem image_both (h : Both w0 B0 g lb dn W D i) (hm : D.n = 77) (hd : D.down = false) (hc : D.c = []) :
    Calls Try.prog 31 #[.pointer (some ⟨lb, 0, none⟩)] W fun e w' => e = .returned (.string (strOfNums (imgF D.f 8))) ∧ Fr (fun _ => False) W w' := by
  obtain ⟨h0, B, h1, h2, h3, h4, h5, h6⟩ := h
  have := image_calls lb g dn B D 8 W h1 h4 (by rw [hm]; rfl) (by omega) hd (by rw [hc]; exact Nat.zero_le _)
  rw [sect_img hc] at this
  exact this
theorem Both.long (h : Both w0 B0 g lb dn W D i) : ∀ k, (D.f k).length = 64 := by
  obtain ⟨h0, B, h1, _⟩ := h
  exact h1.good.2
theorem arm_only (h : Only w0 B0 g W D i) (n : Int) (hn : 0 ≤ n) (hn2 : n ≤ 1000) : Calls Try.prog 16 #[.pointer (some ⟨g, 0, none⟩), .int .i64 n] W fun e w' => e = .returned (.tuple #[]) ∧ Only w0 B0 g w' { D with left := n } i := by
  obtain ⟨h0, B, h1, h2, h3⟩ := h
  refine (arm_calls g B D n W h1).mono ?_
  have hj := h0.arm n (by omega)
  rintro e w' ⟨rfl, b1, b2⟩
  rw [if_neg (by omega)] at b1 hj
  exact ⟨rfl, hj, B, b1, h2, h3.trans b2 h2⟩
theorem arm_both (h : Both w0 B0 g lb dn W D i) (n : Int) (hn : 0 ≤ n) (hn2 : n ≤ 1000) : Calls Try.prog 16 #[.pointer (some ⟨g, 0, none⟩), .int .i64 n] W fun e w' => e = .returned (.tuple #[]) ∧ Both w0 B0 g lb dn w' { D with left := n } i := by
  obtain ⟨h0, B, h1, h2, h3, h4, h5, h6⟩ := h
  refine (arm_calls g B D n W h1).mono ?_
  have hj := h0.arm n (by omega)
  rintro e w' ⟨rfl, b1, b2⟩
  rw [if_neg (by omega)] at b1 hj
  exact ⟨rfl, hj, B, b1, h2, h3.trans b2 h2, h4.kept (b2.keep _ h4.lt h6), h5, h6⟩
theorem mend_only (h : Only w0 B0 g W D i) (hi : i ≤ 1000000) (A : Option Addr) (cp : Nat) (l : List Bool) (hl : Kd.C Kd.bool W A l.length l) (hd : ∀ ad, A = some ad → 0 < l.length → ¬ B0 ad.block ∧ ad.block < w0.heap.size) :
    Calls Try.prog 17 #[.pointer (some ⟨g, 0, none⟩), .slice A l.length cp] W fun e w' => e = .returned (.tuple #[]) ∧ Only w0 B0 g w' (mendD l D) i := by
  obtain ⟨h0, B, h1, h2, h3⟩ := h
  have := h0.u
  refine (mend_calls g B D A cp l W h1 (by omega) (by omega) hl (fun ad e h9 hB => (h2 _ hB).elim (hd ad e h9).1 (fun h => by have := (hd ad e h9).2; omega))).mono ?_
  rintro e w' ⟨rfl, b1, b2⟩
  exact ⟨rfl, h0.mend l, B, b1, h2, h3.trans b2 h2⟩
theorem open_only (h : Only w0 B0 g W D i) (hi : i ≤ 200000) (hD : 0 ≤ D.n ∧ D.n ≤ 4096) : Calls Try.prog 33 #[.pointer (some ⟨g, 0, none⟩)] W fun e w' =>
    ∃ v, e = .returned (.tuple #[v, .int .i64 (openD D).1]) ∧ Only w0 B0 g w' (openD D).2 (i + 70) ∧ ((openD D).1 = 0 → ∃ lb, v = .pointer (some ⟨lb, 0, none⟩) ∧ Both w0 B0 g lb false w' (openD D).2 (i + 70)) := by
  obtain ⟨h0, B, h1, h2, h3⟩ := h
  refine (open_calls g B D W i h1 h0 hi hD).mono ?_
  rintro e w' ⟨v, rfl, f, hbad, hgood⟩
  have hj := h0.opened
  have hf : Fr B0 w0 w' := h3.trans f h2
  by_cases hz : (openD D).1 = 0
  · obtain ⟨lb, B', rfl, b1, b2, b3, b4, b5⟩ := hgood hz
    have hb : Both w0 B0 g lb false w' (openD D).2 (i + 70) := ⟨hj, B', b3, fun k hk => (b4 k hk).elim (h2 k) (fun h => .inr (Nat.le_trans h3.size h)), hf, b2, .inr (Nat.le_trans h3.size b1), b5⟩
    exact ⟨_, rfl, hb.only, fun _ => ⟨lb, rfl, hb⟩⟩
  · obtain ⟨rfl, m⟩ := hbad hz
    exact ⟨_, rfl, ⟨hj, m.back h2 h3⟩, fun h => absurd h hz⟩
end

theorem rest40 (x : Int) : ∃ m : Nat, m < 40 ∧ wrap64 ((IntKind.u64.wrap x).tmod 40) = (m : Int) := by
  have h0 : 0 ≤ IntKind.u64.wrap x := by
    show 0 ≤ x % 18446744073709551616
    omega
  refine ⟨((IntKind.u64.wrap x) % 40).toNat, by omega, ?_⟩
  rw [Int.tmod_eq_emod_of_nonneg h0]
  unfold wrap64
  omega
theorem rest60 (x : Int) : ∃ m : Nat, m < 60 ∧ wrap64 ((IntKind.u64.wrap x).tmod 60) = (m : Int) := by
  have h0 : 0 ≤ IntKind.u64.wrap x := by
    show 0 ≤ x % 18446744073709551616
    omega
  refine ⟨((IntKind.u64.wrap x) % 60).toNat, by omega, ?_⟩
  rw [Int.tmod_eq_emod_of_nonneg h0]
  unfold wrap64
  omega
theorem rest80 (x : Int) : ∃ m : Nat, m < 80 ∧ wrap64 ((IntKind.u64.wrap x).tmod 80) = (m : Int) := by
  have h0 : 0 ≤ IntKind.u64.wrap x := by
    show 0 ≤ x % 18446744073709551616
    omega
  refine ⟨((IntKind.u64.wrap x) % 80).toNat, by omega, ?_⟩
  rw [Int.tmod_eq_emod_of_nonneg h0]
  unfold wrap64
  omega
theorem Only.mono {w0 W : World} {B0 : Nat → Prop} {g i j : Nat} {D : DS} (h : Only w0 B0 g W D i) (hij : i ≤ j) : Only w0 B0 g W D j := ⟨h.1.mono hij, h.2⟩
theorem first_com (l : List S105) : ∃ D1, logC (jw (tameL l)) (freshM 77) false = (0, D1, false) ∧ Idle 77 D1 := by
  rcases commit_out (idle_fresh 77) (by omega) (fits_tame l) with ⟨h1, h2, h3, h4, h5⟩ | ⟨_, _, h3, _⟩
  · exact ⟨_, Prod.ext h1 (Prod.ext rfl h2), h3⟩
  · exact absurd rfl h3
theorem tameL_le (l : List S105) : (tameL l).length ≤ 20 := by unfold tameL; rw [List.length_map, List.length_take]; omega
/-- The writes, made out of tame ones. -/
theorem writes_tame (A : Option Addr) (c n : Nat) (l : List S105) (w0 w : World) (B : Nat → Prop) (hm : Made105 w0 w A n (tameL l)) (hn : (tameL l).length = n) (hc : n ≤ c) (hB : ∀ k, B k → k < w0.heap.size) {W : World} (hf : Fr B w W) :
    Calls Try.prog 29 #[.slice A n c] W fun e w' => ∃ A' c', e = .returned (.slice A' n c') ∧ Made102 W w' A' n (jw (tameL l)) ∧ Fr (fun _ => False) W w' := by
  refine (writes_calls A c n (tameL l) W hn (hm B W hB hf) hc (fun x hx => by rw [(tame_ok l x hx).2.2]; omega) (by have := tameL_le l; omega)).mono ?_
  rintro e w' ⟨v, A', c', rfl, rfl, _, h1, h2⟩
  exact ⟨A', c', rfl, h1, h2⟩
/-- What a commit with the power failing comes to, and a second one behind it. -/
theorem armed_com {D1 : DS} (hI : Idle 77 D1) (l : List S105) (m : Int) :
    (∃ D2, logC (jw (tameL l)) { D1 with left := m } false = (0, D2, false) ∧ D2.n = 77 ∧ ∀ kp, Wait 77 False (jw (tameL l)) D1.f (mendD kp D2)) ∨
      (∃ D2, logC (jw (tameL l)) { D1 with left := m } false = (230, D2, true) ∧ logC (jw (tameL l)) D2 true = (230, D2, true) ∧ D2.n = 77 ∧ ∀ kp, Wait 77 True (jw (tameL l)) D1.f (mendD kp D2)) := by
  rcases commit_out (hI.arm m) (by omega) (fits_tame l) with ⟨h1, h2, h3, h4, h5⟩ | ⟨h1, h2, h3, h4, h5⟩
  · exact .inl ⟨_, Prod.ext h1 (Prod.ext rfl h2), h3.n, fun kp => mend_idle kp h3 (.inr h5)⟩
  · exact .inr ⟨_, Prod.ext h1 (Prod.ext rfl h2), by unfold logC; rw [if_pos rfl], h4, fun kp => mend_out kp h4 (h5 _)⟩

end Go.Proofs.Ytppgbfkhiofjiaa.X
