/-
  Of the proof of JournalPlays (put together by wip/tools/mkclaimj.py):
  JournalPlays: what is carried along; both journals are opened.
-/
import Derived.Test.YtppgbfkhiofjiaaQH
import Derived.Test.YtppgbfkhiofjiaaQO
namespace Go.Proofs.Ytppgbfkhiofjiaa.X
open Go.RowKit Go.Proofs.YtppgbfkhiofjiaaW.PrintWords Go.Proofs.YtppgbfkhiofjiaaW.PrintLast Go.Proofs.YtppgbfkhiofjiaaW.PrintMore Go.Proofs.Ytppgbfkhiofjiaa.Y
set_option linter.unusedVariables false
set_option linter.unusedSimpArgs false

/-! ### The size stays -/
theorem n_write (D : DS) (n : Int) (b : List Int) : (writeD D n b).2.n = D.n := by
  unfold writeD
  split
  · split
    · split
      · exact (stepD_c D).2.2.2
      · exact (stepD_c D).2.2.2
    · rfl
  · rfl
theorem n_flush (D : DS) : (flushD D).2.n = D.n := by
  unfold flushD
  split
  · rfl
  · split
    · exact (stepD_c D).2.2.2
    · exact (stepD_c D).2.2.2
theorem n_seq {r : Int × DS} {f : DS → Int × DS} {N : Int} (h : r.2.n = N) (hk : ∀ D, D.n = N → (f D).2.n = N) : (seqD r f).2.n = N := by
  unfold seqD
  split
  · exact hk _ h
  · exact h
theorem n_lays (D : DS) (b : List Int) : (laysD b D).2.n = D.n := n_seq (n_write D 0 b) (fun D h => n_seq ((n_flush D).trans h) (fun D h => h))
theorem n_writes : ∀ (l : List (Int × List Int)) (D : DS), (writesD l D).2.n = D.n
  | [], D => rfl
  | p :: l, D => by
    rw [writesD]
    exact n_seq (n_write D p.1 p.2) (fun D h => (n_writes l D).trans h)
theorem n_finish (l : List S102) (D : DS) : (finishD l D).2.n = D.n :=
  n_seq (n_writes _ D) (fun D h => n_seq ((n_flush D).trans h) (fun D h => n_seq ((n_lays D _).trans h) (fun D h => h)))
theorem n_commit (l : List S102) (D : DS) : (commitD l D).2.n = D.n :=
  n_seq (n_writes _ D) (fun D h => n_seq ((n_writes _ D).trans h) (fun D h => n_seq ((n_flush D).trans h) (fun D h => n_seq ((n_lays D _).trans h) (fun D h => n_seq ((n_finish l D).trans h) (fun D h => h)))))
theorem n_logC (l : List S102) (D : DS) (dn : Bool) : (logC l D dn).2.1.n = D.n := by
  unfold logC
  split
  · rfl
  · split
    · rfl
    · split
      · rfl
      · split
        · rfl
        · exact n_commit l D
theorem n_open (D : DS) : (openD D).2.n = D.n := by
  unfold openD
  repeat' split
  all_goals first | rfl | exact n_finish _ D

/-! ### What is carried -/
def XAt (W : World) (x g r : Nat) (lv mv : Value) : Prop := W.heap[x]? = some (.cells #[.pointer (some ⟨g, 0, none⟩), lv, .pointer (some ⟨r, 0, none⟩), mv] 75 (0, 0))
/-- What both journals stand on. -/
structure JC (lo x g r : Nat) (B R : Nat → Prop) (W : World) (D : DS) : Prop where
  d : IsDisk W B g D
  e : IsRef W R r D
  apart : ∀ k, B k → ¬ R k
  lb : ∀ k, B k → lo ≤ k
  lr : ∀ k, R k → lo ≤ k
  xb : ¬ B x
  xr : ¬ R x
  lx : lo ≤ x
/-- Both journals. -/
def JL (lo g r : Nat) (B R : Nat → Prop) (W : World) (lv mv : Value) : Option Bool → Prop
  | none => lv = .pointer none ∧ mv = .pointer none
  | some dn => ∃ lb mb, lv = .pointer (some ⟨lb, 0, none⟩) ∧ mv = .pointer (some ⟨mb, 0, none⟩) ∧ IsLog W lb g dn ∧ IsRLog W mb r dn ∧ lo ≤ lb ∧ lo ≤ mb ∧ ¬ B lb ∧ ¬ R lb ∧ ¬ B mb ∧ ¬ R mb
def JP (lo x : Nat) (W : World) (D : DS) (o : Option Bool) (i : Nat) : Prop :=
  ∃ g r B R lv mv, XAt W x g r lv mv ∧ JC lo x g r B R W D ∧ JL lo g r B R W lv mv o ∧ JOk i D ∧ Byt D
section
variable {lo x g r i : Nat} {B R : Nat → Prop} {W W' : World} {D : DS} {lv mv : Value} {o : Option Bool}
theorem XAt.kept (h : XAt W x g r lv mv) (hk : W'.heap[x]? = W.heap[x]?) : XAt W' x g r lv mv := hk.trans h
theorem XAt.lt (h : XAt W x g r lv mv) : x < W.heap.size := (Array.getElem?_eq_some_iff.1 h).1
theorem XAt.cells (h : XAt W x g r lv mv) : W.cell? ⟨x, 0, none⟩ = some (.pointer (some ⟨g, 0, none⟩)) ∧ W.cell? ⟨x, 1, none⟩ = some lv ∧ W.cell? ⟨x, 2, none⟩ = some (.pointer (some ⟨r, 0, none⟩)) ∧ W.cell? ⟨x, 3, none⟩ = some mv ∧ ∀ j, W.frozen? ⟨x, j, none⟩ = false := by
  refine ⟨?_, ?_, ?_, ?_, fun j => frozen_of_row W x j _ 75 h⟩ <;> rw [cell_of_row W x _ _ 75 (0, 0) h] <;> rfl
theorem XAt.put1 (h : XAt W x g r lv mv) (v : Value) : XAt (W.setCell ⟨x, 1, none⟩ v) x g r v mv := by
  unfold XAt
  rw [heap_setCell_same W x 1 _ 75 _ h]
  rfl
theorem XAt.put3 (h : XAt W x g r lv mv) (v : Value) : XAt (W.setCell ⟨x, 3, none⟩ v) x g r lv v := by
  unfold XAt
  rw [heap_setCell_same W x 3 _ 75 _ h]
  rfl
theorem XAt.put0 (h : XAt W x g r lv mv) (g' : Nat) : XAt (W.setCell ⟨x, 0, none⟩ (.pointer (some ⟨g', 0, none⟩))) x g' r lv mv := by
  unfold XAt
  rw [heap_setCell_same W x 0 _ 75 _ h]
  rfl
theorem JC.quiet (h : JC lo x g r B R W D) (f : Fr (fun _ => False) W W') : JC lo x g r B R W' D := ⟨h.d.fr f (fun _ _ h => h), h.e.fr f (fun _ _ h => h), h.apart, h.lb, h.lr, h.xb, h.xr, h.lx⟩
theorem JL.quiet (h : JL lo g r B R W lv mv o) (f : Fr (fun _ => False) W W') : JL lo g r B R W' lv mv o := by
  cases o with
  | none => exact h
  | some dn =>
    obtain ⟨lb, mb, e1, e2, h1, h2, h3⟩ := h
    exact ⟨lb, mb, e1, e2, h1.kept (f.keep _ h1.lt (fun h => h)), h2.kept (f.keep _ h2.lt (fun h => h)), h3⟩
theorem JP.quiet (h : JP lo x W D o i) (f : Fr (fun _ => False) W W') : JP lo x W' D o i := by
  obtain ⟨g, r, B, R, lv, mv, h1, h2, h3, h4⟩ := h
  exact ⟨g, r, B, R, lv, mv, h1.kept (f.keep _ h1.lt (fun h => h)), h2.quiet f, h3.quiet f, h4⟩
theorem JP.mono (h : JP lo x W D o i) {j : Nat} (hj : i ≤ j) : JP lo x W D o j := by
  obtain ⟨g, r, B, R, lv, mv, h1, h2, h3, h4, h5⟩ := h
  exact ⟨g, r, B, R, lv, mv, h1, h2, h3, h4.mono hj, h5⟩
/-- Both disks have gone on, the program's first. -/
theorem JC.step {W1 W2 : World} {B' R' : Nat → Prop} {D' : DS} (h : JC lo x g r B R W D) (hx : x < W.heap.size) (hlo : lo ≤ W.heap.size) (d1 : IsDisk W1 B' g D') (b1 : ∀ k, B' k → B k ∨ W.heap.size ≤ k) (f1 : Fr B W W1)
    (e2 : IsRef W2 R' r D') (r2 : ∀ k, R' k → R k ∨ W1.heap.size ≤ k) (f2 : Fr R W1 W2) : JC lo x g r B' R' W2 D' := by
  refine ⟨d1.fr f2 (fun k hb hr => ?_), e2, fun k hb hr => ?_, fun k hb => ?_, fun k hr => ?_, fun hb => ?_, fun hr => ?_, h.lx⟩
  · exact (b1 k hb).elim (fun hb => h.apart k hb hr) (fun hge => by have := h.e.lt k hr; omega)
  · rcases r2 k hr with hr | hge
    · exact (b1 k hb).elim (fun hb => h.apart k hb hr) (fun hge => by have := h.e.lt k hr; omega)
    · have := d1.lt k hb
      omega
  · exact (b1 k hb).elim (h.lb k) (fun hge => Nat.le_trans hlo hge)
  · exact (r2 k hr).elim (h.lr k) (fun hge => Nat.le_trans (Nat.le_trans hlo f1.size) hge)
  · exact (b1 x hb).elim h.xb (fun hge => by omega)
  · exact (r2 x hr).elim h.xr (fun hge => by have := f1.size; omega)
/-- The logs stay where they are. -/
theorem JL.step {W1 W2 : World} {B' R' : Nat → Prop} (h : JL lo g r B R W lv mv o) (b1 : ∀ k, B' k → B k ∨ W.heap.size ≤ k) (f1 : Fr B W W1) (r2 : ∀ k, R' k → R k ∨ W1.heap.size ≤ k) (f2 : Fr R W1 W2) : JL lo g r B' R' W2 lv mv o := by
  cases o with
  | none => exact h
  | some dn =>
    obtain ⟨lb, mb, e1, e2, h1, h2, h3, h4, h5, h6, h7, h8⟩ := h
    have l1 := h1.lt
    have l2 := h2.lt
    have s1 := f1.size
    have k1 : IsLog W2 lb g dn := h1.kept ((f2.keep _ (by omega) h6).trans (f1.keep _ l1 h5))
    have k2 : IsRLog W2 mb r dn := h2.kept ((f2.keep _ (by omega) h8).trans (f1.keep _ l2 h7))
    exact ⟨lb, mb, e1, e2, k1, k2, h3, h4, fun hb => (b1 lb hb).elim h5 (fun h => by omega), fun hr => (r2 lb hr).elim h6 (fun h => by omega), fun hb => (b1 mb hb).elim h7 (fun h => by omega), fun hr => (r2 mb hr).elim h8 (fun h => by omega)⟩
end

set_option maxHeartbeats 4000000 in
set_option maxRecDepth 100000 in
theorem opens_calls (lo x i : Nat) (W : World) (D : DS) (o : Option Bool) (h : JP lo x W D o i) (hi : i ≤ 200000) (hN : 0 ≤ D.n ∧ D.n ≤ 4096) :
    Calls Try.prog 36 #[.pointer (some ⟨x, 0, none⟩)] W fun e w' => e = .returned (.bool true) ∧ JP lo x w' (openD D).2 (if (openD D).1 = 0 then some false else none) (i + 70) ∧ Fr (fun k => lo ≤ k) W w' := by
  obtain ⟨g, r, B, R, lv, mv, hx, hc, hl, hj, hb⟩ := h
  obtain ⟨c0, c1, c2, c3, cf⟩ := hx.cells
  have hlo : lo ≤ W.heap.size := Nat.le_trans hc.lx (Nat.le_of_lt hx.lt)
  have OP := Aside0.mk (open_calls g B D W i hc.d hj hi hN)
  have RO : Aside0 (∀ W1, Fr B W W1 → Calls Try.prog 67 #[.pointer (some ⟨r, 0, none⟩)] W1 (ROpenEnd R r (openD D) W1)) := ⟨fun W1 f => ropen_calls r R D W1 i (hc.e.fr f (fun k hr hb => hc.apart k hb hr)) hj hi hb⟩
  have HX := Aside0.mk hx
  have HC := Aside0.mk hc
  have HJ := Aside0.mk hj.opened
  have HB := Aside0.mk hb.opened
  have HLO := Aside0.mk hlo
  obtain ⟨q, hq⟩ : ∃ q, openD D = q := ⟨_, rfl⟩
  rw [hq] at OP RO HJ HB ⊢
  obtain ⟨q1, D'⟩ := q
  clear hx hc hl hj hb hq c1 c3 cf c2 hlo
  go_enter Try.func36, Try.ntmps36
  go_wp2_with fail
  refine OP.out.mono ?_
  rintro e w1 ⟨v1, rfl, f1, hbad1, hgood1⟩
  have RO1 := Aside0.mk (RO.out w1 f1)
  have hx1 : XAt w1 x g r lv mv := HX.out.kept (f1.keep _ HX.out.lt HC.out.xb)
  obtain ⟨_, _, c2, _, _⟩ := hx1.cells
  have HX1 := Aside0.mk hx1
  have HF1 := Aside0.mk f1
  have HB1 := Aside0.mk hbad1
  have HG1 := Aside0.mk hgood1
  clear OP RO hx1 f1 hbad1 hgood1 c0
  go_wp2_with fail
  refine RO1.out.mono ?_
  rintro e w2 ⟨v2, rfl, f2, hbad2, hgood2⟩
  have hx2 : XAt w2 x g r lv mv := HX1.out.kept (f2.keep _ HX1.out.lt HC.out.xr)
  have HF2 := Aside0.mk f2
  have HX4 : Aside0 (XAt ((w2.setCell ⟨x, 1, none⟩ v1).setCell ⟨x, 3, none⟩ v2) x g r v1 v2) := ⟨(hx2.put1 v1).put3 v2⟩
  have HF4 : Aside0 (Fr (fun k => k = x) w2 ((w2.setCell ⟨x, 1, none⟩ v1).setCell ⟨x, 3, none⟩ v2)) := ⟨((Fr.refl (fun k => k = x) w2).setCell (p := ⟨x, 1, none⟩) (.inl rfl) _).setCell (p := ⟨x, 3, none⟩) (.inl rfl) _⟩
  have HFX : Aside0 (Fr (fun k => lo ≤ k) W ((w2.setCell ⟨x, 1, none⟩ v1).setCell ⟨x, 3, none⟩ v2)) := ⟨((HF1.out.mono (fun k h => .inl (HC.out.lb k h))).trans f2 (fun k h => .inl (HC.out.lr k h))).trans HF4.out (fun k h => .inl (by rw [h]; exact HC.out.lx))⟩
  obtain ⟨d0, d1, d2, d3, cf⟩ := hx2.cells
  have cf1 := cf 1
  have cf3 := cf 3
  have cfs : (w2.setCell ⟨x, 1, none⟩ v1).frozen? ⟨x, 3, none⟩ = false := frozen_of_row _ x 3 _ 75 (hx2.put1 v1)
  obtain ⟨e0, e1, e2, e3, _⟩ := (hx2.put1 v1).cells
  by_cases hz : q1 = 0
  · subst hz
    obtain ⟨lb, B', rfl, a1, a2, a3, a4, a5⟩ := HG1.out rfl
    obtain ⟨mb, R', rfl, b1, b2, b3, b4, b5⟩ := hgood2 rfl
    have hc2 : JC lo x g r B' R' w2 D' := HC.out.step HX.out.lt HLO.out a3 a4 HF1.out b3 b4 f2
    have HJP : Aside0 (JP lo x ((w2.setCell ⟨x, 1, none⟩ (.pointer (some ⟨lb, 0, none⟩))).setCell ⟨x, 3, none⟩ (.pointer (some ⟨mb, 0, none⟩))) D' (some false) (i + 70)) := ⟨by
      have hR1 : ∀ k, R k → k < W.heap.size := HC.out.e.lt
      have hlb : lb < w1.heap.size := a2.lt
      have ka2 : IsLog w2 lb g false := a2.kept (f2.keep _ hlb (fun h => by have := hR1 _ h; omega))
      have s1 := HF1.out.size
      have s2 := f2.size
      have hlbx : lb ≠ x := by have := HX.out.lt; omega
      have hmbx : mb ≠ x := by have := HX.out.lt; omega
      refine ⟨g, r, B', R', _, _, HX4.out, ⟨hc2.d.fr HF4.out (fun k hb e => hc2.xb (e ▸ hb)), hc2.e.fr HF4.out (fun k hb e => hc2.xr (e ▸ hb)), hc2.apart, hc2.lb, hc2.lr, hc2.xb, hc2.xr, hc2.lx⟩, ⟨lb, mb, rfl, rfl, ka2.kept (HF4.out.keep _ ka2.lt hlbx), b2.kept (HF4.out.keep _ b2.lt hmbx), Nat.le_trans HLO.out a1, by have := HLO.out; omega, a5, fun hr => (b4 lb hr).elim (fun h => by have := hR1 _ h; omega) (fun h => by omega), fun hb => by have := a3.lt _ hb; omega, b5⟩, HJ.out, HB.out⟩⟩
    clear hx2 f2 hbad2 hgood2 cf HG1 HB1 hc2 a1 a2 a3 a4 a5 b1 b2 b3 b4 b5
    go_wp2_with fail
    go_ret
    exact ⟨rfl, HJP.out, HFX.out⟩
  · obtain ⟨rfl, m1⟩ := HB1.out hz
    obtain ⟨rfl, m2⟩ := hbad2 hz
    obtain ⟨B', a1, a2, a3⟩ := m1
    obtain ⟨R', b1, b2, b3⟩ := m2
    have hc2 : JC lo x g r B' R' w2 D' := HC.out.step HX.out.lt HLO.out a1 a2 a3 b1 b2 b3
    have HJP : Aside0 (JP lo x ((w2.setCell ⟨x, 1, none⟩ (.pointer none)).setCell ⟨x, 3, none⟩ (.pointer none)) D' none (i + 70)) := ⟨by
      exact ⟨g, r, B', R', _, _, HX4.out, ⟨hc2.d.fr HF4.out (fun k hb e => hc2.xb (e ▸ hb)), hc2.e.fr HF4.out (fun k hb e => hc2.xr (e ▸ hb)), hc2.apart, hc2.lb, hc2.lr, hc2.xb, hc2.xr, hc2.lx⟩, ⟨rfl, rfl⟩, HJ.out, HB.out⟩⟩
    clear hx2 f2 hbad2 hgood2 cf HG1 HB1 hc2 a1 a2 a3 b1 b2 b3
    go_wp2_with fail
    go_ret
    exact ⟨by simp, HJP.out, HFX.out⟩
end Go.Proofs.Ytppgbfkhiofjiaa.X
