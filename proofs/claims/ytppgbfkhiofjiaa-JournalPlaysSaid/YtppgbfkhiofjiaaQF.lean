/-
  Of the proof of JournalPlays (put together by wip/tools/mkclaimj.py):
  The reference's journal: the contracts of head.
  The reference's journal: the contracts of Format, Sectors.
  The reference's journal: the contracts of Log.Sectors, Log.Read.
  The reference's journal: the contract of done.
  The reference's journal: the contract of wrong.
  The reference's journal: the contract of steps (what is carried along).
-/
import Derived.Test.YtppgbfkhiofjiaaQB
import Derived.Test.YtppgbfkhiofjiaaQE
namespace Go.Proofs.Ytppgbfkhiofjiaa.X
open Go.RowKit Go.Proofs.YtppgbfkhiofjiaaW.PrintWords Go.Proofs.YtppgbfkhiofjiaaW.PrintLast Go.Proofs.YtppgbfkhiofjiaaW.PrintMore Go.Proofs.Ytppgbfkhiofjiaa.Y
set_option linter.unusedVariables false
set_option linter.unusedSimpArgs false

theorem rfour_calls (s : Int) (w : World) (hs : 0 ≤ s ∧ s < 4294967296) : Calls Try.prog 85 #[.int .u32 s] w fun e w' => ∃ v, e = .returned v ∧ Kd.R (Kd.int .u8) 5 w' w.heap.size (fun _ => True) v (fourL s) ∧ Below w.heap.size w w' := by
  have h := redlineref24_four.calls s _ w rfl
  have e : ([(Int.tmod s 256) % 256, ((Int.tdiv s 256) % 4294967296) % 256, ((Int.tdiv s 65536) % 4294967296) % 256, ((Int.tdiv s 16777216) % 4294967296) % 256] : List Int) = fourL s := by
    unfold fourL
    obtain ⟨h1, h2⟩ := hs
    rw [Int.tmod_eq_emod_of_nonneg h1, Int.tdiv_eq_ediv_of_nonneg h1, Int.tdiv_eq_ediv_of_nonneg h1, Int.tdiv_eq_ediv_of_nonneg h1]
    have e1 : s % 256 % 256 = s % 256 := by omega
    have e2 : s / 256 % 4294967296 % 256 = s / 256 % 256 := by omega
    have e3 : s / 65536 % 4294967296 % 256 = s / 65536 % 256 := by omega
    have e4 : s / 16777216 % 4294967296 % 256 = s / 16777216 % 256 := by omega
    rw [e1, e2, e3, e4]
  rw [e] at h
  exact h
set_option maxHeartbeats 4000000 in
set_option maxRecDepth 100000 in
theorem rhead_calls (a s : Int) (w : World) (ha : 0 ≤ a ∧ a < 4294967296) (hs : 0 ≤ s ∧ s < 4294967296) :
    Calls Try.prog 66 #[.int .i64 a, .int .u32 s] w fun e w' => ∃ A c, e = .returned (.slice A 64 c) ∧ Kd.R (Kd.int .u8) 5 w' w.heap.size (fun _ => True) (.slice A 64 c) (headL a s) ∧ Below w.heap.size w w' := by
  obtain ⟨a1, a2⟩ := ha
  obtain ⟨s1, s2⟩ := hs
  have FA := fun W => rfour_calls a W ⟨a1, a2⟩
  have FA := Aside0.mk FA
  have FS := fun W => rfour_calls s W ⟨s1, s2⟩
  have FS := Aside0.mk FS
  have HO0 : Aside0 ((w.alloc (.cells #[] 5)).ownsRow w.heap.size 5 1 (.slice (some ⟨w.heap.size, 0, none⟩) 0 0) ([] : List Int).length (nums .u8 [])) := ⟨rfl, .inr ⟨w.heap.size, 0, #[], rfl, Nat.le_refl _, heap_alloc_new _ _, Nat.le_refl _, by decide, rfl, rfl⟩⟩
  have HB0 : Aside0 (Below w.heap.size w (w.alloc (.cells #[] 5))) := ⟨(Below.refl _ _).alloc (Nat.le_refl _) _⟩
  go_enter Try.func66, Try.ntmps66
  go_wp2_with (first
    | ((with_reducible refine gate_dst (N := 7) rfl ?_); at_builtin; refine print_append_str (w0 := w) w.heap.size rfl (.tmp 6) _ 22 9 5 rfl Try.underlying22 Try.underlying9 info5 _ [] _ rfl rfl HO0.out HB0.out HB0.out.size (by decide) ?_; intro v1 w1 q1 q2 q3; have HR1 : Aside0 (Kd.R (Kd.int .u8) 5 w1 w.heap.size (fun k => w.heap.size ≤ k) v1 [82, 76, 74, 49]) := ⟨Kd.R_of_own (enc := Value.int .u8) (h1 := fun _ => rfl) q1 (fun k e => own_base q1 k e)⟩; have HB1 := Aside0.mk q2; clear q1 q2 q3 HO0 HB0))
  refine (FA.out w1).mono ?_
  rintro e w2 ⟨v2, rfl, r2, b2⟩
  obtain ⟨A2, c2, e2, _, hC2⟩ := Kd.R_reads r2
  rw [show (fourL a).length = 4 from rfl] at e2 hC2
  subst e2
  have HC2 : Aside0 (Kd.C (Kd.int .u8) w2 A2 4 (fourL a)) := ⟨hC2⟩
  have HR2 : Aside0 (Kd.R (Kd.int .u8) 5 w2 w.heap.size (fun k => w.heap.size ≤ k) v1 [82, 76, 74, 49]) := ⟨Kd.R_step HR1.out (fun b hb hlt => b2.block b hlt)⟩
  have HB2 : Aside0 (Below w.heap.size w w2) := ⟨HB1.out.trans (b2.mono HB1.out.size)⟩
  clear r2 b2 hC2 HR1 HB1
  go_wp2_with (first
    | ((with_reducible refine gate_builtin (b := .append) (xs := #[.tmp 8, .tmp 11]) rfl ?_); at_builtin; refine Kd.R_append_rows (Kd.int .u8) (w0 := w) w.heap.size rfl (.tmp 8) (.tmp 11) 22 5 (.int .u8 0) 1 rfl Try.underlying22 info5 rfl (by decide) (by omega) v1 [82, 76, 74, 49] (fourL a) _ _ _ (fun k => w.heap.size ≤ k) (fun _ => False) rfl rfl HR2.out HC2.out (fun _ _ h => h) (fun _ h => h.elim) (fun k h => Nat.le_trans HB2.out.size h) HB2.out HB2.out.size (by decide) ?_; intro v3 w3 q1 q2 q3 q4; have HR3 := Aside0.mk q1; have HB3 := Aside0.mk q2; clear q1 q2 q3 q4 HR2 HB2 HC2))
  refine (FS.out w3).mono ?_
  rintro e w4 ⟨v4, rfl, r4, b4⟩
  obtain ⟨A4, c4, e4, _, hC4⟩ := Kd.R_reads r4
  rw [show (fourL s).length = 4 from rfl] at e4 hC4
  subst e4
  have HC4 : Aside0 (Kd.C (Kd.int .u8) w4 A4 4 (fourL s)) := ⟨hC4⟩
  have HR4 : Aside0 (Kd.R (Kd.int .u8) 5 w4 w.heap.size (fun k => w.heap.size ≤ k) v3 ([82, 76, 74, 49] ++ fourL a)) := ⟨Kd.R_step HR3.out (fun b hb hlt => b4.block b hlt)⟩
  have HB4 : Aside0 (Below w.heap.size w w4) := ⟨HB3.out.trans (b4.mono HB3.out.size)⟩
  clear r4 b4 hC4 HR3 HB3
  go_wp2_with (first
    | ((with_reducible refine gate_builtin (b := .append) (xs := #[.tmp 12, .tmp 14]) rfl ?_); at_builtin; refine Kd.R_append_rows (Kd.int .u8) (w0 := w) w.heap.size rfl (.tmp 12) (.tmp 14) 22 5 (.int .u8 0) 1 rfl Try.underlying22 info5 rfl (by decide) (by omega) v3 ([82, 76, 74, 49] ++ fourL a) (fourL s) _ _ _ (fun k => w.heap.size ≤ k) (fun _ => False) rfl rfl HR4.out HC4.out (fun _ _ h => h) (fun _ h => h.elim) (fun k h => Nat.le_trans HB4.out.size h) HB4.out HB4.out.size (by show (8 + 4) * 1 ≤ _; omega) ?_; intro v5 w5 q1 q2 q3 q4; have HR5 := Aside0.mk q1; have HB5 := Aside0.mk q2; clear q1 q2 q3 q4 HR4 HB4 HC4)
    | ((with_reducible refine gate_dst (N := 17) rfl ?_); at_builtin; refine Kd.R_append_zeros (Kd.int .u8) (w0 := w) w.heap.size rfl (.tmp 16) (.const (.int .i64 52)) 22 3 5 (.int .u8 0) 1 rfl Try.underlying22 Try.underlying3 info5 rfl (by decide) (by omega) v5 ([82, 76, 74, 49] ++ fourL a ++ fourL s) 0 (52 : Int) (fun k => w.heap.size ≤ k) rfl rfl rfl (fun k h => Nat.le_trans HB5.out.size h) HR5.out (by omega) HB5.out HB5.out.size (by show (12 + 52) * 1 ≤ _; omega) ?_; intro v6 w6 q1 q2 q3 q4; have HR6 := Aside0.mk q1; have HB6 := Aside0.mk q2; clear q1 q2 q3 q4 HR5 HB5))
  go_ret
  have hR : Kd.R (Kd.int .u8) 5 w6 w.heap.size (fun k => w.heap.size ≤ k) v6 (headL a s) := HR6.out
  obtain ⟨A6, c6, e6, _, hC6⟩ := Kd.R_reads hR
  rw [headL_length] at e6
  subst e6
  exact ⟨A6, c6, rfl, Kd.R_mono hR (fun _ _ => trivial), HB6.out⟩
end Go.Proofs.Ytppgbfkhiofjiaa.X

namespace Go.Proofs.Ytppgbfkhiofjiaa.X
open Go.RowKit Go.Proofs.YtppgbfkhiofjiaaW.PrintWords Go.Proofs.YtppgbfkhiofjiaaW.PrintLast Go.Proofs.YtppgbfkhiofjiaaW.PrintMore Go.Proofs.Ytppgbfkhiofjiaa.Y
set_option linter.unusedVariables false
set_option linter.unusedSimpArgs false

def RMoved (w0 : World) (R : Nat → Prop) (r : Nat) (W : World) (D : DS) : Prop := ∃ R', IsRef W R' r D ∧ (∀ k, R' k → R k ∨ w0.heap.size ≤ k) ∧ Fr R w0 W
section
variable {w w0 W W' w1 w2 : World} {R R1 : Nat → Prop} {r : Nat} {D : DS}
theorem RMoved.refl (h : IsRef w R r D) : RMoved w R r w D := ⟨R, h, fun _ h => .inl h, Fr.refl _ _⟩
theorem RMoved.of (h : IsRef W R r D) (f : Fr R w W) : RMoved w R r W D := ⟨R, h, fun _ h => .inl h, f⟩
theorem RMoved.fr (m : RMoved w0 R r W D) : Fr R w0 W := m.elim fun _ h => h.2.2
theorem RMoved.back (m : RMoved w1 R1 r w2 D) (hs : ∀ k, R1 k → R k ∨ w0.heap.size ≤ k) (f : Fr R w0 w1) : RMoved w0 R r w2 D := by
  obtain ⟨B2, h, h1, f2⟩ := m
  exact ⟨B2, h, fun k hk => (h1 k hk).elim (hs k) (fun h => .inr (Nat.le_trans f.size h)), f.trans f2 hs⟩
theorem RMoved.ahead (m : RMoved w0 R r W D) (f : Fr (fun _ => False) w w0) : RMoved w R r W D := m.back (fun _ h => .inl h) (f.mono (fun _ h => h.elim))
theorem RMoved.quiet (m : RMoved w0 R r W D) (f : Fr (fun _ => False) W W') : RMoved w0 R r W' D := by
  obtain ⟨B', h, h1, f1⟩ := m
  exact ⟨B', h.fr f (fun _ _ h => h), h1, f1.trans f (fun _ h => h.elim)⟩
theorem RMoved.chain (m : RMoved w0 R r W D) {D' : DS} (k : ∀ R', IsRef W R' r D → RMoved W R' r W' D') : RMoved w0 R r W' D' := by
  obtain ⟨R', h, h1, f1⟩ := m
  exact (k R' h).back h1 f1
end
theorem seqD_nil (r : Int × DS) : seqD r (fun D => (0, D)) = r := by
  unfold seqD
  split
  · rename_i h
    exact Prod.ext h.symm rfl
  · rfl
theorem lays_eq (h : List Int) (D : DS) : laysD h D = seqD (writeD D 0 h) flushD := by
  show seqD (writeD D 0 h) (runD [flushD]) = _
  congr 1
  funext D
  exact seqD_nil _
theorem jlim {i : Nat} {D : DS} (h : JOk i D) (hi : i ≤ 1000000) : (-1 ≤ D.steps ∧ D.steps < 9223372036854775807) ∧ D.left ≤ 9223372036854775807 ∧ D.c.length ≤ 1000000 := by
  have := h.steps
  have := h.u
  exact ⟨by omega, h.left, by omega⟩

set_option maxHeartbeats 4000000 in
set_option maxRecDepth 100000 in
theorem rformat_calls (r : Nat) (R : Nat → Prop) (D : DS) (w : World) (i : Nat) (h : IsRef w R r D) (ho : JOk i D) (hi : i ≤ 400000) :
    Calls Try.prog 35 #[.pointer (some ⟨r, 0, none⟩)] w fun e w' => e = .returned (.int .i64 (formatD D).1) ∧ RMoved w R r w' (formatD D).2 := by
  have SC := Aside0.mk (rsectors_calls r R D w h)
  have H := Aside0.mk h
  have HO := Aside0.mk ho
  by_cases hn : D.n ≤ 69
  · have HE : Aside0 (formatD D = (2, D)) := ⟨by unfold formatD; rw [if_pos hn]⟩
    obtain ⟨n, hnn⟩ : ∃ n, D.n = n := ⟨_, rfl⟩
    rw [hnn] at SC hn
    clear h ho hnn
    go_enter Try.func35, Try.ntmps35
    go_wp2_with fail
    refine SC.out.mono ?_
    rintro e w1 ⟨rfl, f1⟩
    go_wp2_with fail
    go_ret
    rw [HE.out]
    exact ⟨rfl, (RMoved.refl H.out).quiet (Fr.of_drawn f1 _)⟩
  · have HE : Aside0 (formatD D = seqD (writeD D 0 (headL 0 0)) flushD) := ⟨by unfold formatD; rw [if_neg hn, lays_eq]⟩
    obtain ⟨n, hnn⟩ : ∃ n, D.n = n := ⟨_, rfl⟩
    rw [hnn] at SC hn
    clear h ho hnn
    go_enter Try.func35, Try.ntmps35
    go_wp2_with fail
    refine SC.out.mono ?_
    rintro e w1 ⟨rfl, f1⟩
    have HF1 := Aside0.mk (Fr.of_drawn f1 (fun _ => False))
    have HC := Aside0.mk (rhead_calls 0 0 w1 ⟨by omega, by omega⟩ ⟨by omega, by omega⟩)
    clear f1
    go_wp2_with fail
    refine HC.out.mono ?_
    rintro e w2 ⟨A, c, rfl, hR, hb⟩
    have hF2 := HF1.out.trans (Fr.of_below hb (fun _ => False)) (fun _ h => h.elim)
    obtain ⟨A', c', e', hcap, hC⟩ := Kd.R_reads hR
    rw [headL_length] at e' hC hcap
    injection e' with e1 _ e2
    subst e1 e2
    obtain ⟨l1, l2, l3⟩ := jlim HO.out (by omega)
    have WC := rwrite_calls r R D 0 A c (headL 0 0) w2 (H.out.fr hF2 (fun _ _ h => h)) l1 l2 l3 hC hcap (fun ad e h9 hRk => by
      subst e
      obtain ⟨inner, ho⟩ := Kd.R_own hR
      have h1 := own_base ho ad.block rfl
      have h2 := H.out.lt _ hRk
      have h3 := HF1.out.size
      omega)
    have WC := Aside0.mk WC
    have HF2 := Aside0.mk hF2
    clear hR hb hF2 hcap hC l1 l2 l3 HC
    rw [headL_length] at WC
    go_wp2_with fail
    refine WC.out.mono ?_
    rintro e w3 ⟨rfl, ⟨R', h3, hs3⟩, f3⟩
    have HJ := HO.out.write 0 (headL 0 0)
    obtain ⟨q, hq⟩ : ∃ q, writeD D 0 (headL 0 0) = q := ⟨_, rfl⟩
    rw [hq] at h3 HJ HE WC ⊢
    obtain ⟨q1, D3⟩ := q
    have HR3 := Aside0.mk h3
    have HS3 := Aside0.mk (fun k h => (hs3 k h).elim .inl (fun h => .inr (Nat.le_trans HF2.out.size h)) : ∀ k, R' k → R k ∨ w.heap.size ≤ k)
    have HF3 := Aside0.mk (HF2.out.mono (fun _ h => h.elim) |>.trans f3 (fun _ h => .inl h) : Fr R w w3)
    have HJ := Aside0.mk HJ
    clear h3 hs3 f3 WC hq
    by_cases hq1 : q1 = 0
    · subst hq1
      obtain ⟨l1, l2, l3⟩ := jlim HJ.out (by omega)
      have FC := Aside0.mk (rflush_calls r R' D3 w3 HR3.out l1 l2 l3)
      clear l1 l2 l3
      go_wp2_with fail
      refine FC.out.mono ?_
      rintro e w4 ⟨rfl, h4, f4⟩
      go_wp2_with fail
      go_ret
      rw [HE.out, seqD, if_pos rfl]
      exact ⟨rfl, R', h4, HS3.out, HF3.out.trans f4 HS3.out⟩
    · have hq2 : (q1 == 0) = false := by simpa using hq1
      go_wp2_with fail
      go_ret
      rw [HE.out, seqD, if_neg hq1]
      exact ⟨rfl, R', HR3.out, HS3.out, HF3.out⟩
end Go.Proofs.Ytppgbfkhiofjiaa.X

namespace Go.Proofs.Ytppgbfkhiofjiaa.X
open Go.RowKit Go.Proofs.YtppgbfkhiofjiaaW.PrintWords Go.Proofs.YtppgbfkhiofjiaaW.PrintLast Go.Proofs.YtppgbfkhiofjiaaW.PrintMore Go.Proofs.Ytppgbfkhiofjiaa.Y
set_option linter.unusedVariables false
set_option linter.unusedSimpArgs false

/-- The reference's journal in memory: its disk, and whether it is down. -/
def IsRLog (w : World) (mb r : Nat) (dn : Bool) : Prop := w.heap[mb]? = some (.cells #[.pointer (some ⟨r, 0, none⟩), .bool dn] 125 (0, 0))
theorem IsRLog.kept {w w' : World} {mb r : Nat} {dn : Bool} (h : IsRLog w mb r dn) (hk : w'.heap[mb]? = w.heap[mb]?) : IsRLog w' mb r dn := hk.trans h
theorem IsRLog.lt {w : World} {mb r : Nat} {dn : Bool} (h : IsRLog w mb r dn) : mb < w.heap.size := (Array.getElem?_eq_some_iff.1 h).1
theorem IsRLog.cells {w : World} {mb r : Nat} {dn : Bool} (h : IsRLog w mb r dn) : w.cell? ⟨mb, 0, none⟩ = some (.pointer (some ⟨r, 0, none⟩)) ∧ w.cell? ⟨mb, 1, none⟩ = some (.bool dn) ∧ w.frozen? ⟨mb, 1, none⟩ = false := by
  refine ⟨?_, ?_, frozen_of_row w mb 1 _ 125 h⟩ <;> rw [cell_of_row w mb _ _ 125 (0, 0) h] <;> rfl
theorem IsRLog.put {w : World} {mb r : Nat} {dn : Bool} (h : IsRLog w mb r dn) (x : Bool) : IsRLog (w.setCell ⟨mb, 1, none⟩ (.bool x)) mb r x := by
  unfold IsRLog
  rw [heap_setCell_same w mb 1 _ 125 _ h]
  rfl
theorem IsRef.nn {w : World} {R : Nat → Prop} {r : Nat} {D : DS} (h : IsRef w R r D) : 1 ≤ D.n ∧ D.n ≤ 4096 := by
  obtain ⟨lv, pv, lb, qs, n, h1, h2, h3, h4, h5, h6, h7, _⟩ := h
  rw [h5]
  omega

set_option maxHeartbeats 4000000 in
set_option maxRecDepth 100000 in
theorem rlogsect_calls (mb r : Nat) (dn : Bool) (R : Nat → Prop) (D : DS) (w : World) (h : IsRef w R r D) (hlog : IsRLog w mb r dn) :
    Calls Try.prog 71 #[.pointer (some ⟨mb, 0, none⟩)] w fun e w' => e = .returned (.int .i64 (D.n - 69)) ∧ Drawn0 w w' := by
  have SC := Aside0.mk (rsectors_calls r R D w h)
  obtain ⟨c0, c1, c2⟩ := hlog.cells
  obtain ⟨h1, h2⟩ := h.nn
  clear h c1 c2 hlog
  go_enter Try.func71, Try.ntmps71
  go_wp2_with fail
  refine SC.out.mono ?_
  rintro e w' ⟨rfl, hd⟩
  have HD := Aside0.mk hd
  clear hd
  go_wp2_with fail
  go_ret
  exact ⟨rfl, HD.out⟩

set_option maxHeartbeats 4000000 in
set_option maxRecDepth 100000 in
theorem rlread_no (mb r : Nat) (dn : Bool) (R : Nat → Prop) (D : DS) (n : Int) (w : World) (h : IsRef w R r D) (hlog : IsRLog w mb r dn) (hh : hasB D n = false) :
    Calls Try.prog 70 #[.pointer (some ⟨mb, 0, none⟩), .int .i64 n] w fun e w' => e = .returned (.tuple #[.slice none 0 0, .int .i64 2]) ∧ Fr (fun _ => False) w w' := by
  have SC := Aside0.mk (rlogsect_calls mb r dn R D w h hlog)
  obtain ⟨h1, h2⟩ := h.nn
  have hr := of_decide_eq_false hh
  obtain ⟨m, hm⟩ : ∃ m, D.n = m := ⟨_, rfl⟩
  rw [hm] at SC h1 h2 hr
  clear h hlog hh hm
  by_cases hn : n < 0
  · clear hr
    go_enter Try.func70, Try.ntmps70
    go_wp2_with fail
    go_ret2
    exact ⟨rfl, Fr.refl _ _⟩
  · have hn2 : m - 69 ≤ n := by omega
    clear hr
    go_enter Try.func70, Try.ntmps70
    go_wp2_with fail
    refine SC.out.mono ?_
    rintro e w' ⟨rfl, hd⟩
    have HD := Aside0.mk (Fr.of_drawn hd (fun _ => False))
    clear hd
    go_wp2_with fail
    go_ret2
    exact ⟨rfl, HD.out⟩
set_option maxHeartbeats 4000000 in
set_option maxRecDepth 100000 in
theorem rlread_down (mb r : Nat) (dn : Bool) (R : Nat → Prop) (D : DS) (n : Int) (w : World) (h : IsRef w R r D) (hlog : IsRLog w mb r dn) (hh : hasB D n = true) (hd : D.down = true) :
    Calls Try.prog 70 #[.pointer (some ⟨mb, 0, none⟩), .int .i64 n] w fun e w' => e = .returned (.tuple #[.slice none 0 0, .int .i64 230]) ∧ Fr (fun _ => False) w w' := by
  have SC := Aside0.mk (rlogsect_calls mb r dn R D w h hlog)
  have hlk := has_look hh
  rw [if_pos hd] at hlk
  have RC : Aside0 (∀ W, Fr (fun _ => False) w W → Calls Try.prog 42 #[.pointer (some ⟨r, 0, none⟩), .int .i64 (69 + n)] W fun e w' => e = .returned (.tuple #[.slice none 0 0, .int .i64 230]) ∧ Drawn0 W w') := ⟨fun W f => by
    have := rread_bad r R D (69 + n) W (h.fr f (fun _ _ h => h)) (by rw [hlk]; decide)
    rwa [hlk] at this⟩
  have CK : Aside0 (∀ W, Fr (fun _ => False) w W → W.cell? ⟨mb, 0, none⟩ = some (.pointer (some ⟨r, 0, none⟩))) := ⟨fun W f => cellK f hlog.cells.1⟩
  obtain ⟨h1, h2⟩ := h.nn
  have hr := of_decide_eq_true hh
  obtain ⟨r1, r2⟩ := hr
  obtain ⟨m, hm⟩ : ∃ m, D.n = m := ⟨_, rfl⟩
  rw [hm] at SC h1 h2 r2
  clear h hlog hh hm hd hlk
  go_enter Try.func70, Try.ntmps70
  go_wp2_with fail
  refine SC.out.mono ?_
  rintro e w1 ⟨rfl, hd⟩
  have HD := Aside0.mk (Fr.of_drawn hd (fun _ => False))
  have c0 := CK.out _ HD.out
  clear hd
  go_wp2_with fail
  refine (RC.out _ HD.out).mono ?_
  rintro e w2 ⟨rfl, hd⟩
  have HD2 := Aside0.mk (HD.out.trans (Fr.of_drawn hd (fun _ => False)) (fun _ h => h.elim))
  clear hd
  go_wp2_with fail
  go_ret2
  exact ⟨rfl, HD2.out⟩
set_option maxHeartbeats 4000000 in
set_option maxRecDepth 100000 in
theorem rlread_yes (mb r : Nat) (dn : Bool) (R : Nat → Prop) (D : DS) (n : Int) (w : World) (h : IsRef w R r D) (hlog : IsRLog w mb r dn) (hh : hasB D n = true) (hd : D.down = false) (hc : D.c.length ≤ 1000000) :
    Calls Try.prog 70 #[.pointer (some ⟨mb, 0, none⟩), .int .i64 n] w fun e w' => ∃ g cap, e = .returned (.tuple #[.slice (some ⟨g, 0, none⟩) 64 cap, .int .i64 0]) ∧ w'.ownsRow 0 5 1 (.slice (some ⟨g, 0, none⟩) 64 cap) 64 (nums .u8 (rd64 D (69 + n))) ∧ Fr (fun _ => False) w w' := by
  have SC := Aside0.mk (rlogsect_calls mb r dn R D w h hlog)
  have hlk := has_look hh
  rw [if_neg (by rw [hd]; decide)] at hlk
  have RC : Aside0 (∀ W, Fr (fun _ => False) w W → Calls Try.prog 42 #[.pointer (some ⟨r, 0, none⟩), .int .i64 (69 + n)] W fun e w' => ∃ g cap, e = .returned (.tuple #[.slice (some ⟨g, 0, none⟩) 64 cap, .int .i64 0]) ∧ w'.ownsRow 0 5 1 (.slice (some ⟨g, 0, none⟩) 64 cap) 64 (nums .u8 (rd64 D (69 + n))) ∧ Fr (fun _ => False) W w') := ⟨fun W f => rread_calls r R D (69 + n) W (h.fr f (fun _ _ h => h)) hlk hc⟩
  have CK : Aside0 (∀ W, Fr (fun _ => False) w W → W.cell? ⟨mb, 0, none⟩ = some (.pointer (some ⟨r, 0, none⟩))) := ⟨fun W f => cellK f hlog.cells.1⟩
  obtain ⟨h1, h2⟩ := h.nn
  have hr := of_decide_eq_true hh
  obtain ⟨r1, r2⟩ := hr
  obtain ⟨m, hm⟩ : ∃ m, D.n = m := ⟨_, rfl⟩
  rw [hm] at SC h1 h2 r2
  clear h hlog hh hm hd hlk hc
  go_enter Try.func70, Try.ntmps70
  go_wp2_with fail
  refine SC.out.mono ?_
  rintro e w1 ⟨rfl, hd⟩
  have HD := Aside0.mk (Fr.of_drawn hd (fun _ => False))
  have c0 := CK.out _ HD.out
  clear hd
  go_wp2_with fail
  refine (RC.out _ HD.out).mono ?_
  rintro e w2 ⟨g, cap, rfl, ho, hf⟩
  have HO := Aside0.mk ho
  have HD2 := Aside0.mk (HD.out.trans hf (fun _ h => h.elim))
  clear ho hf
  go_wp2_with fail
  go_ret2
  exact ⟨g, cap, rfl, HO.out, HD2.out⟩
end Go.Proofs.Ytppgbfkhiofjiaa.X

namespace Go.Proofs.Ytppgbfkhiofjiaa.X
open Go.RowKit Go.Proofs.YtppgbfkhiofjiaaW.PrintWords Go.Proofs.YtppgbfkhiofjiaaW.PrintLast Go.Proofs.YtppgbfkhiofjiaaW.PrintMore Go.Proofs.Ytppgbfkhiofjiaa.Y
set_option linter.unusedVariables false
set_option linter.unusedSimpArgs false

/-- A stable list of writes, at one place: its cells, and its bytes, stable too. -/
theorem stab_105 {w : World} {B : Nat → Prop} {A : Option Addr} {n : Nat} {l : List S105} (hn : l.length = n) (h : ∀ W, Fr B w W → Kd.C k105 W A n l) {W : World} {B' : Nat → Prop} (f : Fr B w W) (hs : ∀ k, B' k → B k ∨ w.heap.size ≤ k) {i : Nat} {x : S105} (hx : l[i]? = some x) :
    ∃ ad A1 c1, A = some ad ∧ W.cell? (ad.add (i * 2)) = some (.int .i64 x.f0) ∧ W.cell? ⟨(ad.add (i * 2)).block, (ad.add (i * 2)).off + 1, none⟩ = some (.slice A1 x.f1.length c1) ∧ x.f1.length ≤ c1 ∧
      ∀ W', Fr B' W W' → Kd.C (Kd.int .u8) W' A1 x.f1.length x.f1 := by
  obtain ⟨hi, hget⟩ := List.getElem?_eq_some_iff.1 hx
  have key : ∀ W, Fr B w W → ∃ ad A1 c1, A = some ad ∧ W.cell? (ad.add (i * 2)) = some (.int .i64 x.f0) ∧ W.cell? ⟨(ad.add (i * 2)).block, (ad.add (i * 2)).off + 1, none⟩ = some (.slice A1 x.f1.length c1) ∧ x.f1.length ≤ c1 ∧ Kd.C (Kd.int .u8) W A1 x.f1.length x.f1 := by
    intro W f
    obtain ⟨ad, A1, c1, e, g1, g2, g3, g4⟩ := at_T105 (h W f) (i : Int) (by omega) (by omega)
    have hr : rd_T105 l (i : Int) = x := by
      unfold rd_T105
      rw [Int.toNat_natCast, List.getD_eq_getElem?_getD, hx]
      rfl
    rw [hr, Int.toNat_natCast] at g1
    rw [hr, Int.toNat_natCast] at g2
    rw [hr] at g3 g4
    exact ⟨ad, A1, c1, e, g1, g2, g3, g4⟩
  obtain ⟨ad, A1, c1, e, g1, g2, g3, g4⟩ := key W f
  refine ⟨ad, A1, c1, e, g1, g2, g3, fun W' f' => ?_⟩
  have hb : ¬ B ad.block := stab_C (d := k105) (by decide) h ad e (by omega)
  have hlt : ad.block < w.heap.size := lt_C (d := k105) (by decide) (h w (Fr.refl _ _)) ad e (by omega)
  have hb' : ¬ B' ad.block := fun hB => (hs _ hB).elim hb (fun hge => by omega)
  obtain ⟨ad', A1', c1', e', g1', g2', g3', g4'⟩ := key W' (f.trans f' hs)
  rw [e] at e'
  injection e' with e'
  subst e'
  have := cellB f' (a := ⟨(ad.add (i * 2)).block, (ad.add (i * 2)).off + 1, none⟩) (by rw [add_block]; exact hb') g2
  rw [this] at g2'
  injection g2' with g2'
  injection g2' with g2' _ _
  subst g2'
  exact g4'

theorem wr_drop {l : List S105} {k : Nat} {x : S105} (hx : l[k]? = some x) (D : DS) : writesD (wr69 (jw (l.drop k))) D = seqD (writeD D (69 + x.f0) x.f1) (writesD (wr69 (jw (l.drop (k + 1))))) := by
  obtain ⟨hlt, hget⟩ := List.getElem?_eq_some_iff.1 hx
  rw [List.drop_eq_getElem_cons hlt, hget]
  rfl
theorem fin_eq (l : List S102) (D : DS) : finishD l D = seqD (writesD (wr69 l) D) (fun D => seqD (flushD D) (laysD (headL 0 0))) := by
  show seqD (writesD (wr69 l) D) (runD [flushD, laysD (headL 0 0)]) = _
  congr 1
  funext D
  show seqD (flushD D) (runD [laysD (headL 0 0)]) = _
  congr 1
  funext D
  exact seqD_nil _
/-- A head is written and flushed: what the reference calls for it. -/
theorem rlay_head (r : Nat) (R : Nat → Prop) (D : DS) (a s : Int) (A : Option Addr) (c : Nat) (w w2 : World) (i : Nat) (h : IsRef w R r D) (ho : JOk i D) (hi : i ≤ 400000) (hR : Kd.R (Kd.int .u8) 5 w2 w.heap.size (fun _ => True) (.slice A 64 c) (headL a s)) (hb : Below w.heap.size w w2) :
    Calls Try.prog 50 #[.pointer (some ⟨r, 0, none⟩), .int .i64 0, .slice A 64 c] w2 fun e w' => e = .returned (.int .i64 (writeD D 0 (headL a s)).1) ∧ RMoved w R r w' (writeD D 0 (headL a s)).2 := by
  obtain ⟨A', c', e', hcap, hC⟩ := Kd.R_reads hR
  rw [headL_length] at e' hC hcap
  injection e' with e1 _ e2
  subst e1 e2
  obtain ⟨l1, l2, l3⟩ := jlim ho (by omega)
  have hF2 := Fr.of_below hb (fun _ => False)
  have WC := rwrite_calls r R D 0 A c (headL a s) w2 (h.fr hF2 (fun _ _ h => h)) l1 l2 l3 hC hcap (fun ad e h9 hRk => by
    subst e
    obtain ⟨inner, ho⟩ := Kd.R_own hR
    have h1 := own_base ho ad.block rfl
    have h2 := h.lt _ hRk
    omega)
  rw [headL_length] at WC
  refine WC.mono ?_
  rintro e w3 ⟨rfl, ⟨R', h3, hs3⟩, f3⟩
  exact ⟨rfl, RMoved.ahead ⟨R', h3, hs3, f3⟩ hF2⟩

set_option maxHeartbeats 4000000 in
set_option maxRecDepth 100000 in
theorem rdone_calls (r : Nat) (R : Nat → Prop) (D : DS) (A : Option Addr) (cp n : Nat) (l : List S105) (w : World) (i : Nat) (h : IsRef w R r D) (ho : JOk i D) (hi : i + n ≤ 300000) (hn : l.length = n) (hl : ∀ W, Fr R w W → Kd.C k105 W A n l) (hr : ∀ x ∈ l, 0 ≤ x.f0 ∧ x.f0 ≤ 1000000) :
    Calls Try.prog 87 #[.pointer (some ⟨r, 0, none⟩), .slice A n cp] w fun e w' => e = .returned (.int .i64 (finishD (jw l) D).1) ∧ RMoved w R r w' (finishD (jw l) D).2 := by
  have HN := Aside0.mk hn
  have HL := Aside0.mk hl
  have HR := Aside0.mk hr
  have H0 : Aside0 (∃ D', RMoved w R r w D' ∧ JOk (i + 0) D' ∧ writesD (wr69 (jw l)) D = writesD (wr69 (jw (l.drop 0))) D') := ⟨⟨D, RMoved.refl h, ho, by rw [List.drop_zero]⟩⟩
  have HI0 := Aside0.mk hi
  have HFI := Aside0.mk (fin_eq (jw l) D)
  have hn5 : n ≤ 500000 := by omega
  clear hl hr hn h ho hi
  go_enter Try.func87, Try.ntmps87
  go_wp2_with fail
  go_loopg [5, 6] n (fun kq v5 v6 w' => ∃ (k : Nat), v5 = .int .i64 (k : Int) ∧ Aside0 (k + kq = n) ∧ Aside0 (∃ D', RMoved w R r w' D' ∧ JOk (i + k) D' ∧ writesD (wr69 (jw l)) D = writesD (wr69 (jw (l.drop k))) D'))
  case atStart => exact ⟨0, rfl, ⟨by omega⟩, H0⟩
  case round =>
    clear H0
    obtain ⟨k, rfl, HI, H1⟩ := hrel
    have hk0 : (0 : Int) ≤ (k : Int) := by omega
    cases gk with
    | zero =>
      have hk : k = n := by have := HI.out; omega
      subst hk
      obtain ⟨D2, m, ho, e⟩ := H1.out
      rw [List.drop_eq_nil_of_le (by rw [HN.out]; omega)] at e
      have HE : Aside0 (writesD (wr69 (jw l)) D = (0, D2)) := ⟨e⟩
      obtain ⟨R2, h2, hs2, f2⟩ := m
      obtain ⟨l1, l2, l3⟩ := jlim ho (by have := HI0.out; omega)
      have FC := Aside0.mk (rflush_calls r R2 D2 wr h2 l1 l2 l3)
      have HS2 := Aside0.mk hs2
      have HF2 := Aside0.mk f2
      have HJ := Aside0.mk ho.flush
      obtain ⟨q, hq⟩ : ∃ q, flushD D2 = q := ⟨_, rfl⟩
      rw [hq] at FC HJ
      have HQ := Aside0.mk hq
      obtain ⟨q1, D3⟩ := q
      clear hq h2 hs2 f2 ho e l1 l2 l3 H1
      go_wp2_with fail
      refine FC.out.mono ?_
      rintro e w1 ⟨rfl, h3, f3⟩
      have H3 := Aside0.mk h3
      have HF3 := Aside0.mk (HF2.out.trans f3 HS2.out)
      clear h3 f3 FC
      by_cases hq1 : q1 = 0
      · subst hq1
        have HC := Aside0.mk (rhead_calls 0 0 w1 ⟨by omega, by omega⟩ ⟨by omega, by omega⟩)
        go_wp2_with fail
        refine HC.out.mono ?_
        rintro e w2 ⟨A2, c2, rfl, hR, hb⟩
        have WC := rlay_head r R2 D3 0 0 A2 c2 w1 w2 _ H3.out HJ.out (by have := HI0.out; omega) hR hb
        have HJ2 := HJ.out.write 0 (headL 0 0)
        have hLE : Aside0 (finishD (jw l) D = seqD (writeD D3 0 (headL 0 0)) flushD) := ⟨by
          rw [HFI.out, HE.out]
          show (if (0 : Int) = 0 then seqD (flushD D2) (laysD (headL 0 0)) else (0, D2)) = _
          rw [if_pos rfl, HQ.out]
          show (if (0 : Int) = 0 then laysD (headL 0 0) D3 else (0, D3)) = _
          rw [if_pos rfl, lays_eq]⟩
        obtain ⟨p, hp⟩ : ∃ p, writeD D3 0 (headL 0 0) = p := ⟨_, rfl⟩
        rw [hp] at WC HJ2 hLE
        obtain ⟨p1, D4⟩ := p
        have WC := Aside0.mk WC
        have HJ2 := Aside0.mk HJ2
        clear hR hb hp HC
        go_wp2_with fail
        refine WC.out.mono ?_
        rintro e w3 ⟨rfl, m⟩
        obtain ⟨R4, h4, hs4, f4⟩ := m
        have HF4 := Aside0.mk (HF3.out.trans f4 HS2.out)
        have HS4 : Aside0 (∀ k, R4 k → R k ∨ w.heap.size ≤ k) := ⟨fun k h => (hs4 k h).elim (HS2.out k) (fun h => .inr (Nat.le_trans HF3.out.size h))⟩
        have H4 := Aside0.mk h4
        clear h4 hs4 f4 WC
        by_cases hp1 : p1 = 0
        · subst hp1
          obtain ⟨l1, l2, l3⟩ := jlim HJ2.out (by have := HI0.out; omega)
          have FC := Aside0.mk (rflush_calls r R4 D4 w3 H4.out l1 l2 l3)
          clear l1 l2 l3
          go_wp2_with fail
          refine FC.out.mono ?_
          rintro e w4 ⟨rfl, h5, f5⟩
          have H5 := Aside0.mk h5
          have HF5 := Aside0.mk f5
          clear h5 f5
          go_wp2_with fail
          go_ret
          rw [hLE.out, seqD, if_pos rfl]
          exact ⟨rfl, R4, H5.out, HS4.out, HF4.out.trans HF5.out HS4.out⟩
        · have hp2 : (p1 != 0) = true := by simpa using hp1
          go_wp2_with fail
          go_ret
          rw [hLE.out, seqD, if_neg hp1]
          exact ⟨rfl, R4, H4.out, HS4.out, HF4.out⟩
      · have hq2 : (q1 != 0) = true := by simpa using hq1
        have hLE : Aside0 (finishD (jw l) D = (q1, D3)) := ⟨by
          rw [HFI.out, HE.out]
          show (if (0 : Int) = 0 then seqD (flushD D2) (laysD (headL 0 0)) else (0, D2)) = _
          rw [if_pos rfl, HQ.out]
          show (if q1 = 0 then laysD (headL 0 0) D3 else (q1, D3)) = _
          rw [if_neg hq1]⟩
        go_wp2_with fail
        go_ret
        rw [hLE.out]
        exact ⟨rfl, R2, H3.out, HS2.out, HF3.out⟩
    | succ k1 =>
      have hk1 : (k : Int) < (n : Int) := by have := HI.out; omega
      have HI3 : Aside0 (k + 1 + k1 = n) := ⟨by have := HI.out; omega⟩
      obtain ⟨x, hx⟩ : ∃ x, l[k]? = some x := ⟨_, List.getElem?_eq_getElem (by rw [HN.out]; omega)⟩
      obtain ⟨D', ⟨R', h', hs', f'⟩, ho', he'⟩ := H1.out
      obtain ⟨ad, A1, cap1, rfl, g1, g2, g3, g4⟩ := stab_105 HN.out HL.out (Fr.refl R w) (B' := R) (fun _ h => .inl h) hx
      have hb : ¬ R ad.block := stab_C (d := k105) (by decide) HL.out ad rfl (by omega)
      have CE : Aside0 (∀ W, Fr R w W → W.cell? (ad.add (k * 2)) = some (.int .i64 x.f0) ∧ W.cell? ⟨(ad.add (k * 2)).block, (ad.add (k * 2)).off + 1, none⟩ = some (.slice A1 x.f1.length cap1)) := ⟨fun W f => ⟨cellB f (by rw [add_block]; exact hb) g1, cellB f (a := ⟨(ad.add (k * 2)).block, (ad.add (k * 2)).off + 1, none⟩) (by rw [add_block]; exact hb) g2⟩⟩
      obtain ⟨r1, r2⟩ := HR.out x (List.mem_of_getElem? hx)
      have HE : Aside0 (writesD (wr69 (jw (l.drop k))) D' = seqD (writeD D' (69 + x.f0) x.f1) (writesD (wr69 (jw (l.drop (k + 1)))))) := ⟨wr_drop hx D'⟩
      have HE' := Aside0.mk he'
      obtain ⟨l1, l2, l3⟩ := jlim ho' (by have := HI0.out; have := HI.out; omega)
      have hst : ∀ W', Fr R' wr W' → Kd.C (Kd.int .u8) W' A1 x.f1.length x.f1 := fun W' f2 => g4 W' (f'.trans f2 hs')
      have WC : Aside0 (∀ W, Fr (fun _ => False) wr W → Calls Try.prog 50 #[.pointer (some ⟨r, 0, none⟩), .int .i64 (69 + x.f0), .slice A1 x.f1.length cap1] W fun e w' => e = .returned (.int .i64 (writeD D' (69 + x.f0) x.f1).1) ∧ RMoved w R r w' (writeD D' (69 + x.f0) x.f1).2) := ⟨fun W f => by
        refine (rwrite_calls r R' D' (69 + x.f0) A1 cap1 x.f1 W (h'.fr f (fun _ _ h => h)) l1 l2 l3 (hst W (f.mono (fun _ h => h.elim))) g3 (stab_C (d := Kd.int .u8) (by decide) hst)).mono ?_
        rintro e w2 ⟨rfl, ⟨R2, h2, hs2⟩, f2⟩
        exact ⟨rfl, RMoved.back (RMoved.ahead ⟨R2, h2, hs2, f2⟩ f) hs' f'⟩⟩
      have HO2 := Aside0.mk (ho'.write (69 + x.f0) x.f1)
      obtain ⟨g1, g2⟩ := CE.out wr f'
      obtain ⟨x0, hx0⟩ : ∃ x0, x.f0 = x0 := ⟨_, rfl⟩
      obtain ⟨xl, hxl⟩ : ∃ xl, x.f1.length = xl := ⟨_, rfl⟩
      clear h' hs' f' ho' g4 g3 he' hx H1 l1 l2 l3 hst
      rw [hx0] at g1 r1 r2 CE WC HO2 HE
      rw [hxl] at g2 CE WC
      clear hx0 hxl
      go_wp2_with fail
      have q3 : IntKind.i64.wrap (69 + x0) = 69 + x0 := IntWalk.i64_in _ (by omega)
      have q4 : IntKind.i64.wrap (k : Int) = k := IntWalk.i64_in _ (by omega)
      go_region_held3 (fun W => W.cell? (ad.add (k * 2)) = some (.int .i64 x0) ∧ W.cell? ⟨(ad.add (k * 2)).block, (ad.add (k * 2)).off + 1, none⟩ = some (.slice A1 xl cap1)) (first | exact And.intro g1 g2 | exact S5.out) (first
        | (go_at_call 50; refine (WC.out _ (Fr.refl _ _).drew).mono ?_; rintro e w2 ⟨rfl, m⟩; have M := Aside0.mk m; have S5 := Aside0.mk (CE.out _ m.fr); clear m))
      clear q3 q4 WC g1 g2 S5
      obtain ⟨e0, he0⟩ : ∃ e0, (writeD D' (69 + x0) x.f1).1 = e0 := ⟨_, rfl⟩
      have HE0 := Aside0.mk he0
      rw [he0]
      clear he0
      by_cases hz : e0 = 0
      · subst hz
        have H2 : Aside0 (∃ D', RMoved w R r w2 D' ∧ JOk (i + (k + 1)) D' ∧ writesD (wr69 (jw l)) D = writesD (wr69 (jw (l.drop (k + 1)))) D') := ⟨⟨_, M.out, HO2.out, by rw [HE'.out, HE.out, seqD, if_pos HE0.out]⟩⟩
        clear M HO2 HE HE' HE0
        go_wp2_with fail
        go_roundg k1
        case measure => omega
        case rel => exact ⟨k + 1, by go_num, HI3, H2⟩
      · have hq : Aside0 (finishD (jw l) D = writeD D' (69 + x0) x.f1) := ⟨by
          rw [HFI.out, HE'.out, HE.out, seqD, seqD, if_neg (show ¬ (writeD D' (69 + x0) x.f1).1 = 0 by rw [HE0.out]; exact hz), if_neg (show ¬ (writeD D' (69 + x0) x.f1).1 = 0 by rw [HE0.out]; exact hz)]⟩
        have e1 : (e0 != 0) = true := by simpa using hz
        clear HE HE' HO2
        go_wp2_with fail
        go_ret
        rw [hq.out]
        exact ⟨by rw [HE0.out]; rfl, M.out⟩
end Go.Proofs.Ytppgbfkhiofjiaa.X

namespace Go.Proofs.Ytppgbfkhiofjiaa.X
open Go.RowKit Go.Proofs.YtppgbfkhiofjiaaW.PrintWords Go.Proofs.YtppgbfkhiofjiaaW.PrintLast Go.Proofs.YtppgbfkhiofjiaaW.PrintMore Go.Proofs.Ytppgbfkhiofjiaa.Y
set_option linter.unusedVariables false
set_option linter.unusedSimpArgs false

/-- What is wrong with writes. -/
def wrongC (l : List S105) (D : DS) (dn : Bool) : Int := if dn = true then 230 else if 64 < l.length then 9 else wrongL D (jw l)
theorem wrong_drop {l : List S105} {k : Nat} {x : S105} (hx : l[k]? = some x) (D : DS) : wrongL D (jw (l.drop k)) = if hasB D x.f0 = false then 2 else if x.f1.length ≠ 64 then 6 else wrongL D (jw (l.drop (k + 1))) := by
  obtain ⟨hlt, hget⟩ := List.getElem?_eq_some_iff.1 hx
  rw [List.drop_eq_getElem_cons hlt, hget]
  rfl
set_option maxHeartbeats 8000000 in
set_option maxRecDepth 100000 in
theorem rwrong_calls (mb r : Nat) (dn : Bool) (R : Nat → Prop) (D : DS) (A : Option Addr) (cp n : Nat) (l : List S105) (w : World) (h : IsRef w R r D) (hlog : IsRLog w mb r dn) (hn : l.length = n) (hn9 : n ≤ 9223372036854775807) (hl : Kd.C k105 w A n l) :
    Calls Try.prog 88 #[.pointer (some ⟨mb, 0, none⟩), .slice A n cp] w fun e w' => e = .returned (.int .i64 (wrongC l D dn)) ∧ Fr (fun _ => False) w w' := by
  obtain ⟨c0, c1, c2⟩ := hlog.cells
  obtain ⟨n1, n2⟩ := h.nn
  have HN := Aside0.mk hn
  cases dn with
  | true =>
    have HE : Aside0 (wrongC l D true = 230) := ⟨by unfold wrongC; rw [if_pos rfl]⟩
    clear h hlog hn hl c0 c2
    go_enter Try.func88, Try.ntmps88
    go_wp2_with fail
    go_ret
    rw [HE.out]
    exact ⟨rfl, Fr.refl _ _⟩
  | false =>
    by_cases hn64 : 64 < n
    · have HE : Aside0 (wrongC l D false = 9) := ⟨by unfold wrongC; rw [if_neg (by decide), if_pos (by omega)]⟩
      have hn' : (64 : Int) < (n : Int) := by omega
      clear h hlog hn hl c0 c2
      go_enter Try.func88, Try.ntmps88
      go_wp2_with fail
      go_ret
      rw [HE.out]
      exact ⟨rfl, Fr.refl _ _⟩
    · have HE : Aside0 (wrongC l D false = wrongL D (jw l)) := ⟨by unfold wrongC; rw [if_neg (by decide), if_neg (by omega)]⟩
      have hn' : (n : Int) ≤ (64 : Int) := by omega
      have SC : Aside0 (∀ W, Fr (fun _ => False) w W → Calls Try.prog 71 #[.pointer (some ⟨mb, 0, none⟩)] W fun e w' => e = .returned (.int .i64 (D.n - 69)) ∧ Drawn0 W w') := ⟨fun W f => rlogsect_calls mb r false R D W (h.fr f (fun _ _ h => h)) (hlog.kept (f.keep _ hlog.lt (fun h => h)))⟩
      have HL := Aside0.mk hl
      have H0 : Aside0 (wrongL D (jw l) = wrongL D (jw (l.drop 0)) ∧ Fr (fun _ => False) w w) := ⟨by rw [List.drop_zero], Fr.refl _ _⟩
      have HHB : Aside0 (∀ x : Int, hasB D x = decide (0 ≤ x ∧ x < D.n - 69)) := ⟨fun x => rfl⟩
      obtain ⟨m, hm⟩ : ∃ m, D.n = m := ⟨_, rfl⟩
      rw [hm] at SC n1 n2 HHB
      clear h hlog hn hl c0 c2 hm
      go_enter Try.func88, Try.ntmps88
      go_wp2_with fail
      go_loopg [5] n (fun kq v5 w' => ∃ (k : Nat), v5 = .int .i64 (k : Int) ∧ Aside0 (k + kq = n) ∧ Aside0 (wrongL D (jw l) = wrongL D (jw (l.drop k)) ∧ Fr (fun _ => False) w w'))
      case atStart => exact ⟨0, rfl, ⟨by omega⟩, H0⟩
      case round =>
        clear H0
        obtain ⟨k, rfl, HI, H1⟩ := hrel
        have hk0 : (0 : Int) ≤ (k : Int) := by omega
        cases gk with
        | zero =>
          have hk : k = n := by have := HI.out; omega
          subst hk
          go_wp2_with fail
          go_ret
          obtain ⟨e, f⟩ := H1.out
          rw [List.drop_eq_nil_of_le (by rw [HN.out]; omega)] at e
          rw [HE.out, e]
          exact ⟨rfl, f⟩
        | succ k1 =>
          have hk1 : (k : Int) < (n : Int) := by have := HI.out; omega
          have HI3 : Aside0 (k + 1 + k1 = n) := ⟨by have := HI.out; omega⟩
          obtain ⟨x, hx⟩ : ∃ x, l[k]? = some x := ⟨_, List.getElem?_eq_getElem (by rw [HN.out]; omega)⟩
          obtain ⟨ad, A1, cap1, rfl, g1, g2, g3, g4⟩ := at_T105 HL.out (k : Int) (by omega) (by omega)
          have hrd : rd_T105 l (k : Int) = x := by
            unfold rd_T105
            rw [Int.toNat_natCast, List.getD_eq_getElem?_getD, hx]
            rfl
          rw [hrd, Int.toNat_natCast] at g1
          rw [hrd, Int.toNat_natCast] at g2
          have HD := Aside0.mk (wrong_drop hx D)
          obtain ⟨x0, hx0⟩ : ∃ x0, x.f0 = x0 := ⟨_, rfl⟩
          obtain ⟨xl, hxl⟩ : ∃ xl, x.f1.length = xl := ⟨_, rfl⟩
          rw [hx0] at g1 HD
          rw [hxl] at g2 HD
          have CE : Aside0 (∀ W, Fr (fun _ => False) w W → W.cell? (ad.add (k * 2)) = some (.int .i64 x0) ∧ W.cell? ⟨(ad.add (k * 2)).block, (ad.add (k * 2)).off + 1, none⟩ = some (.slice A1 xl cap1)) := ⟨fun W f => ⟨cellK f g1, cellK f g2⟩⟩
          obtain ⟨g1, g2⟩ := CE.out wr H1.out.2
          clear hrd g3 g4 hx hx0 hxl
          have QC : Aside0 (∀ c, Calls Try.prog 71 #[.pointer (some ⟨mb, 0, none⟩)] (wr.drewN c) fun e w' => e = .returned (.int .i64 (m - 69)) ∧ ∃ j, w' = (wr.drewN c).drewN j) := ⟨fun c => (SC.out _ (H1.out.2.drewN c)).mono fun e w' ⟨he, hd⟩ => ⟨he, hd.out⟩⟩
          by_cases hneg : x0 < 0
          · have HZ : Aside0 (wrongL D (jw l) = 2) := ⟨by rw [H1.out.1, HD.out, if_pos]; rw [HHB.out]; exact decide_eq_false (by omega)⟩
            go_wp2_with fail
            go_quiet (fail)
            go_wp2_with fail
            go_ret
            rw [HE.out, HZ.out]
            exact ⟨rfl, H1.out.2.drewN _⟩
          · have hd : decide (x0 < 0) = false := by simpa using hneg
            have hneg2 : 0 ≤ x0 := by omega
            by_cases hbig : m - 69 ≤ x0
            · have HZ : Aside0 (wrongL D (jw l) = 2) := ⟨by rw [H1.out.1, HD.out, if_pos]; rw [HHB.out]; exact decide_eq_false (by omega)⟩
              go_wp2_with fail
              go_quiet ((go_at_call 71; exact Calls.quiet_of (QC.out _)))
              go_wp2_with fail
              go_ret
              rw [HE.out, HZ.out]
              exact ⟨rfl, H1.out.2.drewN _⟩
            · have hbig2 : x0 < m - 69 := by omega
              have hh : hasB D x0 = true := by rw [HHB.out]; exact decide_eq_true ⟨hneg2, hbig2⟩
              have HD2 : Aside0 (wrongL D (jw l) = if xl ≠ 64 then 6 else wrongL D (jw (l.drop (k + 1)))) := ⟨by rw [H1.out.1, HD.out, if_neg (by rw [hh]; decide)]⟩
              clear hh HD
              have HFw := Aside0.mk H1.out.2
              have g2c : Aside0 (∀ c, (wr.drewN c).cell? ⟨(ad.add (k * 2)).block, (ad.add (k * 2)).off + 1, none⟩ = some (.slice A1 xl cap1)) := ⟨fun c => (CE.out _ (H1.out.2.drewN c)).2⟩
              by_cases h64 : xl = 64
              · subst h64
                go_wp2_with fail
                go_quiet ((go_at_call 71; exact Calls.quiet_of (QC.out _)))
                go_wp2_with fail
                go_roundg k1
                case measure => omega
                case rel => exact ⟨k + 1, by go_num, HI3, ⟨by rw [HD2.out, if_neg (by simp)], HFw.out.drewN _⟩⟩
              · have HZ : Aside0 (wrongL D (jw l) = 6) := ⟨by rw [HD2.out, if_pos h64]⟩
                go_wp2_with fail
                go_quiet ((go_at_call 71; exact Calls.quiet_of (QC.out _)))
                go_wp2_with fail
                go_ret
                rw [HE.out, HZ.out]
                exact ⟨rfl, HFw.out.drewN _⟩
end Go.Proofs.Ytppgbfkhiofjiaa.X

namespace Go.Proofs.Ytppgbfkhiofjiaa.X
open Go.RowKit Go.Proofs.YtppgbfkhiofjiaaW.PrintWords Go.Proofs.YtppgbfkhiofjiaaW.PrintLast Go.Proofs.YtppgbfkhiofjiaaW.PrintMore Go.Proofs.Ytppgbfkhiofjiaa.Y
set_option linter.unusedVariables false
set_option linter.unusedSimpArgs false

/-- The disk and the two rows that steps fills. -/
def RSw (w W : World) (R R' : Nat → Prop) (r : Nat) (v5 v6 : Value) (p d : List Int) (D : DS) : Prop :=
  IsRef W R' r D ∧ (∀ k, R' k → R k ∨ w.heap.size ≤ k) ∧ Fr R w W ∧ Kd.R (Kd.int .u8) 5 W w.heap.size (fun b => ¬ R' b ∧ some b ≠ v6.ownBlock) v5 p ∧ Kd.R (Kd.int .u8) 5 W w.heap.size (fun b => ¬ R' b) v6 d
section
variable {w W W' W1 : World} {R R' R2 : Nat → Prop} {r i : Nat} {v5 v6 : Value} {p d : List Int} {D D2 : DS}
theorem RSw.start (h : IsRef w R r D) : RSw w w R R r (.slice none 0 0) (.slice none 0 0) [] [] D := ⟨h, fun _ h => .inl h, Fr.refl _ _, Kd.R_nil _ _ _ _ _, Kd.R_nil _ _ _ _ _⟩
theorem RSw.step (h : RSw w W R R' r v5 v6 p d D) (h2 : IsRef W' R2 r D2) (hs : ∀ k, R2 k → R' k ∨ W.heap.size ≤ k) (f : Fr R' W W') : RSw w W' R R2 r v5 v6 p d D2 := by
  obtain ⟨a1, a2, a3, a4, a5⟩ := h
  refine ⟨h2, fun k hk => (hs k hk).elim (a2 k) (fun h => .inr (Nat.le_trans a3.size h)), a3.trans f a2, ?_, ?_⟩
  · have h1 := Kd.R_mono (Kd.R_bound a4) (ok' := fun b => ((¬ R' b ∧ some b ≠ v6.ownBlock) ∧ b < W.heap.size)) (fun k h => ⟨h.1, h.2.2.1⟩)
    have h2 := Kd.R_step (w1 := W') h1 (fun b hb hlt => f.keep b hlt hb.1.1)
    exact Kd.R_mono h2 (fun b hb => ⟨fun h => (hs b h).elim hb.1.1 (fun h => by have := hb.2; omega), hb.1.2⟩)
  · have h1 := Kd.R_mono (Kd.R_bound a5) (ok' := fun b => (¬ R' b ∧ b < W.heap.size)) (fun k h => ⟨h.1, h.2.2.1⟩)
    have h2 := Kd.R_step (w1 := W') h1 (fun b hb hlt => f.keep b hlt hb.1)
    exact Kd.R_mono h2 (fun b hb => fun h => (hs b h).elim hb.1 (fun h => by have := hb.2; omega))
theorem RSw.quiet (h : RSw w W R R' r v5 v6 p d D) (f : Fr (fun _ => False) W W') : RSw w W' R R' r v5 v6 p d D :=
  h.step (h.1.fr f (fun _ _ h => h)) (fun _ h => .inl h) (f.mono (fun _ h => h.elim))
/-- A write, made between two fillings. -/
theorem RSw.write (h : RSw w W R R' r v5 v6 p d D) (ho : JOk i D) (hi : i ≤ 1000000) (n : Int) (A : Option Addr) (cp m : Nat) (b : List Int) (hm : b.length = m) (hb : Kd.C (Kd.int .u8) W A m b) (hcap : m ≤ cp) (hdis : ∀ ad, A = some ad → 0 < m → ¬ R' ad.block) (f : Fr (fun _ => False) W W1) :
    Calls Try.prog 50 #[.pointer (some ⟨r, 0, none⟩), .int .i64 n, .slice A m cp] W1 fun e w' => e = .returned (.int .i64 (writeD D n b).1) ∧ ∃ R2, RSw w w' R R2 r v5 v6 p d (writeD D n b).2 := by
  subst hm
  obtain ⟨l1, l2, l3⟩ := jlim ho hi
  have hq := h.quiet f
  refine (rwrite_calls r R' D n A cp b W1 hq.1 l1 l2 l3 (Kd.C_below hb (f.below (fun _ h => h.elim) (Nat.le_refl _))) hcap hdis).mono ?_
  rintro e w2 ⟨rfl, ⟨R2, h2, hs2⟩, f2⟩
  exact ⟨rfl, R2, hq.step h2 hs2 f2⟩
theorem RSw.flush (h : RSw w W R R' r v5 v6 p d D) (ho : JOk i D) (hi : i ≤ 1000000) :
    Calls Try.prog 51 #[.pointer (some ⟨r, 0, none⟩)] W fun e w' => e = .returned (.int .i64 (flushD D).1) ∧ RSw w w' R R' r v5 v6 p d (flushD D).2 := by
  obtain ⟨l1, l2, l3⟩ := jlim ho hi
  refine (rflush_calls r R' D W h.1 l1 l2 l3).mono ?_
  rintro e w2 ⟨rfl, h2, f2⟩
  exact ⟨rfl, h.step h2 (fun _ h => .inl h) f2⟩
theorem RSw.moved (h : RSw w W R R' r v5 v6 p d D) : RMoved w R r W D := ⟨R', h.1, h.2.1, h.2.2.1⟩
/-- The first row has grown. -/
theorem RSw.app5 (h : RSw w W R R' r v5 v6 p d D) {v : Value} {q : List Int} (h5 : Kd.R (Kd.int .u8) 5 W' w.heap.size (fun b => ¬ R' b ∧ some b ≠ v6.ownBlock) v q) (hb : Below w.heap.size W W') (hg : W.grownBy W' v5.ownBlock) : RSw w W' R R' r v v6 q d D := by
  obtain ⟨a1, a2, a3, a4, a5⟩ := h
  have k5 : ∀ b, v5.ownBlock = some b → ¬ R' b ∧ some b ≠ v6.ownBlock := a4.1
  have hk : ∀ b, b < W.heap.size → some b ≠ v5.ownBlock → W'.heap[b]? = W.heap[b]? := fun b hlt hne => hg.block b hlt hne
  have o6 := Kd.own_of_R a5
  have o6' := ownsRow_kept o6 (fun b e => hk b (own_lt o6 b e) (fun e' => (k5 b e'.symm).2 e.symm))
  refine ⟨a1.move hb.size (fun k hk' => hk k (a1.lt k hk') (fun e => (k5 k e.symm).1 hk')), a2, a3.trans (B' := fun k => w.heap.size ≤ k) ⟨hb.os, hb.tape, hb.output, hb.size, fun i hi hn => hb.block i (by omega)⟩ (fun _ h => .inr h), h5, Kd.R_of_own (h1 := fun _ => rfl) o6' (fun b e => a5.1 b e)⟩
/-- The second row has grown. -/
theorem RSw.app6 (h : RSw w W R R' r v5 v6 p d D) {v : Value} {q : List Int} (h6 : Kd.R (Kd.int .u8) 5 W' w.heap.size (fun b => ¬ R' b ∧ some b ≠ v5.ownBlock) v q) (hb : Below w.heap.size W W') (hg : W.grownBy W' v6.ownBlock) : RSw w W' R R' r v5 v p q D := by
  obtain ⟨a1, a2, a3, a4, a5⟩ := h
  have k6 : ∀ b, v6.ownBlock = some b → ¬ R' b := a5.1
  have hk : ∀ b, b < W.heap.size → some b ≠ v6.ownBlock → W'.heap[b]? = W.heap[b]? := fun b hlt hne => hg.block b hlt hne
  have o5 := Kd.own_of_R a4
  have o5' := ownsRow_kept o5 (fun b e => hk b (own_lt o5 b e) (fun e' => (a4.1 b e).2 e'))
  refine ⟨a1.move hb.size (fun k hk' => hk k (a1.lt k hk') (fun e => k6 k e.symm hk')), a2, a3.trans (B' := fun k => w.heap.size ≤ k) ⟨hb.os, hb.tape, hb.output, hb.size, fun i hi hn => hb.block i (by omega)⟩ (fun _ h => .inr h), Kd.R_of_own (h1 := fun _ => rfl) o5' (fun b e => ⟨(a4.1 b e).1, fun e' => (h6.1 b e'.symm).2 e.symm⟩), Kd.R_mono h6 (fun _ h => h.1)⟩
end
end Go.Proofs.Ytppgbfkhiofjiaa.X
