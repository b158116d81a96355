/-
  Of the proof of JournalPlays (put together by wip/tools/mkclaimj.py):
  JournalPlays: the contract of act, a sector that is written over. Printed by wip/tools/mkact.py.
-/
import Derived.Test.YtppgbfkhiofjiaaQJ
namespace Go.Proofs.Ytppgbfkhiofjiaa.X
open Go.RowKit Go.Proofs.YtppgbfkhiofjiaaW.PrintWords Go.Proofs.YtppgbfkhiofjiaaW.PrintLast Go.Proofs.YtppgbfkhiofjiaaW.PrintMore Go.Proofs.Ytppgbfkhiofjiaa.Y
set_option linter.unusedVariables false
set_option linter.unusedSimpArgs false

set_option maxHeartbeats 8000000 in
set_option maxRecDepth 100000 in
theorem act_spoil (lo x i : Nat) (W : World) (D : DS) (oo : Option Bool) (o : OpJ) (Aw : Option Addr) (cw : Nat) (Ak : Option Addr) (ck : Nat) (Ab : Option Addr) (cb : Nat) (h : JP lo x W D oo i) (hi : i ≤ 100000) (hN : 0 ≤ D.n ∧ D.n ≤ 4096)
    (ho : OpC lo W o Aw cw Ak ck Ab cb) (he : o.kind = 4) : Calls Try.prog 37 #[.pointer (some ⟨x, 0, none⟩), opV o Aw cw Ak ck Ab cb] W (ActEnd lo x i D W) := by
  have HLO := Aside0.mk h.lo
  have HO := Aside0.mk ho
  unfold opV
  rw [he]
  obtain ⟨l1, hl1⟩ : ∃ n, o.w.length = n := ⟨_, rfl⟩
  obtain ⟨l2, hl2⟩ : ∃ n, o.keep.length = n := ⟨_, rfl⟩
  obtain ⟨l3, hl3⟩ : ∃ n, o.b.length = n := ⟨_, rfl⟩
  obtain ⟨n, hn⟩ : ∃ n, o.n = n := ⟨_, rfl⟩
  have hwf := ho.wf
  have h32 := ho.siz.2.2.1
  have hb32 := ho.siz.1
  have hk32 := ho.siz.2.1
  have hcw := ho.cw
  have hck := ho.ck
  have hcb := ho.cb
  rw [hl1] at h32 hcw
  rw [hl2] at hk32 hck
  rw [hl3] at hb32 hcb
  rw [hl1, hl2, hl3, hn]
  rw [hn] at hwf
  obtain ⟨hn1, hn2⟩ := wf64 hwf
  have HL1 := Aside0.mk hl1
  have HL2 := Aside0.mk hl2
  have HL3 := Aside0.mk hl3
  have HNN := Aside0.mk hn
  have HDN := Aside0.mk hN
  have hbx := box5 W (.int .i64 4) (.slice Aw l1 cw) (.int .i64 n) (.slice Ak l2 ck) (.slice Ab l3 cb)
  obtain ⟨g, r, B, R, lv, mv, hx, hc, hl, hj, hb, nb, nr, nx⟩ := h.boxed (.cells #[.int .i64 4, .slice Aw l1 cw, .int .i64 n, .slice Ak l2 ck, .slice Ab l3 cb] 70)
  have hf1 : Fr (fun k => lo ≤ k) W (W.alloc (.cells #[.int .i64 4, .slice Aw l1 cw, .int .i64 n, .slice Ak l2 ck, .slice Ab l3 cb] 70)) := (Fr.refl _ W).alloc _
  have hbz : lo ≤ W.heap.size := h.lo
  clear h ho hwf hl1 hl2 hl3 hn he hN
  go_enter Try.func37, Try.ntmps37
  go_wp2_with fail
  obtain ⟨W1, hW1⟩ : ∃ W1, W.alloc (.cells #[.int .i64 4, .slice Aw l1 cw, .int .i64 n, .slice Ak l2 ck, .slice Ab l3 cb] 70) = W1 := ⟨_, rfl⟩
  rw [hW1] at hbx hx hc hl hf1 ⊢
  obtain ⟨bx, hbx'⟩ : ∃ b, W.heap.size = b := ⟨_, rfl⟩
  rw [hbx'] at hbx nb nr nx hbz ⊢
  clear hW1 hbx'
  have HBX := Aside0.mk hbx
  have HF1 := Aside0.mk hf1
  have HX := Aside0.mk hx
  have HC := Aside0.mk hc
  have HL := Aside0.mk hl
  have HJ := Aside0.mk hj
  have HB := Aside0.mk hb
  have HNB := Aside0.mk nb
  have HNR := Aside0.mk nr
  have HBZ := Aside0.mk hbz
  have HBL : Aside0 (bx < W1.heap.size) := ⟨(Array.getElem?_eq_some_iff.1 hbx).1⟩
  obtain ⟨k0, k1, k2, k3, k4⟩ := box_cells hbx
  obtain ⟨c0, c1, c2, c3, cf⟩ := hx.cells
  clear hbx hf1 hx hc hl hj hb nb nr hbz
  have HKB := Aside0.mk (HO.out.b W1 HF1.out)
  have HKD := Aside0.mk (HO.out.b)
  have HBB := Aside0.mk HO.out.bb
  have HW1 : Aside0 (∀ k, B k → k < W1.heap.size) := ⟨HC.out.d.lt⟩
  have HO0 : Aside0 (Kd.R (Kd.int .u8) 5 (W1.alloc (.cells #[] 5)).drew W1.heap.size (fun b => W1.heap.size ≤ b) (.slice (some ⟨W1.heap.size, 0, none⟩) 0 0) ([] : List Int)) := ⟨Kd.R_of_own (enc := Value.int .u8) (h1 := fun _ => rfl) (w := (W1.alloc (.cells #[] 5)).drew) ⟨rfl, .inr ⟨W1.heap.size, 0, #[], rfl, Nat.le_refl _, heap_alloc_new W1 (.cells #[] 5), Nat.le_refl _, by decide, rfl, rfl⟩⟩ (fun b e => by cases e; exact Nat.le_refl _)⟩
  have HB0 : Aside0 (Below W1.heap.size W1 (W1.alloc (.cells #[] 5)).drew) := ⟨below_drew ((Below.refl _ _).alloc (Nat.le_refl _) _)⟩
  have S0 : Aside0 (W1.cell? ⟨x, 0, none⟩ = some (.pointer (some ⟨g, 0, none⟩)) ∧ W1.cell? ⟨x, 2, none⟩ = some (.pointer (some ⟨r, 0, none⟩)) ∧ W1.cell? ⟨bx, 2, none⟩ = some (.int .i64 n) ∧ W1.cell? ⟨bx, 4, none⟩ = some (.slice Ab l3 cb)) := ⟨c0, c2, k2, k4⟩
  have SB : Aside0 (∀ W', Below W1.heap.size W1 W' → W'.cell? ⟨x, 0, none⟩ = some (.pointer (some ⟨g, 0, none⟩)) ∧ W'.cell? ⟨x, 2, none⟩ = some (.pointer (some ⟨r, 0, none⟩)) ∧ W'.cell? ⟨bx, 2, none⟩ = some (.int .i64 n) ∧ W'.cell? ⟨bx, 4, none⟩ = some (.slice Ab l3 cb)) := ⟨fun W' hb => ⟨cell_later hb S0.out.1, cell_later hb S0.out.2.1, cell_later hb S0.out.2.2.1, cell_later hb S0.out.2.2.2⟩⟩
  have SX : Aside0 (∀ W', XAt W' x g r lv mv → W'.heap[bx]? = some (.cells #[.int .i64 4, .slice Aw l1 cw, .int .i64 n, .slice Ak l2 ck, .slice Ab l3 cb] 70 (0, 0)) → W'.cell? ⟨x, 0, none⟩ = some (.pointer (some ⟨g, 0, none⟩)) ∧ W'.cell? ⟨x, 2, none⟩ = some (.pointer (some ⟨r, 0, none⟩)) ∧ W'.cell? ⟨bx, 2, none⟩ = some (.int .i64 n) ∧ W'.cell? ⟨bx, 4, none⟩ = some (.slice Ab l3 cb)) := ⟨fun W' hx hb => ⟨hx.cells.1, hx.cells.2.2.1, (box_cells hb).2.2.1, (box_cells hb).2.2.2.2⟩⟩
  clear c0 c1 c2 c3 cf k0 k1 k2 k3 k4
  refine wp_region_held_drew (S := fun W' => W'.cell? ⟨x, 0, none⟩ = some (.pointer (some ⟨g, 0, none⟩)) ∧ W'.cell? ⟨x, 2, none⟩ = some (.pointer (some ⟨r, 0, none⟩)) ∧ W'.cell? ⟨bx, 2, none⟩ = some (.int .i64 n) ∧ W'.cell? ⟨bx, 4, none⟩ = some (.slice Ab l3 cb)) (by kernel_rfl) S0.out (fun hHeld => ?_)
  refine wpAnyH_take (i := 0) (oi := ⟨some 55, _, _, _, _, _⟩) (v := ?_) rfl (by kernel_rfl) (by kernel_rfl) (by kernel_rfl) (fun _ _ _ h => h) (Or.inl ⟨by rfl, ?hyQ1⟩) (by assumption) ?rsQ1
  case hyQ1 => (intro w' hSw; (try dsimp only at hSw); (first | (go_simp; done) | (go_simp; with_reducible rfl)))
  try simp only [Act.put, List.setIfInBounds_toArray, List.set_cons_zero, List.set_cons_succ]
  refine wpAnyH_take (i := 1) (oi := ⟨some 56, _, _, _, _, _⟩) (v := ?_) rfl (by kernel_rfl) (by kernel_rfl) (by kernel_rfl) (fun _ _ _ h => h) (Or.inl ⟨by rfl, ?hyQ2⟩) (by assumption) ?rsQ2
  case hyQ2 => (intro w' hSw; (try dsimp only at hSw); (first | (go_simp; done) | (go_simp; with_reducible rfl)))
  try simp only [Act.put, List.setIfInBounds_toArray, List.set_cons_zero, List.set_cons_succ]
  refine wpAnyH_take (i := 2) (oi := ⟨some 57, _, _, _, _, _⟩) (v := ?_) rfl (by kernel_rfl) (by kernel_rfl) (by kernel_rfl) (fun _ _ _ h => h) (Or.inl ⟨by rfl, ?hyQ3⟩) (by assumption) ?rsQ3
  case hyQ3 => (intro w' hSw; (try dsimp only at hSw); (first | (go_simp; done) | (go_simp; with_reducible rfl)))
  try simp only [Act.put, List.setIfInBounds_toArray, List.set_cons_zero, List.set_cons_succ]
  refine wpAnyH_take (i := 3) (oi := ⟨some 58, _, _, _, _, _⟩) (v := ?_) rfl (by kernel_rfl) (by kernel_rfl) (by kernel_rfl) (fun _ _ _ h => h) (Or.inl ⟨by rfl, ?hyQ4⟩) (by assumption) ?rsQ4
  case hyQ4 => (intro w' hSw; (try dsimp only at hSw); (first | (go_simp; done) | (go_simp; with_reducible rfl)))
  try simp only [Act.put, List.setIfInBounds_toArray, List.set_cons_zero, List.set_cons_succ]
  refine wpAnyH_take (i := 4) (oi := ⟨some 59, _, _, _, _, _⟩) (v := ?_) rfl (by kernel_rfl) (by kernel_rfl) (by kernel_rfl) (fun _ _ _ h => h) (Or.inl ⟨by rfl, ?hyQ5⟩) (by assumption) ?rsQ5
  case hyQ5 => (intro w' hSw; (try dsimp only at hSw); (first | (go_simp; done) | (go_simp; with_reducible rfl)))
  try simp only [Act.put, List.setIfInBounds_toArray, List.set_cons_zero, List.set_cons_succ]
  refine wpAnyH_take (i := 5) (oi := ⟨some 60, _, _, _, _, _⟩) (v := ?_) rfl (by kernel_rfl) (by kernel_rfl) (by kernel_rfl) (fun _ _ _ h => h) (Or.inl ⟨by rfl, ?hyQ6⟩) (by assumption) ?rsQ6
  case hyQ6 => (intro w' hSw; (try dsimp only at hSw); (first | (go_simp; done) | (go_simp; with_reducible rfl)))
  try simp only [Act.put, List.setIfInBounds_toArray, List.set_cons_zero, List.set_cons_succ]
  refine wpAnyH_take (i := 7) (oi := ⟨some 62, _, _, _, _, _⟩) (v := ?_) rfl (by kernel_rfl) (by kernel_rfl) (by kernel_rfl) (fun _ _ _ h => h) (Or.inl ⟨by rfl, ?hyQ7⟩) (by assumption) ?rsQ7
  case hyQ7 => (intro w' hSw; (try dsimp only at hSw); (first | (go_simp; done) | (go_simp; with_reducible rfl)))
  try simp only [Act.put, List.setIfInBounds_toArray, List.set_cons_zero, List.set_cons_succ]
  refine wpAnyH_take (i := 8) (oi := ⟨some 63, _, _, _, _, _⟩) (v := ?_) rfl (by kernel_rfl) (by kernel_rfl) (by kernel_rfl) (fun _ _ _ h => h) (Or.inl ⟨by rfl, ?hyQ8⟩) (by assumption) ?rsQ8
  case hyQ8 => (intro w' hSw; (try dsimp only at hSw); (first | (go_simp; done) | (go_simp; with_reducible rfl)))
  try simp only [Act.put, List.setIfInBounds_toArray, List.set_cons_zero, List.set_cons_succ]
  refine wpAnyH_take (i := 11) (oi := ⟨some 66, _, _, _, _, _⟩) (v := ?_) rfl (by kernel_rfl) (by kernel_rfl) (by kernel_rfl) (fun _ _ _ h => h) (Or.inl ⟨by rfl, ?hyQ9⟩) (by assumption) ?rsQ9
  case hyQ9 => (intro w' hSw; (try dsimp only at hSw); (first | (go_simp; done) | (go_simp; with_reducible rfl)))
  try simp only [Act.put, List.setIfInBounds_toArray, List.set_cons_zero, List.set_cons_succ]
  refine wpAnyH_take (i := 12) (oi := ⟨some 67, _, _, _, _, _⟩) (v := ?_) rfl (by kernel_rfl) (by kernel_rfl) (by kernel_rfl) (fun _ _ _ h => h) (Or.inl ⟨by rfl, ?hyQ10⟩) (by assumption) ?rsQ10
  case hyQ10 => (intro w' hSw; (try dsimp only at hSw); (first | (go_simp; done) | (go_simp; with_reducible rfl)))
  try simp only [Act.put, List.setIfInBounds_toArray, List.set_cons_zero, List.set_cons_succ]
  refine wpAnyH_take (i := 13) (oi := ⟨some 68, _, _, _, _, _⟩) (v := ?_) rfl (by kernel_rfl) (by kernel_rfl) (by kernel_rfl) (fun _ _ _ h => h) (Or.inl ⟨by rfl, ?hyQ11⟩) (by assumption) ?rsQ11
  case hyQ11 => (intro w' hSw; (try dsimp only at hSw); (first | (go_simp; done) | (go_simp; with_reducible rfl)))
  try simp only [Act.put, List.setIfInBounds_toArray, List.set_cons_zero, List.set_cons_succ]
  refine wpAnyH_take (i := 14) (oi := ⟨some 69, _, _, _, _, _⟩) (v := ?_) rfl (by kernel_rfl) (by kernel_rfl) (by kernel_rfl) (fun _ _ _ h => h) (Or.inl ⟨by rfl, ?hyQ12⟩) (by assumption) ?rsQ12
  case hyQ12 => (intro w' hSw; (try dsimp only at hSw); (first | (go_simp; done) | (go_simp; with_reducible rfl)))
  try simp only [Act.put, List.setIfInBounds_toArray, List.set_cons_zero, List.set_cons_succ]
  refine wpAnyH_take (i := 15) (oi := ⟨some 70, _, _, _, _, _⟩) (v := ?_) rfl (by kernel_rfl) (by kernel_rfl) (by kernel_rfl) (fun _ _ _ h => h) (Or.inl ⟨by rfl, ?hyQ13⟩) (by assumption) ?rsQ13
  case hyQ13 => (intro w' hSw; (try dsimp only at hSw); (first | (go_simp; done) | (go_simp; with_reducible rfl)))
  try simp only [Act.put, List.setIfInBounds_toArray, List.set_cons_zero, List.set_cons_succ]
  refine wpAnyH_take (i := 16) (oi := ⟨some 71, _, _, _, _, _⟩) (v := ?_) rfl (by kernel_rfl) (by kernel_rfl) (by kernel_rfl) (fun _ _ _ h => h) (Or.inl ⟨by rfl, ?hyQ14⟩) (by assumption) ?rsQ14
  case hyQ14 => (intro w' hSw; (try dsimp only at hSw); (first | (go_simp; done) | (go_simp; with_reducible rfl)))
  try simp only [Act.put, List.setIfInBounds_toArray, List.set_cons_zero, List.set_cons_succ]
  refine wpAnyH_take (i := 17) (oi := ⟨some 72, _, _, _, _, _⟩) (v := ?_) rfl (by kernel_rfl) (by kernel_rfl) (by kernel_rfl) (fun _ _ _ h => h) (Or.inl ⟨by rfl, ?hyQ15⟩) (by assumption) ?rsQ15
  case hyQ15 => (intro w' hSw; (try dsimp only at hSw); (first | (go_simp; done) | (go_simp; with_reducible rfl)))
  try simp only [Act.put, List.setIfInBounds_toArray, List.set_cons_zero, List.set_cons_succ]
  refine wpAnyH_take (i := 18) (oi := ⟨some 73, _, _, _, _, _⟩) (v := ?_) rfl (by kernel_rfl) (by kernel_rfl) (by kernel_rfl) (fun _ _ _ h => h) (Or.inl ⟨by rfl, ?hyQ16⟩) (by assumption) ?rsQ16
  case hyQ16 => (intro w' hSw; (try dsimp only at hSw); (first | (go_simp; done) | (go_simp; with_reducible rfl)))
  try simp only [Act.put, List.setIfInBounds_toArray, List.set_cons_zero, List.set_cons_succ]
  refine wpAnyH_ready (rs := [6]) (by kernel_rfl) (by simp) ?_
  refine AllReadyH.cons rfl (fun K hK => ?_) AllReadyH.nil
  go_simp
  clear hHeld
  refine hK.out _ _ (SB.out _ HB0.out) (fun hHeld => ?_)
  clear hK K
  try simp only [Act.put, List.setIfInBounds_toArray, List.set_cons_zero, List.set_cons_succ]
  refine wpAnyH_ready (rs := [9]) (by kernel_rfl) (by simp) ?_
  refine AllReadyH.cons rfl (fun K hK => ?_) AllReadyH.nil
  rw [HL3.out] at HKB
  refine Kd.R_append_rows_step (Kd.int .u8) (w0 := W1) W1.heap.size (by rfl) (.tmp 61) (.tmp 63) 22 5 (.int .u8 0) 1 rfl Try.underlying22 info5 rfl (by decide) (by omega) (.slice (some ⟨W1.heap.size, 0, none⟩) 0 0) [] o.b Ab l3 cb (fun b => W1.heap.size ≤ b) (fun _ => False) (by rfl) (by rfl) HO0.out (Kd.C_below HKB.out HB0.out) (fun _ _ h => h) (fun _ h => h.elim) (fun b h => Nat.le_trans HB0.out.size h) HB0.out HB0.out.size (by simp only [List.length_nil]; omega) ?_
  intro v1 w2 q1 q2 q3 q4
  obtain ⟨A2, c2, rfl, hc2, C2⟩ := Kd.R_reads q1
  have hA2 : ∀ ad, A2 = some ad → ¬ B ad.block := fun ad e hB => by
    subst e
    have := q1.1 ad.block rfl
    have := HW1.out _ hB
    omega
  rw [List.nil_append] at C2 hc2
  have HC2 := Aside0.mk C2
  have HCA2 := Aside0.mk hc2
  have HA2 := Aside0.mk hA2
  have HB2 := Aside0.mk q2
  have S2 := Aside0.mk (SB.out w2 q2)
  have hlen9 : (([] : List Int) ++ o.b).length = l3 := by rw [List.nil_append]; exact HL3.out
  rw [hlen9]
  clear q1 q2 q3 q4 C2 hA2 hlen9 hHeld hc2
  refine hK.out _ _ S2.out (fun hHeld => ?_)
  clear hK K
  try simp only [Act.put, List.setIfInBounds_toArray, List.set_cons_zero, List.set_cons_succ]
  refine wpAnyH_ready (rs := [10]) (by kernel_rfl) (by simp) ?_
  refine AllReadyH.cons rfl (fun K hK => ?_) AllReadyH.nil
  go_simp
  obtain ⟨j1, j2, j3⟩ := jlim HJ.out (by omega)
  have MC := write_calls g B D n A2 c2 o.b w2 (HC.out.d.fr (Fr.of_below HB2.out (fun _ => False)) (fun _ _ h => h)) j1 j2 (WalkArith.wf_i64 ⟨hn1, hn2⟩) j3 HC2.out HCA2.out (fun ad e _ => HA2.out ad e)
  rw [HL3.out] at MC
  refine MC.mono ?_
  rintro e w3 ⟨rfl, ⟨B1, d3, b3⟩, f3⟩
  have f3' : Fr B W1 w3 := (Fr.of_below HB2.out B).trans f3 (fun k h => .inl h)
  have hxb := xbox HX.out HBX.out f3' HC.out.xb HNB.out
  have S3 := Aside0.mk (SX.out w3 hxb.1 hxb.2)
  have XB3 := Aside0.mk hxb
  have HD3 := Aside0.mk d3
  have HB3 : Aside0 (∀ k, B1 k → B k ∨ W1.heap.size ≤ k) := ⟨fun k h => (b3 k h).imp id (fun h => Nat.le_trans HB2.out.size h)⟩
  have HF3 := Aside0.mk f3'
  clear d3 f3 b3 f3' hxb MC hHeld j1 j2 j3
  go_simp
  refine hK.out _ _ S3.out (fun hHeld => ?_)
  clear hK K
  try simp only [Act.put, List.setIfInBounds_toArray, List.set_cons_zero, List.set_cons_succ]
  refine wpAnyH_ready (rs := [19]) (by kernel_rfl) (by simp) ?_
  refine AllReadyH.cons rfl (fun K hK => ?_) AllReadyH.nil
  go_simp
  obtain ⟨j1, j2, j3⟩ := jlim HJ.out (by omega)
  have MC := rwrite_calls r R D n Ab cb o.b w3 (HC.out.e.fr HF3.out (fun k hr hb => HC.out.apart k hb hr)) j1 j2 j3 (HKD.out w3 (HF1.out.trans HF3.out (fun k h => .inl (HC.out.lb k h)))) HO.out.cb (fun ad e h0 hR => stab_C (d := Kd.int .u8) (by decide) HKD.out ad e h0 (HC.out.lr _ hR))
  rw [HL3.out] at MC
  refine MC.mono ?_
  rintro e w4 ⟨rfl, ⟨R1, e4, r4⟩, f4⟩
  have hxb := xbox XB3.out.1 XB3.out.2 f4 HC.out.xr HNR.out
  have S4 := Aside0.mk (SX.out w4 hxb.1 hxb.2)
  have XB4 := Aside0.mk hxb
  have HC4 : Aside0 (JC lo x g r B1 R1 w4 (writeD D n o.b).2) := ⟨HC.out.step HX.out.lt (Nat.le_trans HLO.out HF1.out.size) HD3.out HB3.out HF3.out e4 r4 f4⟩
  have HL4 := Aside0.mk (HL.out.step HB3.out HF3.out r4 f4)
  have HF4 : Aside0 (Fr (fun k => lo ≤ k) W w4) := ⟨(HF1.out.trans HF3.out (fun k h => .inl (HC.out.lb k h))).trans f4 (fun k h => .inl (HC.out.lr k h))⟩
  have HJ4 := Aside0.mk (HJ.out.write n o.b)
  have HB4 := Aside0.mk (HB.out.write n HBB.out)
  have HNB4 : Aside0 (¬ B1 bx) := ⟨fun h => (HB3.out bx h).elim HNB.out (fun h => by have := HBL.out; omega)⟩
  have HNR4 : Aside0 (¬ R1 bx) := ⟨fun h => (r4 bx h).elim HNR.out (fun h => by have := HBL.out; have := HF3.out.size; omega)⟩
  have HND : Aside0 ((writeD D n o.b).2.n = D.n) := ⟨n_write D n o.b⟩
  obtain ⟨p, hp⟩ : ∃ p, writeD D n o.b = p := ⟨_, rfl⟩
  rw [hp] at HC4 HJ4 HB4 HND
  rw [hp]
  obtain ⟨p1, D1⟩ := p
  clear e4 r4 f4 hxb MC hHeld j1 j2 j3 hp
  go_simp
  refine hK.out _ _ S4.out (fun hHeld => ?_)
  clear hK K
  try simp only [Act.put, List.setIfInBounds_toArray, List.set_cons_zero, List.set_cons_succ]
  refine wpAnyH_take (i := 20) (oi := ⟨some 75, _, _, _, _, _⟩) (v := ?_) rfl (by kernel_rfl) (by kernel_rfl) (by kernel_rfl) (fun _ _ _ h => h) (Or.inl ⟨by rfl, ?hyQ17⟩) (by assumption) ?rsQ17
  case hyQ17 => (intro w' hSw; (try dsimp only at hSw); (first | (go_simp; done) | (go_simp; with_reducible rfl)))
  try simp only [Act.put, List.setIfInBounds_toArray, List.set_cons_zero, List.set_cons_succ]
  refine wpAnyH_take (i := 21) (oi := ⟨some 76, _, _, _, _, _⟩) (v := ?_) rfl (by kernel_rfl) (by kernel_rfl) (by kernel_rfl) (fun _ _ _ h => h) (Or.inl ⟨by rfl, ?hyQ18⟩) (by assumption) ?rsQ18
  case hyQ18 => (intro w' hSw; (try dsimp only at hSw); (first | (go_simp; done) | (go_simp; with_reducible rfl)))
  try simp only [Act.put, List.setIfInBounds_toArray, List.set_cons_zero, List.set_cons_succ]
  refine wpAnyH_take (i := 22) (oi := ⟨some 77, _, _, _, _, _⟩) (v := ?_) rfl (by kernel_rfl) (by kernel_rfl) (by kernel_rfl) (fun _ _ _ h => h) (Or.inl ⟨by rfl, ?hyQ19⟩) (by assumption) ?rsQ19
  case hyQ19 => (intro w' hSw; (try dsimp only at hSw); (first | (go_simp; done) | (go_simp; with_reducible rfl)))
  try simp only [Act.put, List.setIfInBounds_toArray, List.set_cons_zero, List.set_cons_succ]
  refine wpAnyH_take (i := 23) (oi := ⟨some 78, _, _, _, _, _⟩) (v := ?_) rfl (by kernel_rfl) (by kernel_rfl) (by kernel_rfl) (fun _ _ _ h => h) (Or.inl ⟨by rfl, ?hyQ20⟩) (by assumption) ?rsQ20
  case hyQ20 => (intro w' hSw; (try dsimp only at hSw); (first | (go_simp; done) | (go_simp; with_reducible rfl)))
  try simp only [Act.put, List.setIfInBounds_toArray, List.set_cons_zero, List.set_cons_succ]
  refine wpAnyH_take (i := 24) (oi := ⟨some 79, _, _, _, _, _⟩) (v := ?_) rfl (by kernel_rfl) (by kernel_rfl) (by kernel_rfl) (fun _ _ _ h => h) (Or.inl ⟨by rfl, ?hyQ21⟩) (by assumption) ?rsQ21
  case hyQ21 => (intro w' hSw; (try dsimp only at hSw); (first | (go_simp; done) | (go_simp; with_reducible rfl)))
  try simp only [Act.put, List.setIfInBounds_toArray, List.set_cons_zero, List.set_cons_succ]
  refine wpAnyH_take (i := 25) (oi := ⟨some 80, _, _, _, _, _⟩) (v := ?_) rfl (by kernel_rfl) (by kernel_rfl) (by kernel_rfl) (fun _ _ _ h => h) (Or.inl ⟨by rfl, ?hyQ22⟩) (by assumption) ?rsQ22
  case hyQ22 => (intro w' hSw; (try dsimp only at hSw); (first | (go_simp; done) | (go_simp; with_reducible rfl)))
  try simp only [Act.put, List.setIfInBounds_toArray, List.set_cons_zero, List.set_cons_succ]
  refine wpAnyH_take (i := 27) (oi := ⟨some 82, _, _, _, _, _⟩) (v := ?_) rfl (by kernel_rfl) (by kernel_rfl) (by kernel_rfl) (fun _ _ _ h => h) (Or.inl ⟨by rfl, ?hyQ23⟩) (by assumption) ?rsQ23
  case hyQ23 => (intro w' hSw; (try dsimp only at hSw); (first | (go_simp; done) | (go_simp; with_reducible rfl)))
  try simp only [Act.put, List.setIfInBounds_toArray, List.set_cons_zero, List.set_cons_succ]
  refine wpAnyH_take (i := 28) (oi := ⟨some 83, _, _, _, _, _⟩) (v := ?_) rfl (by kernel_rfl) (by kernel_rfl) (by kernel_rfl) (fun _ _ _ h => h) (Or.inl ⟨by rfl, ?hyQ24⟩) (by assumption) ?rsQ24
  case hyQ24 => (intro w' hSw; (try dsimp only at hSw); (first | (go_simp; done) | (go_simp; with_reducible rfl)))
  try simp only [Act.put, List.setIfInBounds_toArray, List.set_cons_zero, List.set_cons_succ]
  refine wpAnyH_take (i := 29) (oi := ⟨some 84, _, _, _, _, _⟩) (v := ?_) rfl (by kernel_rfl) (by kernel_rfl) (by kernel_rfl) (fun _ _ _ h => h) (Or.inl ⟨by rfl, ?hyQ25⟩) (by assumption) ?rsQ25
  case hyQ25 => (intro w' hSw; (try dsimp only at hSw); (first | (go_simp; done) | (go_simp; with_reducible rfl)))
  try simp only [Act.put, List.setIfInBounds_toArray, List.set_cons_zero, List.set_cons_succ]
  refine wpAnyH_take (i := 30) (oi := ⟨some 85, _, _, _, _, _⟩) (v := ?_) rfl (by kernel_rfl) (by kernel_rfl) (by kernel_rfl) (fun _ _ _ h => h) (Or.inl ⟨by rfl, ?hyQ26⟩) (by assumption) ?rsQ26
  case hyQ26 => (intro w' hSw; (try dsimp only at hSw); (first | (go_simp; done) | (go_simp; with_reducible rfl)))
  try simp only [Act.put, List.setIfInBounds_toArray, List.set_cons_zero, List.set_cons_succ]
  refine wpAnyH_ready (rs := [26]) (by kernel_rfl) (by simp) ?_
  refine AllReadyH.cons rfl (fun K hK => ?_) AllReadyH.nil
  go_simp
  obtain ⟨j1, j2, j3⟩ := jlim HJ4.out (by omega)
  refine (flush_calls g B1 D1 w4 HC4.out.d j1 j2 j3 (by have := HJ4.out.u; dsimp only at this; omega)).mono ?_
  rintro e w5 ⟨rfl, d5, f5⟩
  have hxb := xbox XB4.out.1 XB4.out.2 f5 HC4.out.xb HNB4.out
  have S5 := Aside0.mk (SX.out w5 hxb.1 hxb.2)
  have XB5 := Aside0.mk hxb
  have HD5 := Aside0.mk d5
  have HF5 := Aside0.mk f5
  clear d5 f5 hxb hHeld j1 j2 j3
  go_simp
  refine hK.out _ _ S5.out (fun hHeld => ?_)
  clear hK K
  try simp only [Act.put, List.setIfInBounds_toArray, List.set_cons_zero, List.set_cons_succ]
  refine wpAnyH_ready (rs := [31]) (by kernel_rfl) (by simp) ?_
  refine AllReadyH.cons rfl (fun K hK => ?_) AllReadyH.nil
  go_simp
  obtain ⟨j1, j2, j3⟩ := jlim HJ4.out (by omega)
  refine (rflush_calls r R1 D1 w5 (HC4.out.e.fr HF5.out (fun k hr hb => HC4.out.apart k hb hr)) j1 j2 j3).mono ?_
  rintro e w6 ⟨rfl, e6, f6⟩
  have hxb := xbox XB5.out.1 XB5.out.2 f6 HC4.out.xr HNR4.out
  have S6 := Aside0.mk (SX.out w6 hxb.1 hxb.2)
  have hlo4 : lo ≤ w4.heap.size := Nat.le_trans HC4.out.lx (Nat.le_of_lt XB4.out.1.lt)
  have hc6 : JC lo x g r B1 R1 w6 (flushD D1).2 := HC4.out.step XB4.out.1.lt hlo4 HD5.out (fun _ h => .inl h) HF5.out e6 (fun _ h => .inl h) f6
  have hl6 := HL4.out.step (fun _ h => .inl h) HF5.out (fun _ h => .inl h) f6
  have HE : Aside0 (ActEnd lo x i D W (.returned (.bool true)) w6) := ⟨rfl, ⟨_, oo, ⟨g, r, B1, R1, lv, mv, hxb.1, hc6, hl6, HJ4.out.flush.mono (by omega), HB4.out.flush⟩, (n_flush D1).trans HND.out⟩, (HF4.out.trans HF5.out (fun k h => .inl (HC4.out.lb k h))).trans f6 (fun k h => .inl (HC4.out.lr k h))⟩
  generalize (flushD D1).1 = e9
  clear e6 f6 hxb hHeld j1 j2 j3 hc6 hl6
  go_simp
  refine hK.out _ _ S6.out (fun hHeld => ?_)
  clear hK K
  try simp only [Act.put, List.setIfInBounds_toArray, List.set_cons_zero, List.set_cons_succ]
  refine wpAnyH_take (i := 32) (oi := ⟨some 87, _, _, _, _, _⟩) (v := ?_) rfl (by kernel_rfl) (by kernel_rfl) (by kernel_rfl) (fun _ _ _ h => h) (Or.inl ⟨by rfl, ?hyQ27⟩) (by assumption) ?rsQ27
  case hyQ27 => (intro w' hSw; (try dsimp only at hSw); (first | (go_simp; done) | (go_simp; with_reducible rfl)))
  try simp only [Act.put, List.setIfInBounds_toArray, List.set_cons_zero, List.set_cons_succ]
  refine wpAnyH_take (i := 33) (oi := ⟨some 88, _, _, _, _, _⟩) (v := ?_) rfl (by kernel_rfl) (by kernel_rfl) (by kernel_rfl) (fun _ _ _ h => h) (Or.inl ⟨by rfl, ?hyQ28⟩) (by assumption) ?rsQ28
  case hyQ28 => (intro w' hSw; (try dsimp only at hSw); (first | (go_simp; done) | (go_simp; with_reducible rfl)))
  try simp only [Act.put, List.setIfInBounds_toArray, List.set_cons_zero, List.set_cons_succ]
  refine wpAnyH_take (i := 34) (oi := ⟨some 4, _, _, _, _, _⟩) (v := ?_) rfl (by kernel_rfl) (by kernel_rfl) (by kernel_rfl) (fun _ _ _ h => h) (Or.inl ⟨by rfl, ?hyQ29⟩) (by assumption) ?rsQ29
  case hyQ29 => (intro w' hSw; (try dsimp only at hSw); (first | (go_simp; done) | (go_simp; with_reducible rfl)))
  try simp only [Act.put, List.setIfInBounds_toArray, List.set_cons_zero, List.set_cons_succ]
  refine wpAnyH_done (by kernel_rfl) ?_ _
  try dsimp only
  go_wp2_with fail
  go_ret
  exact HE.out
end Go.Proofs.Ytppgbfkhiofjiaa.X
