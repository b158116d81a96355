/-
  Of the proof of JournalPlays (put together by wip/tools/mkclaimj.py):
  JournalPlays: the contract of act, a clone that goes on. Printed by wip/tools/mkEQ4.py.
-/
import Derived.Test.YtppgbfkhiofjiaaQJ
namespace Go.Proofs.Ytppgbfkhiofjiaa.X
open Go.RowKit Go.Proofs.YtppgbfkhiofjiaaW.PrintWords Go.Proofs.YtppgbfkhiofjiaaW.PrintLast Go.Proofs.YtppgbfkhiofjiaaW.PrintMore Go.Proofs.Ytppgbfkhiofjiaa.Y
set_option linter.unusedVariables false
set_option linter.unusedSimpArgs false

set_option maxHeartbeats 1000000 in
theorem move_calls (lb g g2 : Nat) (dn : Bool) (w : World) (hlog : IsLog w lb g dn) :
    Calls Try.prog 69 #[.pointer (some ⟨lb, 0, none⟩), .pointer (some ⟨g2, 0, none⟩)] w fun e w' => e = .returned (.pointer (some ⟨w.heap.size, 0, none⟩)) ∧ w' = w.alloc (.cells #[.pointer (some ⟨g2, 0, none⟩), .bool dn] 104) := by
  obtain ⟨c0, c1, c2⟩ := hlog.cells
  clear c0 c2 hlog
  go_enter Try.func69, Try.ntmps69
  go_wp2
  go_ret
  exact ⟨rfl, rfl⟩

set_option maxHeartbeats 8000000 in
set_option maxRecDepth 100000 in
theorem act_move (lo x i : Nat) (W : World) (D : DS) (oo : Option Bool) (o : OpJ) (Aw : Option Addr) (cw : Nat) (Ak : Option Addr) (ck : Nat) (Ab : Option Addr) (cb : Nat) (h : JP lo x W D oo i) (hi : i ≤ 100000) (hN : 0 ≤ D.n ∧ D.n ≤ 4096)
    (ho : OpC lo W o Aw cw Ak ck Ab cb) (he : o.kind = 5) (dn : Bool) (hoo : oo = some dn) : Calls Try.prog 37 #[.pointer (some ⟨x, 0, none⟩), opV o Aw cw Ak ck Ab cb] W (ActEnd lo x i D W) := by
  have HLO := Aside0.mk h.lo
  have HO := Aside0.mk ho
  unfold opV
  rw [he]
  obtain ⟨l1, hl1⟩ : ∃ n, o.w.length = n := ⟨_, rfl⟩
  obtain ⟨l2, hl2⟩ : ∃ n, o.keep.length = n := ⟨_, rfl⟩
  obtain ⟨l3, hl3⟩ : ∃ n, o.b.length = n := ⟨_, rfl⟩
  obtain ⟨n, hn⟩ : ∃ n, o.n = n := ⟨_, rfl⟩
  have hwf := ho.wf
  have h32 := ho.siz.2.2.1
  have hb32 := ho.siz.1
  have hk32 := ho.siz.2.1
  have hcw := ho.cw
  have hck := ho.ck
  have hcb := ho.cb
  rw [hl1] at h32 hcw
  rw [hl2] at hk32 hck
  rw [hl3] at hb32 hcb
  rw [hl1, hl2, hl3, hn]
  rw [hn] at hwf
  obtain ⟨hn1, hn2⟩ := wf64 hwf
  have HL1 := Aside0.mk hl1
  have HL2 := Aside0.mk hl2
  have HL3 := Aside0.mk hl3
  have HNN := Aside0.mk hn
  have HDN := Aside0.mk hN
  have hbx := box5 W (.int .i64 5) (.slice Aw l1 cw) (.int .i64 n) (.slice Ak l2 ck) (.slice Ab l3 cb)
  obtain ⟨g, r, B, R, lv, mv, hx, hc, hl, hj, hb, nb, nr, nx⟩ := h.boxed (.cells #[.int .i64 5, .slice Aw l1 cw, .int .i64 n, .slice Ak l2 ck, .slice Ab l3 cb] 70)
  have hf1 : Fr (fun k => lo ≤ k) W (W.alloc (.cells #[.int .i64 5, .slice Aw l1 cw, .int .i64 n, .slice Ak l2 ck, .slice Ab l3 cb] 70)) := (Fr.refl _ W).alloc _
  have hbz : lo ≤ W.heap.size := h.lo
  clear h ho hwf hl1 hl2 hl3 hn he hN
  go_enter Try.func37, Try.ntmps37
  have c3w := hx.cells.2.2.2.1
  have c0w := hx.cells.1
  obtain ⟨lb, mb, rfl, rfl, hlg, hmg, ll1, ll2, nl1, nl2, nl3, nl4⟩ : ∃ lb mb, lv = .pointer (some ⟨lb, 0, none⟩) ∧ mv = .pointer (some ⟨mb, 0, none⟩) ∧ IsLog (W.alloc (.cells #[.int .i64 5, .slice Aw l1 cw, .int .i64 n, .slice Ak l2 ck, .slice Ab l3 cb] 70)) lb g dn ∧ IsRLog (W.alloc (.cells #[.int .i64 5, .slice Aw l1 cw, .int .i64 n, .slice Ak l2 ck, .slice Ab l3 cb] 70)) mb r dn ∧ lo ≤ lb ∧ lo ≤ mb ∧ ¬ B lb ∧ ¬ R lb ∧ ¬ B mb ∧ ¬ R mb := by rw [hoo] at hl; exact hl
  clear hlg hmg ll1 ll2 nl1 nl2 nl3 nl4
  go_wp2_with fail
  obtain ⟨W1, hW1⟩ : ∃ W1, W.alloc (.cells #[.int .i64 5, .slice Aw l1 cw, .int .i64 n, .slice Ak l2 ck, .slice Ab l3 cb] 70) = W1 := ⟨_, rfl⟩
  rw [hW1] at hbx hx hc hl hf1 ⊢
  obtain ⟨bx, hbx'⟩ : ∃ b, W.heap.size = b := ⟨_, rfl⟩
  rw [hbx'] at hbx nb nr nx hbz ⊢
  clear hW1 hbx'
  have HBX := Aside0.mk hbx
  have HF1 := Aside0.mk hf1
  have HX := Aside0.mk hx
  have HC := Aside0.mk hc
  have HL := Aside0.mk hl
  have HJ := Aside0.mk hj
  have HB := Aside0.mk hb
  have HNB := Aside0.mk nb
  have HNR := Aside0.mk nr
  have HBZ := Aside0.mk hbz
  have HBL : Aside0 (bx < W1.heap.size) := ⟨(Array.getElem?_eq_some_iff.1 hbx).1⟩
  obtain ⟨k0, k1, k2, k3, k4⟩ := box_cells hbx
  obtain ⟨c0, c1, c2, c3, cf⟩ := hx.cells
  clear hbx hf1 hx hc hl hj hb nb nr hbz
  have HLX : Aside0 (JL lo g r B R W1 (.pointer (some ⟨lb, 0, none⟩)) (.pointer (some ⟨mb, 0, none⟩)) (some dn)) := ⟨by have := HL.out; rwa [hoo] at this⟩
  obtain ⟨lb', mb', e1, e2, hlg, hmg, ll1, ll2, nl1, nl2, nl3, nl4⟩ := HLX.out
  injection e1 with e1
  injection e1 with e1
  injection e1 with e1
  injection e2 with e2
  injection e2 with e2
  injection e2 with e2
  subst e1 e2
  have hne : mb ≠ lb := fun e => by
    have h1 : W1.heap[lb]? = _ := hlg
    have h2 : W1.heap[mb]? = _ := hmg
    rw [e, h1] at h2
    injection h2 with h2
    injection h2 with _ h2
    exact absurd h2 (by decide)
  have hnx : x ≠ lb := fun e => by
    have h1 : W1.heap[lb]? = _ := hlg
    have h2 : W1.heap[x]? = _ := HX.out
    rw [e, h1] at h2
    injection h2 with h2
    injection h2 with _ h2
    exact absurd h2 (by decide)
  have CC := Aside0.mk (clone_calls g B D W1 HC.out.d (by have := HJ.out.u; omega))
  have HLG := Aside0.mk hlg
  have HMG := Aside0.mk hmg
  have HNE := Aside0.mk (And.intro hne hnx)
  have HNL := Aside0.mk (And.intro nl1 (And.intro nl2 (And.intro nl3 nl4)))
  have HLL := Aside0.mk (And.intro ll1 ll2)
  clear hlg hmg hne hnx nl1 nl2 nl3 nl4 ll1 ll2 c0 c1 c2 c3 cf k0 k1 k2 k3 k4 c3w c0w
  refine CC.out.mono ?_
  rintro e w2 ⟨g2, rfl, ⟨B2, d2, b2⟩, f2⟩
  have HX2 := Aside0.mk (HX.out.kept (f2.keep _ HX.out.lt (fun h => h)))
  have HD2 := Aside0.mk d2
  have HB2 := Aside0.mk b2
  have HF2 := Aside0.mk f2
  have HLG2 := Aside0.mk (HLG.out.kept (f2.keep _ HLG.out.lt (fun h => h)))
  have MV := Aside0.mk (move_calls lb g g2 dn w2 HLG2.out)
  have c1 := HX2.out.cells.2.1
  clear d2 b2 f2 CC
  go_wp2_with fail
  refine MV.out.mono ?_
  rintro e w3 ⟨rfl, rfl⟩
  obtain ⟨W3, hW3⟩ : ∃ W3, w2.alloc (.cells #[.pointer (some ⟨g2, 0, none⟩), .bool dn] 104) = W3 := ⟨_, rfl⟩
  have hf3 : Fr (fun _ => False) W1 W3 := by rw [← hW3]; exact HF2.out.alloc _
  have hl3 : IsLog W3 w2.heap.size g2 dn := by rw [← hW3]; exact heap_alloc_new _ _
  have hd3 : IsDisk W3 B2 g2 D := by rw [← hW3]; exact HD2.out.alloc _
  have hs3 : w2.heap.size < W3.heap.size := by rw [← hW3]; simp
  rw [hW3]
  obtain ⟨l2, hl2⟩ : ∃ l, w2.heap.size = l := ⟨_, rfl⟩
  have HL2B : Aside0 (∀ k, B2 k → k < l2) := ⟨by rw [← hl2]; exact HD2.out.lt⟩
  rw [hl2] at hl3 hs3 ⊢
  have HW12 : Aside0 (W1.heap.size ≤ l2) := ⟨by rw [← hl2]; exact HF2.out.size⟩
  have HF3 := Aside0.mk hf3
  have HL3 := Aside0.mk hl3
  have HD3 := Aside0.mk hd3
  have HS3 := Aside0.mk hs3
  have HX3 := Aside0.mk (HX.out.kept (hf3.keep _ HX.out.lt (fun h => h)))
  have c1' := HX3.out.cells.2.1
  have hmk := make64 W3.drew
  have CM : Aside0 (∀ W' rb ab, Fr (fun _ => False) W1 W' → W1.heap.size ≤ rb → W1.heap.size ≤ ab → W'.heap[rb]? = some (.cells #[.int .i64 0, .slice (some ⟨ab, 0, none⟩) 64 64] 102 (0, 0)) → IsBytes W' ab zeros64 → Calls Try.prog 28 #[.pointer (some ⟨lb, 0, none⟩), .slice (some ⟨rb, 0, none⟩) 1 1] W' fun e w' => (∃ q : Int, e = .returned (.int .i64 q)) ∧ Fr (fun k => B k ∨ k = lb) W' w') := ⟨fun W' rb ab f h1 h2 h3 h4 => by
    have hm : ∀ W'', Fr B W' W'' → Kd.C k102 W'' (some ⟨rb, 0, none⟩) 1 [⟨0, zeros64⟩] := one_write h3 h4 rfl (fun hb => by have := HC.out.d.lt _ hb; omega) (fun hb => by have := HC.out.d.lt _ hb; omega)
    refine (com_calls lb g dn B D (some ⟨rb, 0, none⟩) 1 1 [⟨0, zeros64⟩] W' i (HC.out.d.fr f (fun _ _ h => h)) HJ.out hi (HLG.out.kept (f.keep _ HLG.out.lt (fun h => h))) HNL.out.1 (by have := HDN.out; omega) rfl (by omega) hm).mono ?_
    rintro e w' ⟨rfl, _, hf, _⟩
    exact ⟨⟨_, rfl⟩, hf⟩⟩
  clear hf3 hl3 hd3 hs3 hW3 hl2 MV c1 HX2 HD2 HF2 HLG2
  go_wp2_with fail
  have S0 := Aside0.mk c1'
  have HXL : Aside0 (∀ W', XAt W' x g r (.pointer (some ⟨lb, 0, none⟩)) (.pointer (some ⟨mb, 0, none⟩)) → W'.cell? ⟨x, 1, none⟩ = some (.pointer (some ⟨lb, 0, none⟩))) := ⟨fun W' h => h.cells.2.1⟩
  have HFQ : Aside0 (∀ o1 o2, Fr (fun _ => False) W3 ((W3.alloc o1).alloc o2).drew) := ⟨fun o1 o2 => (((Fr.refl _ W3).alloc o1).alloc o2).drew⟩
  have HFA : Aside0 (∀ o1, XAt (W3.alloc o1).drew x g r (.pointer (some ⟨lb, 0, none⟩)) (.pointer (some ⟨mb, 0, none⟩))) := ⟨fun o1 => HX3.out.kept (((Fr.refl (fun _ => False) W3).alloc o1).drew.keep _ HX3.out.lt (fun h => h))⟩
  have HFB : Aside0 (∀ o1 o2, XAt ((W3.alloc o1).alloc o2).drew x g r (.pointer (some ⟨lb, 0, none⟩)) (.pointer (some ⟨mb, 0, none⟩))) := ⟨fun o1 o2 => HX3.out.kept ((HFQ.out o1 o2).keep _ HX3.out.lt (fun h => h))⟩
  refine wp_region_held_drew (S := fun W' => W'.cell? ⟨x, 1, none⟩ = some (.pointer (some ⟨lb, 0, none⟩))) (by kernel_rfl) S0.out (fun hHeld => ?_)
  refine wpAnyH_take (i := 0) (oi := ⟨some 188, _, _, _, _, _⟩) (v := ?_) rfl (by kernel_rfl) (by kernel_rfl) (by kernel_rfl) (fun _ _ _ h => h) (Or.inl ⟨by rfl, ?hyQ1⟩) (by assumption) ?rsQ1
  case hyQ1 => (intro w' hSw; (try dsimp only at hSw); (first | (go_simp; done) | (go_simp; with_reducible rfl)))
  try simp only [Act.put, List.setIfInBounds_toArray, List.set_cons_zero, List.set_cons_succ]
  refine wpAnyH_take (i := 1) (oi := ⟨some 189, _, _, _, _, _⟩) (v := ?_) rfl (by kernel_rfl) (by kernel_rfl) (by kernel_rfl) (fun _ _ _ h => h) (Or.inl ⟨by rfl, ?hyQ2⟩) (by assumption) ?rsQ2
  case hyQ2 => (intro w' hSw; (try dsimp only at hSw); (first | (go_simp; done) | (go_simp; with_reducible rfl)))
  try simp only [Act.put, List.setIfInBounds_toArray, List.set_cons_zero, List.set_cons_succ]
  refine wpAnyH_take (i := 2) (oi := ⟨some 190, _, _, _, _, _⟩) (v := ?_) rfl (by kernel_rfl) (by kernel_rfl) (by kernel_rfl) (fun _ _ _ h => h) (Or.inl ⟨by rfl, ?hyQ3⟩) (by assumption) ?rsQ3
  case hyQ3 => (intro w' hSw; (try dsimp only at hSw); (first | (go_simp; done) | (go_simp; with_reducible rfl)))
  try simp only [Act.put, List.setIfInBounds_toArray, List.set_cons_zero, List.set_cons_succ]
  refine wpAnyH_take (i := 3) (oi := ⟨some 191, _, _, _, _, _⟩) (v := ?_) rfl (by kernel_rfl) (by kernel_rfl) (by kernel_rfl) (fun _ _ _ h => h) (Or.inl ⟨by rfl, ?hyQ4⟩) (by assumption) ?rsQ4
  case hyQ4 => (intro w' hSw; (try dsimp only at hSw); (first | (go_simp; done) | (go_simp; with_reducible rfl)))
  try simp only [Act.put, List.setIfInBounds_toArray, List.set_cons_zero, List.set_cons_succ]
  refine wpAnyH_ready (rs := [4]) (by kernel_rfl) (by simp) ?_
  refine AllReadyH.cons rfl (fun K hK => ?_) AllReadyH.nil
  go_simp
  clear hHeld
  refine hK.out _ _ (HXL.out _ (HFA.out _)) (fun hHeld => ?_)
  clear hK K
  try simp only [Act.put, List.setIfInBounds_toArray, List.set_cons_zero, List.set_cons_succ]
  refine wpAnyH_take (i := 5) (oi := ⟨some 193, _, _, _, _, _⟩) (v := ?_) rfl (by kernel_rfl) (by kernel_rfl) (by kernel_rfl) (fun _ _ _ h => h) (Or.inl ⟨by rfl, ?hyQ5⟩) (by assumption) ?rsQ5
  case hyQ5 => (intro w' hSw; (try dsimp only at hSw); (first | (go_simp; done) | (go_simp; with_reducible rfl)))
  try simp only [Act.put, List.setIfInBounds_toArray, List.set_cons_zero, List.set_cons_succ]
  refine wpAnyH_ready (rs := [6]) (by kernel_rfl) (by simp) ?_
  refine AllReadyH.cons rfl (fun K hK => ?_) AllReadyH.nil
  go_simp
  clear hHeld
  refine hK.out _ _ (HXL.out _ (HFB.out _ _)) (fun hHeld => ?_)
  clear hK K
  try simp only [Act.put, List.setIfInBounds_toArray, List.set_cons_zero, List.set_cons_succ]
  refine wpAnyH_ready (rs := [7]) (by kernel_rfl) (by simp) ?_
  refine AllReadyH.cons rfl (fun K hK => ?_) AllReadyH.nil
  go_simp
  refine (CM.out _ (W3.heap.size + 1) W3.heap.size (HF3.out.trans (HFQ.out _ _) (fun _ h => h.elim)) (by have := HF3.out.size; omega) HF3.out.size (heap_alloc2_new W3 _ _) (heap_alloc2_old W3 _ _)).mono ?_
  rintro e w4 ⟨⟨q, rfl⟩, f4⟩
  have HF34 : Aside0 (Fr (fun k => B k ∨ k = lb) W3 w4) := ⟨((HFQ.out _ _).mono (fun _ h => h.elim)).trans f4 (fun k h => .inl h)⟩
  have XB4 : Aside0 (XAt w4 x g r (.pointer (some ⟨lb, 0, none⟩)) (.pointer (some ⟨mb, 0, none⟩))) := ⟨HX3.out.kept (HF34.out.keep _ HX3.out.lt (fun h => h.elim HC.out.xb HNE.out.2))⟩
  clear f4 hHeld
  go_simp
  refine hK.out _ _ (HXL.out _ XB4.out) (fun hHeld => ?_)
  clear hK K
  try simp only [Act.put, List.setIfInBounds_toArray, List.set_cons_zero, List.set_cons_succ]
  refine wpAnyH_done (by kernel_rfl) ?_ _
  try dsimp only
  have hx4 := XB4.out
  obtain ⟨d0, d1, d2, d3, cf⟩ := hx4.cells
  have cf0 := cf 0
  have cf1 := cf 1
  have cfs : (w4.setCell ⟨x, 0, none⟩ (.pointer (some ⟨g2, 0, none⟩))).frozen? ⟨x, 1, none⟩ = false := frozen_of_row _ x 1 _ 75 (hx4.put0 g2)
  obtain ⟨e0, e1, e2, e3, _⟩ := (hx4.put0 g2).cells
  have HF6 : Aside0 (Fr (fun k => k = x) w4 ((w4.setCell ⟨x, 0, none⟩ (.pointer (some ⟨g2, 0, none⟩))).setCell ⟨x, 1, none⟩ (.pointer (some ⟨l2, 0, none⟩)))) := ⟨((Fr.refl (fun k => k = x) w4).setCell (p := ⟨x, 0, none⟩) (.inl rfl) _).setCell (p := ⟨x, 1, none⟩) (.inl rfl) _⟩
  have HX6 : Aside0 (XAt ((w4.setCell ⟨x, 0, none⟩ (.pointer (some ⟨g2, 0, none⟩))).setCell ⟨x, 1, none⟩ (.pointer (some ⟨l2, 0, none⟩))) x g2 r (.pointer (some ⟨l2, 0, none⟩)) (.pointer (some ⟨mb, 0, none⟩))) := ⟨(hx4.put0 g2).put1 _⟩
  have HE : Aside0 (ActEnd lo x i D W (.returned (.bool true)) ((w4.setCell ⟨x, 0, none⟩ (.pointer (some ⟨g2, 0, none⟩))).setCell ⟨x, 1, none⟩ (.pointer (some ⟨l2, 0, none⟩)))) := ⟨by
    have hxl := HX.out.lt
    have hll := HLG.out.lt
    have hml := HMG.out.lt
    have hs3 := HS3.out
    have hw12 := HW12.out
    have hlo : lo ≤ W1.heap.size := Nat.le_trans HLO.out HF1.out.size
    have hbB2 : ∀ k, B2 k → W1.heap.size ≤ k := HB2.out
    have hx2 : ¬ B2 x := fun h => by have := hbB2 _ h; omega
    have hRlt : ∀ k, R k → k < W1.heap.size := HC.out.e.lt
    have k4 : ∀ k, k < W3.heap.size → ¬ B k → k ≠ lb → w4.heap[k]? = W3.heap[k]? := fun k h1 h2 h3 => HF34.out.keep k h1 (fun h => h.elim h2 h3)
    have nB : ∀ k, W1.heap.size ≤ k → ¬ B k := fun k hk hb => by have := HC.out.d.lt k hb; omega
    have hd4 : IsDisk w4 B2 g2 D := HD3.out.move HF34.out.size (fun k hb => k4 k (HD3.out.lt k hb) (nB k (hbB2 k hb)) (fun e => by have := hbB2 k hb; omega))
    have he4 : IsRef w4 R r D := (HC.out.e.fr HF3.out (fun _ _ h => h)).move HF34.out.size (fun k hr => k4 k (by have := hRlt k hr; have := HF3.out.size; omega) (fun hb => HC.out.apart k hb hr) (fun e => HNL.out.2.1 (e ▸ hr)))
    have hl4 : IsLog w4 l2 g2 dn := HL3.out.kept (k4 l2 hs3 (nB l2 hw12) (by omega))
    have hm4 : IsRLog w4 mb r dn := HMG.out.kept ((k4 mb (by have := HF3.out.size; omega) HNL.out.2.2.1 HNE.out.1).trans (HF3.out.keep mb hml (fun h => h)))
    have hxn : ∀ k, k ≠ x → ((w4.setCell ⟨x, 0, none⟩ (.pointer (some ⟨g2, 0, none⟩))).setCell ⟨x, 1, none⟩ (.pointer (some ⟨l2, 0, none⟩))).heap[k]? = w4.heap[k]? := fun k hk => (heap_setCell_other _ _ k _ hk).trans (heap_setCell_other _ _ k _ hk)
    refine ⟨rfl, ⟨D, some dn, ⟨g2, r, B2, R, _, _, HX6.out, ⟨hd4.fr HF6.out (fun k hb e => hx2 (e ▸ hb)), he4.fr HF6.out (fun k hb e => HC.out.xr (e ▸ hb)), fun k hb hr => by have := hbB2 k hb; have := hRlt k hr; omega, fun k hb => Nat.le_trans hlo (hbB2 k hb), HC.out.lr, hx2, HC.out.xr, HC.out.lx⟩, ⟨l2, mb, rfl, rfl, hl4.kept (hxn l2 (by omega)), hm4.kept (hxn mb (fun e => by
      have h1 : w4.heap[mb]? = _ := hm4
      have h2 : w4.heap[x]? = _ := XB4.out
      rw [e, h2] at h1
      injection h1 with h1
      injection h1 with _ h1
      exact absurd h1 (by decide))), by omega, HLL.out.2, fun h => by have := HL2B.out _ h; omega, fun h => by have := hRlt _ h; omega, fun h => by have := hbB2 _ h; omega, HNL.out.2.2.2⟩, HJ.out.mono (by omega), HB.out⟩, rfl⟩, ?_⟩
    exact ((HF1.out.trans HF3.out (fun _ h => h.elim)).trans HF34.out (fun k h => .inl (h.elim (HC.out.lb k) (fun e => by rw [e]; exact HLL.out.1)))).trans HF6.out (fun k h => .inl (by rw [h]; exact HC.out.lx))⟩
  clear hx4 d2 cf S0 hmk
  go_wp2_with fail
  go_ret
  exact HE.out
end Go.Proofs.Ytppgbfkhiofjiaa.X
