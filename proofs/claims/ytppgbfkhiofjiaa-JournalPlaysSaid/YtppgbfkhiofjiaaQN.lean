/-
  Of the proof of JournalPlays (put together by wip/tools/mkclaimj.py):
  JournalPlays: a row of writes of the call's own, each with bytes of its own: one byte is stored anew.
  JournalPlays: the contract of act, a commit. Printed by wip/tools/mkEQ6.py.
-/
import Derived.Test.YtppgbfkhiofjiaaQJ
namespace Go.Proofs.Ytppgbfkhiofjiaa.X
open Go.RowKit Go.Proofs.YtppgbfkhiofjiaaW.PrintWords Go.Proofs.YtppgbfkhiofjiaaW.PrintLast Go.Proofs.YtppgbfkhiofjiaaW.PrintMore Go.Proofs.Ytppgbfkhiofjiaa.Y
set_option linter.unusedVariables false
set_option linter.unusedSimpArgs false

/-- The bytes of the writes: V j is the slice of write j, L j its bytes; f tells the blocks apart. -/
def WR (W : World) (base N : Nat) (A : Option Addr) (n : Nat) (V : Nat → Value) (L : Nat → List Int) (f : Nat → Nat) : Prop :=
  ∀ j, j < n → (∃ gv, A = some ⟨gv, 0, none⟩ ∧ W.cell? ⟨gv, j * 2 + 1, none⟩ = some (V j) ∧ base ≤ gv ∧ gv < W.heap.size ∧ ∀ i, i < n → ∀ k, (V i).ownBlock = some k → k ≠ gv) ∧
    (Kd.int .u8).R 5 W base (fun k => f k = j ∧ k < N) (V j) (L j)
theorem wr_of_S {W : World} {base c : Nat} {ok : Nat → Prop} {A : Option Addr} {n : Nat} {l : List S102} (h : Kd.S k102 102 W base ok (.slice A n c) l) (hn : l.length = n) : ∃ V f, WR W base W.heap.size A n V (fun j => (l.getD j z102).f1) f := by
  by_cases h0 : n = 0
  · subst h0
    exact ⟨fun _ => .slice none 0 0, fun _ => 0, fun j hj => by omega⟩
  · obtain ⟨gv, cap, e, hg1, hg2, _⟩ := Kd.S_form h (by omega)
    injection e with eA _ ec
    subst eA ec
    obtain ⟨f, hR⟩ := Kd.S_bound h
    have key : ∀ j : Nat, ∃ v : Value, j < n → W.cell? ⟨gv, j * 2 + 1, none⟩ = some v ∧ (∀ k, v.ownBlock = some k → k ≠ gv) ∧ (Kd.int .u8).R 5 W base (fun k => f k = j ∧ k < W.heap.size) v (l.getD j z102).f1 := by
      intro j
      by_cases hj : j < n
      · obtain ⟨cs, hcl, hM, hcc, _⟩ := Kd.R_elem hR (z102, 0) (j : Int) (by omega) (by omega)
        rw [Int.toNat_natCast] at hM hcc
        have hz : l.zipIdx.getD j (z102, 0) = (l.getD j z102, j) := by
          rw [List.getD_eq_getElem?_getD, List.getElem?_zipIdx, List.getElem?_eq_getElem (by omega), List.getD_eq_getElem?_getD, List.getElem?_eq_getElem (by omega)]
          simp
        rw [hz] at hM
        obtain ⟨v, rfl, hv⟩ := k102_openM hM
        refine ⟨v, fun _ => ⟨hcc 1 v rfl, fun k hk => (hv.1 k hk).1.2, Kd.R_mono hv (fun k hk => ⟨hk.2, hk.1.1.2.2.1⟩)⟩⟩
      · exact ⟨.slice none 0 0, fun h => absurd h hj⟩
    obtain ⟨V, hV⟩ := Classical.skolem.1 key
    exact ⟨V, f, fun j hj => ⟨⟨gv, rfl, (hV j hj).1, hg1, hg2, fun i hi k hk => (hV i hi).2.1 k hk⟩, (hV j hj).2.2⟩⟩
theorem WR.keep {W W' : World} {base N : Nat} {A : Option Addr} {n : Nat} {V : Nat → Value} {L : Nat → List Int} {f : Nat → Nat} {P : Nat → Prop} (h : WR W base N A n V L f) (hf : Fr P W W') (hP : ∀ k, P k → k < base ∨ N ≤ k) (hA : ∀ k, P k → k < base ∨ W.heap.size ≤ k) : WR W' base N A n V L f := fun j hj => by
  obtain ⟨⟨gv, e, hc, h1, h2, h3⟩, hR⟩ := h j hj
  refine ⟨⟨gv, e, (World.cell?_of_block (w := W) (hf.keep gv h2 (fun hp => (hA _ hp).elim (fun h => by omega) (fun h => by omega)))).trans hc, h1, Nat.lt_of_lt_of_le h2 hf.size, h3⟩, ?_⟩
  have hb := Kd.R_mono (Kd.R_bound hR) (ok' := fun k => (f k = j ∧ k < N) ∧ base ≤ k) (fun k hk => ⟨hk.1, hk.2.1⟩)
  exact Kd.R_mono (Kd.R_step hb (fun k hk hlt => hf.keep k hlt (fun hp => (hP k hp).elim (fun h => by have := hk.2; omega) (fun h => by have := hk.1.2; omega)))) (fun k hk => hk.1)
theorem nums_set (l : List Int) (k : Nat) (v : Int) : nums .u8 (l.set k v) = (nums .u8 l).set k (.int .u8 v) := by simp [nums, List.map_set]
/-- A byte of one of them: where it lies; and it is stored anew. -/
theorem WR.elem {W : World} {base N : Nat} {A : Option Addr} {n : Nat} {V : Nat → Value} {L : Nat → List Int} {f : Nat → Nat} (h : WR W base N A n V L f) {j k : Nat} (hj : j < n) (hk : k < (L j).length) :
    ∃ g cap, V j = .slice (some ⟨g, 0, none⟩) (L j).length cap ∧ (L j).length ≤ cap ∧ base ≤ g ∧ g < N ∧ g < W.heap.size ∧ W.cell? ⟨g, k, none⟩ = some (.int .u8 ((L j).getD k 0)) ∧ W.frozen? ⟨g, k, none⟩ = false ∧
      ∀ v, WR (W.setCell ⟨g, k, none⟩ (.int .u8 v)) base N A n V (fun i => if i = j then (L j).set k v else L i) f := by
  obtain ⟨_, hR⟩ := h j hj
  have ho := Kd.own_of_R (enc := Value.int .u8) (h1 := fun _ => rfl) hR
  obtain ⟨hl, hx⟩ := ho
  rcases hx with ⟨_, h0⟩ | ⟨g, cap, cur, hv, hg, hb, hc, hm, hs, ht⟩
  · omega
  · have hfg : f g = j ∧ g < N := hR.1 g (by rw [hv]; rfl)
    have hlt := (Array.getElem?_eq_some_iff.1 hb).1
    refine ⟨g, cap, hv, hc, hg, hfg.2, hlt, ?_, frozen_of_row W g k cur 5 hb, fun v i hi => ?_⟩
    · rw [cell_of_row W g k cur 5 (0, 0) hb]
      have e1 : (cur.toList.take ((L j).length * 1))[k]? = some (.int .u8 ((L j).getD k 0)) := by
        rw [ht, encs, List.getElem?_map, List.getElem?_eq_getElem hk, List.getD_eq_getElem?_getD, List.getElem?_eq_getElem hk]
        rfl
      rw [List.getElem?_take, if_pos (by omega)] at e1
      rw [← e1, Array.getElem?_toList]
    · obtain ⟨⟨gv, eA, hcv, hv1, hv2, hv3⟩, hRi⟩ := h i hi
      have hgv : g ≠ gv := hv3 j hj g (by rw [hv]; rfl)
      refine ⟨⟨gv, eA, (World.cell?_of_block (w := W) (heap_setCell_other W _ gv _ (Ne.symm hgv))).trans hcv, hv1, by simpa [World.setCell] using hv2, hv3⟩, ?_⟩
      by_cases hij : i = j
      · subst hij
        rw [show ((fun i_1 => if i_1 = i then (L i).set k v else L i_1) i) = (L i).set k v from if_pos rfl]
        refine Kd.R_of_own (enc := Value.int .u8) (h1 := fun _ => rfl) ?_ (fun b e => hR.1 b e)
        refine ⟨by simp [encs], .inr ⟨g, cap, cur.setIfInBounds k (.int .u8 v), by rw [hv, List.length_set], hg, ?_, by rw [List.length_set]; exact hc, hm, by simpa using hs, ?_⟩⟩
        · rw [heap_setCell_same W g k _ 5 _ hb]
        · rw [List.length_set, Array.toList_setIfInBounds, List.take_set, ht]
          exact (nums_set (L i) k v).symm
      · rw [show ((fun i => if i = j then (L j).set k v else L i) i) = L i from if_neg hij]
        exact Kd.R_far hRi (fun q hq e => hij (by rw [← hq.1, e]; exact hfg.1)) _
end Go.Proofs.Ytppgbfkhiofjiaa.X

namespace Go.Proofs.Ytppgbfkhiofjiaa.X
open Go.RowKit Go.Proofs.YtppgbfkhiofjiaaW.PrintWords Go.Proofs.YtppgbfkhiofjiaaW.PrintLast Go.Proofs.YtppgbfkhiofjiaaW.PrintMore Go.Proofs.Ytppgbfkhiofjiaa.Y
set_option linter.unusedVariables false
set_option linter.unusedSimpArgs false

set_option maxHeartbeats 8000000 in
set_option maxRecDepth 100000 in
theorem act_commit (lo x i : Nat) (W : World) (D : DS) (oo : Option Bool) (o : OpJ) (Aw : Option Addr) (cw : Nat) (Ak : Option Addr) (ck : Nat) (Ab : Option Addr) (cb : Nat) (h : JP lo x W D oo i) (hi : i ≤ 100000) (hN : 0 ≤ D.n ∧ D.n ≤ 4096)
    (ho : OpC lo W o Aw cw Ak ck Ab cb) (he : o.kind = 0) (dn : Bool) (hoo : oo = some dn) : Calls Try.prog 37 #[.pointer (some ⟨x, 0, none⟩), opV o Aw cw Ak ck Ab cb] W (ActEnd lo x i D W) := by
  have HLO := Aside0.mk h.lo
  have HO := Aside0.mk ho
  unfold opV
  rw [he]
  obtain ⟨l1, hl1⟩ : ∃ n, o.w.length = n := ⟨_, rfl⟩
  obtain ⟨l2, hl2⟩ : ∃ n, o.keep.length = n := ⟨_, rfl⟩
  obtain ⟨l3, hl3⟩ : ∃ n, o.b.length = n := ⟨_, rfl⟩
  obtain ⟨n, hn⟩ : ∃ n, o.n = n := ⟨_, rfl⟩
  have hwf := ho.wf
  have h32 := ho.siz.2.2.1
  have hb32 := ho.siz.1
  have hk32 := ho.siz.2.1
  have hcw := ho.cw
  have hck := ho.ck
  have hcb := ho.cb
  rw [hl1] at h32 hcw
  rw [hl2] at hk32 hck
  rw [hl3] at hb32 hcb
  rw [hl1, hl2, hl3, hn]
  rw [hn] at hwf
  obtain ⟨hn1, hn2⟩ := wf64 hwf
  have HL1 := Aside0.mk hl1
  have HL2 := Aside0.mk hl2
  have HL3 := Aside0.mk hl3
  have HNN := Aside0.mk hn
  have HDN := Aside0.mk hN
  have hbx := box5 W (.int .i64 0) (.slice Aw l1 cw) (.int .i64 n) (.slice Ak l2 ck) (.slice Ab l3 cb)
  obtain ⟨g, r, B, R, lv, mv, hx, hc, hl, hj, hb, nb, nr, nx⟩ := h.boxed (.cells #[.int .i64 0, .slice Aw l1 cw, .int .i64 n, .slice Ak l2 ck, .slice Ab l3 cb] 70)
  have hf1 : Fr (fun k => lo ≤ k) W (W.alloc (.cells #[.int .i64 0, .slice Aw l1 cw, .int .i64 n, .slice Ak l2 ck, .slice Ab l3 cb] 70)) := (Fr.refl _ W).alloc _
  have hbz : lo ≤ W.heap.size := h.lo
  clear h ho hwf hl1 hl2 hl3 hn he hN
  go_enter Try.func37, Try.ntmps37
  have c3w := hx.cells.2.2.2.1
  obtain ⟨lb, mb, rfl, rfl, hlg, hmg, ll1, ll2, nl1, nl2, nl3, nl4⟩ : ∃ lb mb, lv = .pointer (some ⟨lb, 0, none⟩) ∧ mv = .pointer (some ⟨mb, 0, none⟩) ∧ IsLog (W.alloc (.cells #[.int .i64 0, .slice Aw l1 cw, .int .i64 n, .slice Ak l2 ck, .slice Ab l3 cb] 70)) lb g dn ∧ IsRLog (W.alloc (.cells #[.int .i64 0, .slice Aw l1 cw, .int .i64 n, .slice Ak l2 ck, .slice Ab l3 cb] 70)) mb r dn ∧ lo ≤ lb ∧ lo ≤ mb ∧ ¬ B lb ∧ ¬ R lb ∧ ¬ B mb ∧ ¬ R mb := by rw [hoo] at hl; exact hl
  clear hlg hmg ll1 ll2 nl1 nl2 nl3 nl4
  go_wp2_with fail
  obtain ⟨W1, hW1⟩ : ∃ W1, W.alloc (.cells #[.int .i64 0, .slice Aw l1 cw, .int .i64 n, .slice Ak l2 ck, .slice Ab l3 cb] 70) = W1 := ⟨_, rfl⟩
  rw [hW1] at hbx hx hc hl hf1 ⊢
  obtain ⟨bx, hbx'⟩ : ∃ b, W.heap.size = b := ⟨_, rfl⟩
  rw [hbx'] at hbx nb nr nx hbz ⊢
  clear hW1 hbx'
  have HBX := Aside0.mk hbx
  have HF1 := Aside0.mk hf1
  have HX := Aside0.mk hx
  have HC := Aside0.mk hc
  have HL := Aside0.mk hl
  have HJ := Aside0.mk hj
  have HB := Aside0.mk hb
  have HNB := Aside0.mk nb
  have HNR := Aside0.mk nr
  have HBZ := Aside0.mk hbz
  have HBL : Aside0 (bx < W1.heap.size) := ⟨(Array.getElem?_eq_some_iff.1 hbx).1⟩
  obtain ⟨k0, k1, k2, k3, k4⟩ := box_cells hbx
  obtain ⟨c0, c1, c2, c3, cf⟩ := hx.cells
  clear hbx hf1 hx hc hl hj hb nb nr hbz
  have HLX : Aside0 (JL lo g r B R W1 (.pointer (some ⟨lb, 0, none⟩)) (.pointer (some ⟨mb, 0, none⟩)) (some dn)) := ⟨by have := HL.out; rwa [hoo] at this⟩
  obtain ⟨lb', mb', e1, e2, hlg, hmg, ll1, ll2, nl1, nl2, nl3, nl4⟩ := HLX.out
  injection e1 with e1
  injection e1 with e1
  injection e1 with e1
  injection e2 with e2
  injection e2 with e2
  injection e2 with e2
  subst e1 e2
  have hne : mb ≠ lb := fun e => by
    have h1 : W1.heap[lb]? = _ := hlg
    have h2 : W1.heap[mb]? = _ := hmg
    rw [e, h1] at h2
    injection h2 with h2
    injection h2 with _ h2
    exact absurd h2 (by decide)
  have hnx : x ≠ lb := fun e => by
    have h1 : W1.heap[lb]? = _ := hlg
    have h2 : W1.heap[x]? = _ := HX.out
    rw [e, h1] at h2
    injection h2 with h2
    injection h2 with _ h2
    exact absurd h2 (by decide)
  have hnm : x ≠ mb := fun e => by
    have h1 : W1.heap[mb]? = _ := hmg
    have h2 : W1.heap[x]? = _ := HX.out
    rw [e, h1] at h2
    injection h2 with h2
    injection h2 with _ h2
    exact absurd h2 (by decide)
  have hnb1 : bx ≠ lb := fun e => by
    have h1 : W1.heap[lb]? = _ := hlg
    have h2 := HBX.out
    rw [e, h1] at h2
    injection h2 with h2
    injection h2 with _ h2
    exact absurd h2 (by decide)
  have hnb2 : bx ≠ mb := fun e => by
    have h1 : W1.heap[mb]? = _ := hmg
    have h2 := HBX.out
    rw [e, h1] at h2
    injection h2 with h2
    injection h2 with _ h2
    exact absurd h2 (by decide)
  have HLG := Aside0.mk hlg
  have HMG := Aside0.mk hmg
  have HNE := Aside0.mk (And.intro hne (And.intro hnx (And.intro hnm (And.intro hnb1 hnb2))))
  have HNL := Aside0.mk (And.intro nl1 (And.intro nl2 (And.intro nl3 nl4)))
  have HLL := Aside0.mk (And.intro ll1 ll2)
  have WC := writes_calls Aw cw l1 o.w W1 HL1.out (by rw [← HL1.out]; exact HO.out.w W1 HF1.out) hcw (fun s hs => by have := HO.out.siz.2.2.2 s hs; omega) (by omega)
  have WC := Aside0.mk WC
  clear hlg hmg hne hnx hnm hnb1 hnb2 nl1 nl2 nl3 nl4 ll1 ll2 c0 c1 c2 c3 cf k0 k1 k2 k3 k4 c3w
  refine WC.out.mono ?_
  rintro e w2 ⟨v2, A2, c2, rfl, rfl, hS, hmade, f2⟩
  have hjl : (jw o.w).length = l1 := by rw [jw_length]; exact HL1.out
  obtain ⟨V, f, hWR⟩ := wr_of_S hS hjl
  obtain ⟨N, hN⟩ : ∃ N, w2.heap.size = N := ⟨_, rfl⟩
  obtain ⟨M, hM⟩ : ∃ M, W1.heap.size = M := ⟨_, rfl⟩
  have hMN : M ≤ N := by rw [← hN, ← hM]; exact f2.size
  rw [hN, hM] at hWR
  have HWR := Aside0.mk hWR
  have HN := Aside0.mk hN
  have HM := Aside0.mk hM
  have HMN := Aside0.mk hMN
  have HF2 := Aside0.mk f2
  have HBlt : Aside0 (∀ k, B k → k < M) := ⟨by rw [← hM]; exact HC.out.d.lt⟩
  have HRlt : Aside0 (∀ k, R k → k < M) := ⟨by rw [← hM]; exact HC.out.e.lt⟩
  have HXlt : Aside0 (x < M ∧ bx < M ∧ lb < M ∧ mb < M) := ⟨by rw [← hM]; exact ⟨HX.out.lt, HBL.out, HLG.out.lt, HMG.out.lt⟩⟩
  have HLO1 : Aside0 (lo ≤ M) := ⟨by rw [← hM]; exact Nat.le_trans HLO.out HF1.out.size⟩
  obtain ⟨q, hq⟩ : ∃ q, logC (jw o.w) D dn = q := ⟨_, rfl⟩
  obtain ⟨q1, D3, dn3⟩ := q
  have HQN : Aside0 (D3.n = D.n) := ⟨by have := n_logC (jw o.w) D dn; rwa [hq] at this⟩
  have HQJ : Aside0 (JOk (i + 150) D3) := ⟨by have := HJ.out.logC (jw o.w) dn; rwa [hq] at this⟩
  have HQB : Aside0 (Byt D3) := ⟨by
    have := HB.out.logC (l := jw o.w) (fun y hy => by
      obtain ⟨s, hs, rfl⟩ := List.mem_map.1 hy
      exact HO.out.wb s hs) dn
    rwa [hq] at this⟩
  have C28 : Aside0 (∀ W', Fr (fun _ => False) w2 W' → Calls Try.prog 28 #[.pointer (some ⟨lb, 0, none⟩), .slice A2 l1 c2] W' fun e w' => e = .returned (.int .i64 q1) ∧ (∃ B3, IsDisk w' B3 g D3 ∧ ∀ k, B3 k → B k ∨ N ≤ k) ∧ Fr (fun k => B k ∨ k = lb) w2 w' ∧ IsLog w' lb g dn3) := ⟨fun W' f => by
    have f12 := HF2.out.trans f (fun _ h => h.elim)
    have := com_calls lb g dn B D A2 c2 l1 (jw o.w) W' i (HC.out.d.fr f12 (fun _ _ h => h)) HJ.out hi (HLG.out.kept (f12.keep _ HLG.out.lt (fun h => h))) HNL.out.1 (by have := HDN.out; omega) hjl (by omega) (fun W'' f' => hmade B W'' HC.out.d.lt ((f.mono (fun _ h => h.elim)).trans f' (fun k h => .inl h)))
    unfold ComEnd at this
    rw [hq] at this
    refine this.mono ?_
    rintro e w' ⟨h1, ⟨B3, h2, h3⟩, h4, h5⟩
    exact ⟨h1, ⟨B3, h2, fun k hk => (h3 k hk).imp id (fun h => by have := f.size; rw [HN.out] at this; omega)⟩, (f.mono (fun _ h => h.elim)).trans h4 (fun k h => .inl h), h5⟩⟩
  have C68 : Aside0 (∀ W', Fr (fun k => B k ∨ k = lb) w2 W' → Calls Try.prog 68 #[.pointer (some ⟨mb, 0, none⟩), .slice Aw l1 cw] W' fun e w' => e = .returned (.int .i64 q1) ∧ (∃ R3, IsRef w' R3 r D3 ∧ ∀ k, R3 k → R k ∨ W'.heap.size ≤ k) ∧ Fr (fun k => R k ∨ k = mb) W' w' ∧ IsRLog w' mb r dn3) := ⟨fun W' f => by
    have f12 : Fr (fun k => B k ∨ k = lb) W1 W' := (HF2.out.mono (fun _ h => h.elim)).trans f (fun k h => .inl h)
    have fw : Fr (fun k => lo ≤ k) W W' := HF1.out.trans f12 (fun k h => .inl (h.elim (HC.out.lb k) (fun e => by rw [e]; exact HLL.out.1)))
    have := rcom_calls mb r dn R D Aw cw l1 o.w W' i (HC.out.e.fr f12 (fun k hr h => h.elim (fun hb => HC.out.apart k hb hr) (fun e => HNL.out.2.1 (e ▸ hr)))) HJ.out (by omega) (HMG.out.kept (f12.keep _ HMG.out.lt (fun h => h.elim HNL.out.2.2.1 HNE.out.1))) HNL.out.2.2.2 HL1.out (by omega) (fun W'' f' => by
      have := HO.out.w W'' (fw.trans f' (fun k h => .inl (HC.out.lr k h)))
      rwa [HL1.out] at this)
    unfold RComEnd at this
    rw [hq] at this
    exact this⟩
  have S0 : Aside0 (w2.cell? ⟨x, 1, none⟩ = some (.pointer (some ⟨lb, 0, none⟩)) ∧ w2.cell? ⟨x, 3, none⟩ = some (.pointer (some ⟨mb, 0, none⟩)) ∧ w2.cell? ⟨bx, 1, none⟩ = some (.slice Aw l1 cw)) := ⟨cellK f2 HX.out.cells.2.1, cellK f2 HX.out.cells.2.2.2.1, cellK f2 (box_cells HBX.out).2.1⟩
  have XB2 := Aside0.mk (xbox HX.out HBX.out f2 (fun h => h) (fun h => h))
  have SX : Aside0 (∀ W', XAt W' x g r (.pointer (some ⟨lb, 0, none⟩)) (.pointer (some ⟨mb, 0, none⟩)) → W'.heap[bx]? = some (.cells #[.int .i64 0, .slice Aw l1 cw, .int .i64 n, .slice Ak l2 ck, .slice Ab l3 cb] 70 (0, 0)) → W'.cell? ⟨x, 1, none⟩ = some (.pointer (some ⟨lb, 0, none⟩)) ∧ W'.cell? ⟨x, 3, none⟩ = some (.pointer (some ⟨mb, 0, none⟩)) ∧ W'.cell? ⟨bx, 1, none⟩ = some (.slice Aw l1 cw)) := ⟨fun W' hx hb => ⟨hx.cells.2.1, hx.cells.2.2.2.1, (box_cells hb).2.1⟩⟩
  have HCW := Aside0.mk (And.intro hcw h32)
  clear hS hmade f2 hjl hWR hN hM hMN WC hq hcw
  go_wp2_with fail
  refine wp_region_held_drew (S := fun W' => W'.cell? ⟨x, 1, none⟩ = some (.pointer (some ⟨lb, 0, none⟩)) ∧ W'.cell? ⟨x, 3, none⟩ = some (.pointer (some ⟨mb, 0, none⟩)) ∧ W'.cell? ⟨bx, 1, none⟩ = some (.slice Aw l1 cw)) (by kernel_rfl) S0.out (fun hHeld => ?_)
  refine wpAnyH_take (i := 0) (oi := ⟨some 101, _, _, _, _, _⟩) (v := ?_) rfl (by kernel_rfl) (by kernel_rfl) (by kernel_rfl) (fun _ _ _ h => h) (Or.inl ⟨by rfl, ?hyQ1⟩) (by assumption) ?rsQ1
  case hyQ1 => (intro w' hSw; (try dsimp only at hSw); (first | (go_simp; done) | (go_simp; with_reducible rfl)))
  try simp only [Act.put, List.setIfInBounds_toArray, List.set_cons_zero, List.set_cons_succ]
  refine wpAnyH_take (i := 1) (oi := ⟨some 102, _, _, _, _, _⟩) (v := ?_) rfl (by kernel_rfl) (by kernel_rfl) (by kernel_rfl) (fun _ _ _ h => h) (Or.inl ⟨by rfl, ?hyQ2⟩) (by assumption) ?rsQ2
  case hyQ2 => (intro w' hSw; (try dsimp only at hSw); (first | (go_simp; done) | (go_simp; with_reducible rfl)))
  try simp only [Act.put, List.setIfInBounds_toArray, List.set_cons_zero, List.set_cons_succ]
  refine wpAnyH_take (i := 2) (oi := ⟨some 103, _, _, _, _, _⟩) (v := ?_) rfl (by kernel_rfl) (by kernel_rfl) (by kernel_rfl) (fun _ _ _ h => h) (Or.inl ⟨by rfl, ?hyQ3⟩) (by assumption) ?rsQ3
  case hyQ3 => (intro w' hSw; (try dsimp only at hSw); (first | (go_simp; done) | (go_simp; with_reducible rfl)))
  try simp only [Act.put, List.setIfInBounds_toArray, List.set_cons_zero, List.set_cons_succ]
  refine wpAnyH_take (i := 3) (oi := ⟨some 104, _, _, _, _, _⟩) (v := ?_) rfl (by kernel_rfl) (by kernel_rfl) (by kernel_rfl) (fun _ _ _ h => h) (Or.inl ⟨by rfl, ?hyQ4⟩) (by assumption) ?rsQ4
  case hyQ4 => (intro w' hSw; (try dsimp only at hSw); (first | (go_simp; done) | (go_simp; with_reducible rfl)))
  try simp only [Act.put, List.setIfInBounds_toArray, List.set_cons_zero, List.set_cons_succ]
  refine wpAnyH_take (i := 4) (oi := ⟨some 105, _, _, _, _, _⟩) (v := ?_) rfl (by kernel_rfl) (by kernel_rfl) (by kernel_rfl) (fun _ _ _ h => h) (Or.inl ⟨by rfl, ?hyQ5⟩) (by assumption) ?rsQ5
  case hyQ5 => (intro w' hSw; (try dsimp only at hSw); (first | (go_simp; done) | (go_simp; with_reducible rfl)))
  try simp only [Act.put, List.setIfInBounds_toArray, List.set_cons_zero, List.set_cons_succ]
  refine wpAnyH_take (i := 6) (oi := ⟨some 107, _, _, _, _, _⟩) (v := ?_) rfl (by kernel_rfl) (by kernel_rfl) (by kernel_rfl) (fun _ _ _ h => h) (Or.inl ⟨by rfl, ?hyQ6⟩) (by assumption) ?rsQ6
  case hyQ6 => (intro w' hSw; (try dsimp only at hSw); (first | (go_simp; done) | (go_simp; with_reducible rfl)))
  try simp only [Act.put, List.setIfInBounds_toArray, List.set_cons_zero, List.set_cons_succ]
  refine wpAnyH_take (i := 7) (oi := ⟨some 108, _, _, _, _, _⟩) (v := ?_) rfl (by kernel_rfl) (by kernel_rfl) (by kernel_rfl) (fun _ _ _ h => h) (Or.inl ⟨by rfl, ?hyQ7⟩) (by assumption) ?rsQ7
  case hyQ7 => (intro w' hSw; (try dsimp only at hSw); (first | (go_simp; done) | (go_simp; with_reducible rfl)))
  try simp only [Act.put, List.setIfInBounds_toArray, List.set_cons_zero, List.set_cons_succ]
  refine wpAnyH_take (i := 8) (oi := ⟨some 109, _, _, _, _, _⟩) (v := ?_) rfl (by kernel_rfl) (by kernel_rfl) (by kernel_rfl) (fun _ _ _ h => h) (Or.inl ⟨by rfl, ?hyQ8⟩) (by assumption) ?rsQ8
  case hyQ8 => (intro w' hSw; (try dsimp only at hSw); (first | (go_simp; done) | (go_simp; with_reducible rfl)))
  try simp only [Act.put, List.setIfInBounds_toArray, List.set_cons_zero, List.set_cons_succ]
  refine wpAnyH_take (i := 9) (oi := ⟨some 110, _, _, _, _, _⟩) (v := ?_) rfl (by kernel_rfl) (by kernel_rfl) (by kernel_rfl) (fun _ _ _ h => h) (Or.inl ⟨by rfl, ?hyQ9⟩) (by assumption) ?rsQ9
  case hyQ9 => (intro w' hSw; (try dsimp only at hSw); (first | (go_simp; done) | (go_simp; with_reducible rfl)))
  try simp only [Act.put, List.setIfInBounds_toArray, List.set_cons_zero, List.set_cons_succ]
  refine wpAnyH_take (i := 10) (oi := ⟨some 111, _, _, _, _, _⟩) (v := ?_) rfl (by kernel_rfl) (by kernel_rfl) (by kernel_rfl) (fun _ _ _ h => h) (Or.inl ⟨by rfl, ?hyQ10⟩) (by assumption) ?rsQ10
  case hyQ10 => (intro w' hSw; (try dsimp only at hSw); (first | (go_simp; done) | (go_simp; with_reducible rfl)))
  try simp only [Act.put, List.setIfInBounds_toArray, List.set_cons_zero, List.set_cons_succ]
  refine wpAnyH_take (i := 11) (oi := ⟨some 112, _, _, _, _, _⟩) (v := ?_) rfl (by kernel_rfl) (by kernel_rfl) (by kernel_rfl) (fun _ _ _ h => h) (Or.inl ⟨by rfl, ?hyQ11⟩) (by assumption) ?rsQ11
  case hyQ11 => (intro w' hSw; (try dsimp only at hSw); (first | (go_simp; done) | (go_simp; with_reducible rfl)))
  try simp only [Act.put, List.setIfInBounds_toArray, List.set_cons_zero, List.set_cons_succ]
  refine wpAnyH_ready (rs := [5]) (by kernel_rfl) (by simp) ?_
  refine AllReadyH.cons rfl (fun K hK => ?_) AllReadyH.nil
  go_simp
  refine (C28.out _ (Fr.refl _ w2).drew).mono ?_
  rintro e w3 ⟨rfl, ⟨B3, d3, b3⟩, f3, hl3⟩
  have hxb := xbox XB2.out.1 XB2.out.2 f3 (fun h => h.elim HC.out.xb HNE.out.2.1) (fun h => h.elim HNB.out HNE.out.2.2.2.1)
  have S3 := Aside0.mk (SX.out w3 hxb.1 hxb.2)
  have XB3 := Aside0.mk hxb
  have HD3 := Aside0.mk d3
  have HB3 := Aside0.mk b3
  have HF3 := Aside0.mk f3
  have HLG3 := Aside0.mk hl3
  clear d3 b3 f3 hl3 hxb hHeld
  go_simp
  refine hK.out _ _ S3.out (fun hHeld => ?_)
  clear hK K
  try simp only [Act.put, List.setIfInBounds_toArray, List.set_cons_zero, List.set_cons_succ]
  refine wpAnyH_ready (rs := [12]) (by kernel_rfl) (by simp) ?_
  refine AllReadyH.cons rfl (fun K hK => ?_) AllReadyH.nil
  go_simp
  refine (C68.out w3 HF3.out).mono ?_
  rintro e w4 ⟨rfl, ⟨R3, e4, r4⟩, f4, hm4⟩
  have hxb := xbox XB3.out.1 XB3.out.2 f4 (fun h => h.elim HC.out.xr HNE.out.2.2.1) (fun h => h.elim HNR.out HNE.out.2.2.2.2)
  have S4 := Aside0.mk (SX.out w4 hxb.1 hxb.2)
  have XB4 := Aside0.mk hxb
  have HE4 := Aside0.mk e4
  have HR4 := Aside0.mk r4
  have HF4 := Aside0.mk f4
  have HMG4 := Aside0.mk hm4
  clear e4 r4 f4 hm4 hxb hHeld
  go_simp
  refine hK.out _ _ S4.out (fun hHeld => ?_)
  clear hK K
  try simp only [Act.put, List.setIfInBounds_toArray, List.set_cons_zero, List.set_cons_succ]
  refine wpAnyH_take (i := 13) (oi := ⟨some 114, _, _, _, _, _⟩) (v := ?_) rfl (by kernel_rfl) (by kernel_rfl) (by kernel_rfl) (fun _ _ _ h => h) (Or.inl ⟨by rfl, ?hyQ12⟩) (by assumption) ?rsQ12
  case hyQ12 => (intro w' hSw; (try dsimp only at hSw); (first | (go_simp; done) | (go_simp; with_reducible rfl)))
  try simp only [Act.put, List.setIfInBounds_toArray, List.set_cons_zero, List.set_cons_succ]
  refine wpAnyH_take (i := 14) (oi := ⟨some 6, _, _, _, _, _⟩) (v := ?_) rfl (by kernel_rfl) (by kernel_rfl) (by kernel_rfl) (fun _ _ _ h => h) (Or.inl ⟨by rfl, ?hyQ13⟩) (by assumption) ?rsQ13
  case hyQ13 => (intro w' hSw; (try dsimp only at hSw); (first | (go_simp; done) | (go_simp; with_reducible rfl)))
  try simp only [Act.put, List.setIfInBounds_toArray, List.set_cons_zero, List.set_cons_succ]
  refine wpAnyH_done (by kernel_rfl) ?_ _
  try dsimp only
  have HP : Aside0 (∀ W', Fr (fun k => M ≤ k ∧ k < N) w4 W' → JP lo x W' D3 (some dn3) (i + 150) ∧ Fr (fun k => lo ≤ k) W W' ∧ W'.heap[bx]? = some (.cells #[.int .i64 0, .slice Aw l1 cw, .int .i64 n, .slice Ak l2 ck, .slice Ab l3 cb] 70 (0, 0))) := ⟨fun W' f => by
    obtain ⟨x1, x2, x3, x4⟩ := HXlt.out
    have hlo := HLO1.out
    have hMN := HMN.out
    have s3 := HF3.out.size
    rw [HN.out] at s3
    have s4 := HF4.out.size
    have nP : ∀ k, k < M → ¬ (M ≤ k ∧ k < N) := fun k h1 h2 => by omega
    have nQ : ∀ k, N ≤ k → ¬ (M ≤ k ∧ k < N) := fun k h1 h2 => by omega
    have b3 : ∀ k, B3 k → ¬ (M ≤ k ∧ k < N) := fun k hb => (HB3.out k hb).elim (fun h => nP k (HBlt.out k h)) (nQ k)
    have r3 : ∀ k, R3 k → ¬ (M ≤ k ∧ k < N) := fun k hr => (HR4.out k hr).elim (fun h => nP k (HRlt.out k h)) (fun h => nQ k (by omega))
    have hd4 : IsDisk w4 B3 g D3 := HD3.out.move HF4.out.size (fun k hb => HF4.out.keep k (HD3.out.lt k hb) (fun h => h.elim (fun hr => (HB3.out k hb).elim (fun hb => HC.out.apart k hb hr) (fun hge => by have := HRlt.out k hr; omega)) (fun e => (HB3.out k hb).elim (fun hb => HNL.out.2.2.1 (e ▸ hb)) (fun hge => by omega))))
    have hl4 : IsLog w4 lb g dn3 := HLG3.out.kept (HF4.out.keep lb HLG3.out.lt (fun h => h.elim HNL.out.2.1 (fun e => HNE.out.1 e.symm)))
    refine ⟨⟨g, r, B3, R3, _, _, XB4.out.1.kept (f.keep _ XB4.out.1.lt (nP x x1)), ⟨hd4.fr f (fun k hb h => b3 k hb h), HE4.out.fr f (fun k hr h => r3 k hr h), fun k hb hr => ?_, fun k hb => (HB3.out k hb).elim (HC.out.lb k) (fun h => by omega), fun k hr => (HR4.out k hr).elim (HC.out.lr k) (fun h => by omega), fun hb => (HB3.out x hb).elim HC.out.xb (fun h => by omega), fun hr => (HR4.out x hr).elim HC.out.xr (fun h => by omega), HC.out.lx⟩, ⟨lb, mb, rfl, rfl, hl4.kept (f.keep _ hl4.lt (nP lb x3)), HMG4.out.kept (f.keep _ HMG4.out.lt (nP mb x4)), HLL.out.1, HLL.out.2, fun hb => (HB3.out lb hb).elim HNL.out.1 (fun h => by omega), fun hr => (HR4.out lb hr).elim HNL.out.2.1 (fun h => by omega), fun hb => (HB3.out mb hb).elim HNL.out.2.2.1 (fun h => by omega), fun hr => (HR4.out mb hr).elim HNL.out.2.2.2 (fun h => by omega)⟩, HQJ.out, HQB.out⟩, ?_, ?_⟩
    · rcases HB3.out k hb with hb | hge
      · rcases HR4.out k hr with hr | hge
        · exact HC.out.apart k hb hr
        · have := HBlt.out k hb; omega
      · rcases HR4.out k hr with hr | hge2
        · have := HRlt.out k hr; omega
        · have := HD3.out.lt k (by assumption)
          omega
    · have g1 : Fr (fun k => lo ≤ k) W w4 := ((HF1.out.trans HF2.out (fun _ h => h.elim)).trans HF3.out (fun k h => .inl (h.elim (HC.out.lb k) (fun e => by rw [e]; exact HLL.out.1)))).trans HF4.out (fun k h => .inl (h.elim (HC.out.lr k) (fun e => by rw [e]; exact HLL.out.2)))
      exact g1.trans f (fun k h => .inl (Nat.le_trans hlo h.1))
    · exact (f.keep bx (Array.getElem?_eq_some_iff.1 XB4.out.2).1 (nP bx x2)).trans XB4.out.2⟩
  have HW4 : Aside0 (WR w4 M N A2 l1 V (fun j => ((jw o.w).getD j z102).f1) f) := ⟨by
    have h3 := HWR.out.keep HF3.out (fun k h => .inl (h.elim (HBlt.out k) (fun e => by have := HXlt.out; omega))) (fun k h => .inl (h.elim (HBlt.out k) (fun e => by have := HXlt.out; omega)))
    exact h3.keep HF4.out (fun k h => .inl (h.elim (HRlt.out k) (fun e => by have := HXlt.out; omega))) (fun k h => .inl (h.elim (HRlt.out k) (fun e => by have := HXlt.out; omega)))⟩
  clear S0 S3 S4 SX XB2 XB3 C28 C68 HWR
  go_wp2_with fail
  have HL0' : Aside0 (∀ j, j < l1 → ∃ s, o.w[j]? = some s ∧ ((jw o.w).getD j z102).f1 = s.f1) := ⟨fun j hj => by
    have hj' : j < o.w.length := by rw [HL1.out]; exact hj
    refine ⟨o.w[j], List.getElem?_eq_getElem hj', ?_⟩
    unfold jw
    rw [List.getD_eq_getElem?_getD, List.getElem?_map, List.getElem?_eq_getElem hj']
    rfl⟩
  obtain ⟨L0, hL0⟩ : ∃ L0 : Nat → List Int, (fun j => ((jw o.w).getD j z102).f1) = L0 := ⟨_, rfl⟩
  have HL0 : Aside0 (∀ j, j < l1 → ∃ s, o.w[j]? = some s ∧ L0 j = s.f1) := ⟨by rw [← hL0]; exact HL0'.out⟩
  rw [hL0] at HW4
  have AT : Aside0 (∀ (W' : World) (j : Nat), Fr (fun k => lo ≤ k) W W' → j < l1 → ∃ ad A1 c1, Aw = some ad ∧ W'.cell? ⟨(ad.add (j * 2)).block, (ad.add (j * 2)).off + 1, none⟩ = some (.slice A1 (L0 j).length c1) ∧ (L0 j).length ≤ c1 ∧ Kd.C (Kd.int .u8) W' A1 (L0 j).length (L0 j)) := ⟨fun W' j fw hj => by
    obtain ⟨s, hs, he⟩ := HL0.out j hj
    have hC := HO.out.w W' fw
    obtain ⟨ad, A1, c1, e, g1, g2, g3, g4⟩ := at_T105 hC (j : Int) (by omega) (by rw [HL1.out]; omega)
    have hr : rd_T105 o.w (j : Int) = s := by
      unfold rd_T105
      rw [Int.toNat_natCast, List.getD_eq_getElem?_getD, hs]
      rfl
    rw [hr, Int.toNat_natCast] at g2
    rw [hr] at g3 g4
    rw [he]
    exact ⟨ad, A1, c1, e, g2, g3, g4⟩⟩
  have HLS : Aside0 (∀ j, j < l1 → (L0 j).length ≤ 140737488351232) := ⟨fun j hj => by
    obtain ⟨s, hs, he⟩ := HL0.out j hj
    rw [he]
    exact HO.out.siz.2.2.2 s (List.mem_of_getElem? hs)⟩
  have H7 : Aside0 (Fr (fun k => M ≤ k ∧ k < N) w4 w4 ∧ ∃ L, WR w4 M N A2 l1 V L f ∧ (∀ q, q < l1 → (L q).length = (L0 q).length) ∧ ∀ q, 0 ≤ q → q < l1 → L q = L0 q) := ⟨Fr.refl _ _, L0, HW4.out, fun q _ => rfl, fun q _ _ => rfl⟩
  have h32' := HCW.out.2
  clear hL0 HL0' HW4
  go_loopg [7, 8] l1 (fun kq v7 v8 W' => ∃ (j : Nat), v7 = .int .i64 (j : Int) ∧ Aside0 (j + kq = l1) ∧ Aside0 (Fr (fun k => M ≤ k ∧ k < N) w4 W' ∧ ∃ L, WR W' M N A2 l1 V L f ∧ (∀ q, q < l1 → (L q).length = (L0 q).length) ∧ ∀ q, j ≤ q → q < l1 → L q = L0 q))
  case atStart => exact ⟨0, rfl, ⟨by omega⟩, H7⟩
  case round =>
    clear H7
    obtain ⟨j, rfl, HJJ, HI⟩ := hrel
    have hj0 : (0 : Int) ≤ (j : Int) := by omega
    cases gk with
    | zero =>
      have hj : j = l1 := by have := HJJ.out; omega
      subst hj
      have HE : Aside0 (ActEnd lo x i D W (.returned (.bool true)) wr) := ⟨rfl, ⟨D3, some dn3, (HP.out wr HI.out.1).1.mono (by omega), HQN.out⟩, (HP.out wr HI.out.1).2.1⟩
      go_wp2_with fail
      go_ret
      exact HE.out
    | succ j1 =>
      have hj1 : (j : Int) < (l1 : Int) := by have := HJJ.out; omega
      have hj2 : j < l1 := by omega
      have HJ3 : Aside0 (j + 1 + j1 = l1) := ⟨by have := HJJ.out; omega⟩
      obtain ⟨m, hm⟩ : ∃ m, (L0 j).length = m := ⟨_, rfl⟩
      have HMM := Aside0.mk hm
      have hm32 : m ≤ 140737488351232 := by rw [← hm]; exact HLS.out j hj2
      have H8 : Aside0 (Fr (fun k => M ≤ k ∧ k < N) w4 wr ∧ ∃ L, WR wr M N A2 l1 V L f ∧ (∀ q, q < l1 → (L q).length = (L0 q).length) ∧ (∀ q, j < q → q < l1 → L q = L0 q) ∧ ∀ p, 0 ≤ p → (L j).getD p 0 = (L0 j).getD p 0) := ⟨by
        obtain ⟨h1, L, h2, h3, h4⟩ := HI.out
        exact ⟨h1, L, h2, h3, fun q h q2 => h4 q (by omega) q2, fun p _ => by rw [h4 j (Nat.le_refl j) hj2]⟩⟩
      clear HI hm
      go_wp2_with fail
      go_loopg [8] m (fun kq v8 W' => ∃ (k : Nat), v8 = .int .i64 (k : Int) ∧ Aside0 (k + kq = m) ∧ Aside0 (Fr (fun k => M ≤ k ∧ k < N) w4 W' ∧ ∃ L, WR W' M N A2 l1 V L f ∧ (∀ q, q < l1 → (L q).length = (L0 q).length) ∧ (∀ q, j < q → q < l1 → L q = L0 q) ∧ ∀ p, k ≤ p → (L j).getD p 0 = (L0 j).getD p 0))
      case atStart => exact ⟨0, rfl, ⟨by omega⟩, H8⟩
      case round =>
        clear H8
        obtain ⟨k, rfl, HKK, HI⟩ := hrel
        have hk0 : (0 : Int) ≤ (k : Int) := by omega
        obtain ⟨hf, L, hwr, hlen, hrest, hnow⟩ := HI.out
        obtain ⟨⟨gv, rfl, hcv, hv1, hv2, hv3⟩, hRj⟩ := hwr j hj2
        obtain ⟨Aj, cj, hVj, hcj, _⟩ := Kd.R_reads hRj
        rw [hlen j hj2, HMM.out] at hVj hcj
        rw [hVj] at hcv
        cases gk with
        | zero =>
          have hk : k = m := by have := HKK.out; omega
          subst hk
          have HI2 : Aside0 (Fr (fun k => M ≤ k ∧ k < N) w4 wr ∧ ∃ L, WR wr M N (some ⟨gv, 0, none⟩) l1 V L f ∧ (∀ q, q < l1 → (L q).length = (L0 q).length) ∧ ∀ q, j + 1 ≤ q → q < l1 → L q = L0 q) := ⟨hf, L, hwr, hlen, fun q h => hrest q (by omega)⟩
          clear HI hf hwr hlen hrest hnow hv1 hv2 hv3 hRj hVj
          go_wp2_with fail
          go_roundg j1
          case measure => omega
          case rel => exact ⟨j + 1, by go_num, HJ3, HI2⟩
        | succ k1 =>
          have hk1 : (k : Int) < (m : Int) := by have := HKK.out; omega
          have hk2 : k < m := by omega
          have HK3 : Aside0 (k + 1 + k1 = m) := ⟨by have := HKK.out; omega⟩
          obtain ⟨g, cap, hVj2, hcap, hgM, hgN, hgs, hcell, hfz, hput⟩ := hwr.elem hj2 (k := k) (by rw [hlen j hj2, HMM.out]; exact hk2)
          rw [hVj] at hVj2
          injection hVj2 with hA _ hc9
          subst hA hc9
          rw [hnow k (Nat.le_refl k)] at hcell
          have hfw := (HP.out wr hf).2.1
          have hb1 := (box_cells (HP.out wr hf).2.2).2.1
          obtain ⟨ad, A1, c1, rfl, g1, g2, g3⟩ := AT.out wr j hfw hj2
          rw [HMM.out] at g1 g2 g3
          obtain ⟨ad1, rfl, g4⟩ := Kd.at_int g3 (k : Int) hk0 hk1
          have hrd : rd (L0 j) (k : Int) = (L0 j).getD k 0 := by unfold rd; rw [Int.toNat_natCast]
          rw [hrd, Int.toNat_natCast] at g4
          obtain ⟨b, hb⟩ : ∃ b, (L0 j).getD k 0 = b := ⟨_, rfl⟩
          rw [hb] at g4 hcell
          have HI2 : Aside0 (∀ v, Fr (fun k => M ≤ k ∧ k < N) w4 (wr.setCell ⟨g, k, none⟩ (.int .u8 v)) ∧ ∃ L, WR (wr.setCell ⟨g, k, none⟩ (.int .u8 v)) M N (some ⟨gv, 0, none⟩) l1 V L f ∧ (∀ q, q < l1 → (L q).length = (L0 q).length) ∧ (∀ q, j < q → q < l1 → L q = L0 q) ∧ ∀ p, k + 1 ≤ p → (L j).getD p 0 = (L0 j).getD p 0) := ⟨fun v => ⟨hf.setCell (p := ⟨g, k, none⟩) (.inl ⟨hgM, hgN⟩) _, _, hput v, fun q hq => by
            by_cases e : q = j
            · subst e; rw [if_pos rfl, List.length_set]; exact hlen q hq
            · rw [if_neg e]; exact hlen q hq, fun q h hq => by rw [if_neg (by omega)]; exact hrest q h hq, fun p hp => by
            rw [if_pos rfl, List.getD_eq_getElem?_getD, List.getElem?_set_ne (by omega), ← List.getD_eq_getElem?_getD]
            exact hnow p (by omega)⟩⟩
          have HI3 : Aside0 (∀ v nq, Fr (fun k => M ≤ k ∧ k < N) w4 ((wr.drewN nq).setCell ⟨g, k, none⟩ (.int .u8 v)) ∧ ∃ L, WR ((wr.drewN nq).setCell ⟨g, k, none⟩ (.int .u8 v)) M N (some ⟨gv, 0, none⟩) l1 V L f ∧ (∀ q, q < l1 → (L q).length = (L0 q).length) ∧ (∀ q, j < q → q < l1 → L q = L0 q) ∧ ∀ p, k + 1 ≤ p → (L j).getD p 0 = (L0 j).getD p 0) := ⟨fun v nq => ⟨(HI2.out v).1.drewN nq, (HI2.out v).2.elim fun L h => ⟨L, h.1.keep (W' := (wr.setCell ⟨g, k, none⟩ (.int .u8 v)).drewN nq) ((Fr.refl (fun _ => False) _).drewN nq) (fun _ h => h.elim) (fun _ h => h.elim), h.2⟩⟩⟩
          clear HI HI2 hf hwr hlen hrest hnow hv1 hv2 hv3 hRj hVj hput hgM hgN hgs hfw hb hrd g3 HP HQN HQJ HQB HLS AT
          go_wp2_with fail
          go_quiet (fail)
          go_wp2_with fail
          go_roundg k1
          case measure => omega
          case rel => exact ⟨k + 1, by go_num, HK3, ⟨HI3.out _ _⟩⟩
end Go.Proofs.Ytppgbfkhiofjiaa.X
