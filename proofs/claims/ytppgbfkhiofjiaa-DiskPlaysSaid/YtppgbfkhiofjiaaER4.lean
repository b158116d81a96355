/-
  The contract of the reference's Write.
-/
import Derived.Test.YtppgbfkhiofjiaaER3
namespace Go.Proofs.Ytppgbfkhiofjiaa.X
open Go.RowKit Go.Proofs.YtppgbfkhiofjiaaW.PrintWords Go.Proofs.YtppgbfkhiofjiaaW.PrintLast Go.Proofs.YtppgbfkhiofjiaaW.PrintMore
set_option linter.unusedVariables false
set_option linter.unusedSimpArgs false

theorem info100 : (Try.prog.info? 100).map (fun i => (i.zero, i.size, i.bytes)) = some (some (.agg #[.int .i64 0, .slice none 0 0]), 2, 32) := by kernel_rfl
theorem rwrite_end {W2 w3 w5 : World} {R : Nat → Prop} {r n0 g1 cap1 g2 cap2 : Nat} {D2 : DS} {lv pv : Value} {qs : List (Int × Value)} {b : List Int} {k : Int} (h : RefAt W2 R r D2 lv pv qs n0) (f3 : Fr (fun _ => False) W2 w3)
    (ho1 : w3.ownsRow 0 5 1 (.slice (some ⟨g1, 0, none⟩) 64 cap1) 64 (nums .u8 b)) (hg1 : W2.heap.size ≤ g1) (hk : 0 ≤ k ∧ k < D2.n) (hb : b.length = 64)
    (ho2 : w5.ownsRow 0 100 2 (.slice (some ⟨g2, 0, none⟩) (D2.c.length + 1) cap2) (D2.c.length + 1) (encW qs ++ [.int .i64 k, .slice (some ⟨g1, 0, none⟩) 64 cap1])) (f5 : Fr (fun b => pv.ownBlock = some b) w3 w5) (hg2 : pv.ownBlock = some g2 ∨ w3.heap.size ≤ g2) :
    IsRef (w5.setCell ⟨r, 1, none⟩ (.slice (some ⟨g2, 0, none⟩) (D2.c.length + 1) cap2)) (fun k => R k ∨ (W2.heap.size ≤ k ∧ k < w5.heap.size)) r { D2 with c := D2.c ++ [(k, b)] } ∧
      Fr R W2 (w5.setCell ⟨r, 1, none⟩ (.slice (some ⟨g2, 0, none⟩) (D2.c.length + 1) cap2)) := by
  have hlt := h.is.lt
  have h3 := h.fr f3 (fun _ _ h => h)
  obtain ⟨lb, h1, h2, a3, a4, a5, a6, a7, a8, a9, a10, a11, a12, a13⟩ := h3
  have s23 : W2.heap.size ≤ w3.heap.size := f3.size
  have s35 : w3.heap.size ≤ w5.heap.size := f5.size
  have g1lt : g1 < w3.heap.size := q_lt (q_of_own ho1) g1 rfl
  have g2lt : g2 < w5.heap.size := q_lt (q_of_own ho2) g2 rfl
  have pvne : ∀ {e sz m : Nat} {v : Value} {xs : List Value}, w3.ownsRow 0 e sz v m xs → e ≠ 100 → ∀ j, v.ownBlock = some j → pv.ownBlock ≠ some j := fun {e sz m v xs} ho hne j hj e' => by
    obtain ⟨cs, hc⟩ := own_block_typed ho hj
    exact own_ne a10 hc (fun x => hne x.symm) e'
  have h15 : w5.heap[r]? = some (.cells #[lv, pv, .int .i64 D2.left, .bool D2.down, .int .i64 D2.steps] 81 (0, 0)) := (f5.keep r (by have := hlt r h2; omega) (own_ne a10 h1 (by decide))).trans h1
  have hg := heap_setCell_same w5 r 1 _ 81 (.slice (some ⟨g2, 0, none⟩) (D2.c.length + 1) cap2) h15
  have far : ∀ j, j ≠ r → (w5.setCell ⟨r, 1, none⟩ (.slice (some ⟨g2, 0, none⟩) (D2.c.length + 1) cap2)).heap[j]? = w5.heap[j]? := fun j hj => heap_setCell_other w5 _ j _ hj
  have keep : ∀ {e sz m : Nat} {v : Value} {xs : List Value}, w3.ownsRow 0 e sz v m xs → e ≠ 100 → e ≠ 81 → (w5.setCell ⟨r, 1, none⟩ (.slice (some ⟨g2, 0, none⟩) (D2.c.length + 1) cap2)).ownsRow 0 e sz v m xs := fun {e sz m v xs} ho hne1 hne2 => ownsRow_kept ho (fun j hj => by
    rw [far j (fun e' => own_ne ho h1 hne2 (e' ▸ hj))]
    exact f5.keep j (q_lt (q_of_own ho) j hj) (pvne ho hne1 j hj))
  have hsz : (w5.setCell ⟨r, 1, none⟩ (.slice (some ⟨g2, 0, none⟩) (D2.c.length + 1) cap2)).heap.size = w5.heap.size := by simp [World.setCell]
  have hf : Fr R W2 (w5.setCell ⟨r, 1, none⟩ (.slice (some ⟨g2, 0, none⟩) (D2.c.length + 1) cap2)) := ((f3.mono (fun k hk => hk.elim)).trans f5 (fun j hj => .inl (a4 j hj))).setCell (.inl h2) _
  refine ⟨⟨lv, .slice (some ⟨g2, 0, none⟩) (D2.c.length + 1) cap2, lb, qs ++ [(k, .slice (some ⟨g1, 0, none⟩) 64 cap1)], n0, by rw [hg]; rfl, .inl h2, fun j hj => .inl (a3 j hj), fun j hj => ?_, a5, a6, a7, keep a8 (by decide) (by decide), a9, ?_, ⟨?_, fun i p q hp hq => ?_⟩, ?_, fun j hj => ?_⟩, hf⟩
  · have e : g2 = j := by simpa [Value.ownBlock] using hj
    subst e
    rcases hg2 with e | e
    · exact .inl (a4 g2 e)
    · exact .inr ⟨by omega, g2lt⟩
  · show World.ownsRow _ 0 100 2 _ (D2.c ++ [(k, b)]).length _
    rw [encW_append, List.length_append, List.length_singleton]
    exact ownsRow_kept ho2 (fun j hj => far j (fun e' => own_ne ho2 h15 (by decide) (e' ▸ hj)))
  · simp [a11.1]
  · have hp : (D2.c ++ [(k, b)])[i]? = some p := hp
    by_cases hi : i < D2.c.length
    · rw [List.getElem?_append_left hi] at hp
      rw [List.getElem?_append_left (by rw [a11.1]; exact hi)] at hq
      obtain ⟨b1, b2, b3⟩ := a11.2 i p q hp hq
      exact ⟨b1, keep b2 (by decide) (by decide), fun j hj => ⟨.inl (b3 j hj).1, (b3 j hj).2⟩⟩
    · have hil := (List.getElem?_eq_some_iff.1 hp).1
      rw [List.length_append, List.length_singleton] at hil
      have hie : i = D2.c.length := by omega
      subst hie
      rw [List.getElem?_concat_length] at hp
      rw [← a11.1, List.getElem?_concat_length] at hq
      injection hp with hp
      injection hq with hq
      subst hp
      subst hq
      refine ⟨rfl, keep ho1 (by decide) (by decide), fun j hj => ?_⟩
      have e : g1 = j := by simpa [Value.ownBlock] using hj
      subst e
      refine ⟨.inr ⟨hg1, by omega⟩, fun e => ?_⟩
      have := hlt g1 (a3 g1 e)
      omega
  · intro p hp
    have hp : p ∈ D2.c ++ [(k, b)] := hp
    rcases List.mem_append.1 hp with hp | hp
    · exact a12 p hp
    · have : p = (k, b) := by simpa using hp
      subst this
      exact ⟨hk.1, hk.2, hb⟩
  · rw [hsz]
    rcases hj with hj | hj
    · have := hlt j hj
      omega
    · exact hj.2

theorem RefAt.pown {w : World} {R : Nat → Prop} {r : Nat} {D : DS} {lv pv : Value} {qs : List (Int × Value)} {n : Nat} (h : RefAt w R r D lv pv qs n) : w.ownsRow 0 100 2 pv D.c.length (encW qs) ∧ pv.ownBlock ≠ some r := by
  obtain ⟨lb, h1, h2, h3, h4, h5, h6, h7, h8, h9, h10, h11, h12, h13⟩ := h
  exact ⟨h10, own_ne h10 h1 (by decide)⟩
theorem look_neg {D : DS} {n : Int} (hd : D.down = false) (h : n < 0) : lookD D n = 2 := by
  unfold lookD
  rw [hd, if_neg (by decide), if_pos h]
theorem look_over {D : DS} {n : Int} (hd : D.down = false) (h1 : ¬ n < 0) (h : D.n ≤ n) : lookD D n = 2 := by
  unfold lookD
  rw [hd, if_neg (by decide), if_neg h1, if_pos h]
theorem write_out {D : DS} {n : Int} {b : List Int} (h : lookD D n = 2) : writeD D n b = (2, D) := by
  unfold writeD
  rw [h, if_neg (by decide)]
set_option maxHeartbeats 8000000 in
set_option maxRecDepth 100000 in
theorem rwrite_calls (r : Nat) (R : Nat → Prop) (D : DS) (n : Int) (A : Option Addr) (cp : Nat) (b : List Int) (w : World) (h : IsRef w R r D) (hs : -1 ≤ D.steps ∧ D.steps < 9223372036854775807) (hl : D.left ≤ 9223372036854775807)
    (hc : D.c.length ≤ 1000000) (hb : Kd.C (Kd.int .u8) w A b.length b) (hcap : b.length ≤ cp) (hdis : ∀ ad, A = some ad → 0 < b.length → ¬ R ad.block) :
    Calls Try.prog 50 #[.pointer (some ⟨r, 0, none⟩), .int .i64 n, .slice A b.length cp] w fun e w' => e = .returned (.int .i64 (writeD D n b).1) ∧ (∃ R', IsRef w' R' r (writeD D n b).2 ∧ ∀ k, R' k → R k ∨ w.heap.size ≤ k) ∧ Fr R w w' := by
  have H := Aside0.mk h
  have HB := Aside0.mk hb
  have HDI := Aside0.mk hdis
  have SEC := Aside0.mk (rsectors_calls r R D w h)
  obtain ⟨lv, pv, c0, c1, c2, c3, c4, cf, hlt⟩ := h.cells
  obtain ⟨dd, hdd⟩ : ∃ dd, D.down = dd := ⟨_, rfl⟩
  have HDD := Aside0.mk hdd
  rw [hdd] at c3
  clear c0 c1 c2 c4 cf h hb hdis hdd
  cases dd with
  | true =>
    have RR : Aside0 (writeD D n b = (230, D)) := ⟨by unfold writeD lookD; rw [HDD.out, if_pos rfl, if_neg (by decide)]⟩
    clear hs hl hc hcap
    go_enter Try.func50, Try.ntmps50
    go_wp2
    go_ret
    rw [RR.out]
    exact ⟨rfl, ⟨R, H.out, fun k hk => .inl hk⟩, Fr.refl _ _⟩
  | false =>
    by_cases h1 : n < 0
    · have RR : Aside0 (writeD D n b = (2, D)) := ⟨write_out (look_neg HDD.out h1)⟩
      clear hs hl hc hcap
      go_enter Try.func50, Try.ntmps50
      go_wp2
      go_ret
      rw [RR.out]
      exact ⟨rfl, ⟨R, H.out, fun k hk => .inl hk⟩, Fr.refl _ _⟩
    · by_cases h2 : D.n ≤ n
      · have RR : Aside0 (writeD D n b = (2, D)) := ⟨write_out (look_over HDD.out h1 h2)⟩
        clear hs hl hc hcap
        go_enter Try.func50, Try.ntmps50
        go_wp2_with fail
        refine SEC.out.mono ?_
        rintro e w' ⟨rfl, ⟨nq, rfl⟩⟩
        go_wp2
        go_ret
        rw [RR.out]
        exact ⟨rfl, ⟨R, H.out, fun k hk => .inl hk⟩, (Fr.refl _ _).drewN _⟩
      · have hlook : Aside0 (lookD D n = 0) := ⟨by unfold lookD; rw [HDD.out, if_neg (by decide), if_neg h1, if_neg h2]⟩
        by_cases h3 : b.length = 64
        rotate_left
        · have RR : Aside0 (writeD D n b = (6, D)) := ⟨by unfold writeD; rw [if_pos hlook.out, if_neg h3]⟩
          have h3b : ((b.length : Int) != 64) = true := by simp; omega
          clear hs hl hc hcap
          go_enter Try.func50, Try.ntmps50
          go_wp2_with fail
          refine SEC.out.mono ?_
          rintro e w' ⟨rfl, ⟨nq, rfl⟩⟩
          go_wp2
          go_ret
          rw [RR.out]
          exact ⟨rfl, ⟨R, H.out, fun k hk => .inl hk⟩, (Fr.refl _ _).drewN _⟩
        · have ST := fun (nq : Nat) => fails_calls r R D (w.drewN nq) (H.out.move (Nat.le_refl _) (fun _ _ => rfl)) hs hl
          have ST := Aside0.mk ST
          obtain ⟨ok, hok⟩ : ∃ ok, (stepD D).1 = ok := ⟨_, rfl⟩
          have RR : Aside0 (writeD D n b = if ok = true then (0, { (stepD D).2 with c := (stepD D).2.c ++ [(n, b)] }) else (230, (stepD D).2)) := ⟨by unfold writeD; rw [if_pos hlook.out, if_pos h3, hok]⟩
          have hDc : Aside0 ((stepD D).2.c = D.c ∧ (stepD D).2.n = D.n) := ⟨⟨(stepD_c D).1, (stepD_c D).2.2.2⟩⟩
          rw [hok] at ST
          rw [h3] at HB ⊢
          have h64 := Aside0.mk h3
          generalize (stepD D).2 = D2 at *
          clear hok hs hl h3
          cases ok with
          | false =>
            clear hc hcap
            go_enter Try.func50, Try.ntmps50
            go_wp2_with fail
            refine SEC.out.mono ?_
            rintro e w' ⟨rfl, ⟨nq, rfl⟩⟩
            go_wp2_with fail
            refine (ST.out nq).mono ?_
            rintro e w2 ⟨rfl, hd2, hf2⟩
            have HD2 := Aside0.mk hd2
            have HF2 := Aside0.mk hf2
            clear hd2 hf2
            go_wp2
            go_ret
            rw [RR.out]
            exact ⟨rfl, ⟨R, HD2.out, fun k hk => .inl hk⟩, HF2.out.drewN'⟩
          | true =>
            clear hcap
            go_enter Try.func50, Try.ntmps50
            go_wp2_with fail
            refine SEC.out.mono ?_
            rintro e w' ⟨rfl, ⟨nq, rfl⟩⟩
            go_wp2_with fail
            refine (ST.out nq).mono ?_
            rintro e w2 ⟨rfl, hd2, hf2⟩
            obtain ⟨lv2, pv2, qs, n0, hat⟩ := hd2.at
            obtain ⟨⟨Ap, cap, hpv⟩, c1, f1, hlt2⟩ := hat.pv
            obtain ⟨N, hN⟩ : ∃ N, D2.c.length = N := ⟨_, rfl⟩
            have HN := Aside0.mk hN
            rw [hN] at hpv
            subst hpv
            have HAT := Aside0.mk hat
            have HF2 := Aside0.mk hf2
            obtain ⟨bk, o, rfl, hr⟩ := bytes_range (h64.out.symm ▸ HB.out) (by rw [h64.out]; omega)
            have HR2 : Aside0 (w2.rangeAt bk o (nums .u8 b)) := ⟨fun j v hj => by
              have q := hr j v hj
              exact (World.cell?_of_block (w := w) (hf2.keep bk (World.block_lt_of_cell? w _ q) (HDI.out _ rfl (by rw [h64.out]; omega)))).trans q⟩
            have hNN : N ≤ 1000000 := by rw [← hN, hDc.out.1]; exact hc
            clear hd2 hf2 hat hN hr hc
            have HC1 := Aside0.mk c1
            have HF1 := Aside0.mk f1
            have HLT2 := Aside0.mk hlt2
            have HIN : Aside0 (0 ≤ n ∧ n < D2.n) := ⟨by rw [hDc.out.2]; exact ⟨by omega, by omega⟩⟩
            have HBK : Aside0 (bk < w2.heap.size) := ⟨World.block_lt_of_cell? w2 _ (HR2.out 0 (.int .u8 (rd b 0)) (by simp [nums, rd, List.getD_eq_getElem?_getD, h64.out]))⟩
            obtain ⟨i5, hi5, hz5a, hz5b, hz5c⟩ := info_parts info5
            obtain ⟨i100, hi100, hz100a, hz100b, hz100c⟩ := info_parts info100
            have HK : Aside0 (∀ W : World, W.heap = (w2.alloc (.cells #[] 5)).heap → W.ownsRow 0 5 1 (.slice (some ⟨w2.heap.size, 0, none⟩) 0 0) 0 []) := ⟨fun W hW => ⟨rfl, .inr ⟨w2.heap.size, 0, #[], rfl, Nat.zero_le _, by rw [hW]; exact heap_alloc_new _ _, Nat.le_refl _, by decide, rfl, rfl⟩⟩⟩
            have HSRC : Aside0 (∀ W : World, W.heap = (w2.alloc (.cells #[] 5)).heap → ∀ j u, (nums .u8 b)[j]? = some u → W.cell? ((⟨bk, o, none⟩ : Addr).add j) = some u) := ⟨fun W hW j u hu => by
              have := HR2.out j u hu
              rw [Addr.add_mid, ← this]
              exact World.cell?_of_block (by rw [hW]; exact Below.heap_alloc _ _ _ HBK.out)⟩
            have hone1 : ∀ u ∈ nums .u8 b, u.oneCell' = true := fun u hu => by
              obtain ⟨x, _, rfl⟩ := List.mem_map.1 hu
              rfl
            have hnl : Aside0 ((nums .u8 b).length = 64 * 1) := ⟨by rw [nums_length, h64.out]⟩
            have hone2 : ∀ (g c : Nat), ∀ u ∈ [Value.int .i64 n, .slice (some ⟨g, 0, none⟩) 64 c], u.oneCell' = true := fun g c u hu => by
              rcases List.mem_cons.1 hu with rfl | hu
              · rfl
              · rw [List.mem_singleton.1 hu]; rfl
            have HNE : Aside0 (some r ≠ (Value.slice Ap N cap).ownBlock) := ⟨fun e => HAT.out.pown.2 e.symm⟩
            have HX1 : Aside0 (∀ (W w3 : World) (g1 cap1 : Nat), W.heap = (w2.alloc (.cells #[] 5)).heap → W.os = w2.os → W.tape = w2.tape → W.output = w2.output → w3.ownsRow 0 5 1 (.slice (some ⟨g1, 0, none⟩) (0 + 64) cap1) (0 + 64) ([] ++ nums .u8 b) → W.grownBy w3 (Value.slice (some ⟨w2.heap.size, 0, none⟩) 0 0).ownBlock → ((Value.slice (some ⟨w2.heap.size, 0, none⟩) 0 0).ownBlock = some g1 ∨ g1 = W.heap.size) →
                Aside0 (Fr (fun _ => False) w2 w3) ∧ Aside0 (w3.ownsRow 0 5 1 (.slice (some ⟨g1, 0, none⟩) 64 cap1) 64 (nums .u8 b)) ∧ Aside0 (w2.heap.size ≤ g1) ∧ w3.cell? ⟨r, 1, none⟩ = some (.slice Ap N cap) ∧ r < w3.heap.size ∧
                Aside0 (∀ W4 : World, W4.heap = (w3.alloc (.cells #[.int .i64 n, .slice (some ⟨g1, 0, none⟩) 64 cap1] 100)).heap → W4.ownsRow 0 100 2 (.slice Ap N cap) N (encW qs))) := ⟨fun W w3 g1 cap1 e1 e2 e3 e4 ho hg hat => by
              have f0 : Fr (fun _ => False) w2 W := ⟨e2, e3, e4, by rw [e1]; simp, fun k hk _ => by rw [e1]; exact Below.heap_alloc _ _ _ hk⟩
              have f3 : Fr (fun _ => False) w2 w3 := f0.trans (Fr.of_grownBy hg) (fun k hk => .inr (by
                have e : w2.heap.size = k := by simpa [Value.ownBlock] using hk
                omega))
              have a3 := HAT.out.fr f3 (fun _ _ h => h)
              rw [Nat.zero_add, List.nil_append] at ho
              refine ⟨⟨f3⟩, ⟨ho⟩, ⟨?_⟩, a3.pv.2.1, a3.pv.2.2.2, ⟨fun W4 hW => ?_⟩⟩
              · rcases hat with e | e
                · have e : w2.heap.size = g1 := by simpa [Value.ownBlock] using e
                  omega
                · rw [e, e1]; simp
              · have h := a3.pown.1
                rw [HN.out] at h
                exact ownsRow_kept h (fun k e => by
                  rw [hW]
                  exact Below.heap_alloc _ _ _ (q_lt (q_of_own h) k e))⟩
            have HX2 : Aside0 (∀ (w3 W4 w5 : World) (g1 cap1 : Nat), r < w3.heap.size → w3.cell? ⟨r, 1, none⟩ = some (.slice Ap N cap) → W4.heap = (w3.alloc (.cells #[.int .i64 n, .slice (some ⟨g1, 0, none⟩) 64 cap1] 100)).heap → W4.grownBy w5 (Value.slice Ap N cap).ownBlock → w3.frozen? ⟨r, 1, none⟩ = false →
                w5.cell? ⟨r, 1, none⟩ = some (.slice Ap N cap) ∧ w5.frozen? ⟨r, 1, none⟩ = false) := ⟨fun w3 W4 w5 g1 cap1 hr hc hW hg hf => by
              have hb : w5.heap[r]? = w3.heap[r]? := (hg.block r (by rw [hW]; simp; omega) HNE.out).trans (by rw [hW]; exact Below.heap_alloc _ _ _ hr)
              exact ⟨(World.cell?_of_block hb).trans hc, (World.frozen?_of_block hb).trans hf⟩⟩
            have HX3 : Aside0 (∀ (w3 : World), Fr (fun _ => False) w2 w3 → w3.frozen? ⟨r, 1, none⟩ = false) := ⟨fun w3 f3 => (HAT.out.fr f3 (fun _ _ h => h)).pv.2.2.1⟩
            go_wp2_with fail
            go_region_law (first
              | (refine step_append_lies _ rfl (.tmp 30) (.tmp 31) 22 rfl 0 5 i5 _ 1 1 Try.underlying22 hi5 hz5a hz5b hz5c rfl (by omega) (.slice (some ⟨w2.heap.size, 0, none⟩) 0 0) 0 [] (by rfl) (HK.out _ (by rfl)) ⟨bk, o, none⟩ 64 cp (nums .u8 b) (by rfl) hnl.out (HSRC.out _ (by rfl)) hone1 (by omega) (by unfold maxLen; omega) (by omega) (Nat.zero_le _) _ rfl ?_; intro g1 cap1 w3 ho1 hg1 hat1 hlt1; obtain ⟨F3, HO1, HG1, c13, hl3, HO3⟩ := HX1.out _ w3 g1 cap1 (by rfl) (by rfl) (by rfl) (by rfl) ho1 hg1 hat1; clear ho1 hg1 hat1 hlt1; rw [Nat.zero_add])
              | (refine step_append_lies _ rfl (.tmp 28) (.tmp 34) 79 rfl 0 100 i100 _ 2 32 Try.underlying79 hi100 hz100a hz100b hz100c rfl (by omega) (.slice Ap N cap) N (encW qs) (by rfl) (HO3.out _ (by rfl)) ⟨w3.heap.size, 0, none⟩ 1 1 [.int .i64 n, .slice (some ⟨g1, 0, none⟩) 64 cap1] (by rfl) rfl (World.news_of_block (cs := #[.int .i64 n, .slice (some ⟨g1, 0, none⟩) 64 cap1]) (t := 100) (fr := (0, 0)) (heap_alloc_new _ _)) (hone2 g1 cap1) (by omega) (by unfold maxLen; omega) (by omega) (Nat.zero_le _) _ rfl ?_; intro g2 cap2 w5 ho2 hg2 hat2 hlt5; obtain ⟨c15, f15⟩ := HX2.out w3 _ w5 g1 cap1 hl3 c13 (by rfl) hg2 (HX3.out _ F3.out); have HO2 := Aside0.mk ho2; have HG2 := Aside0.mk hg2; have HA2 := Aside0.mk hat2; clear ho2 hg2 hat2 hlt5))
            all_goals (
              have hN := HN.out
              subst hN
              have E := rwrite_end HAT.out F3.out HO1.out HG1.out HIN.out h64.out HO2.out (((Fr.refl _ w3).alloc _).trans (Fr.of_grownBy HG2.out) (fun b h => .inl h)) (HA2.out.imp id (fun e => by rw [e]; simp))
              have EE := Aside0.mk E
              clear E c15 f15
              go_wp2_with fail
              go_ret
              rw [RR.out, if_pos trivial]
              exact ⟨rfl, ⟨_, EE.out.1, fun k hk => hk.elim .inl (fun h => .inr (Nat.le_trans HF2.out.size h.1))⟩, (HF2.out.drewN').trans EE.out.2 (fun k h => .inl h)⟩)
end Go.Proofs.Ytppgbfkhiofjiaa.X
