/-
  DiskPlays: the walk.
-/
import Derived.Test.YtppgbfkhiofjiaaPurePlays
namespace Go.Proofs.Ytppgbfkhiofjiaa.X
open Go.RowKit Go.Proofs.YtppgbfkhiofjiaaW.PrintWords Go.Proofs.YtppgbfkhiofjiaaW.PrintLast Go.Proofs.YtppgbfkhiofjiaaW.PrintMore
set_option linter.unusedVariables false
set_option linter.unusedSimpArgs false

/-- What holds in each round. -/
def SP (w w' : World) (g r i : Nat) : Prop := ∃ D : DS, Pair w' w.heap.size g r D ∧ PInv i D ∧ 0 ≤ D.n ∧ D.n ≤ 4096 ∧ Fr (fun _ => False) w w'
theorem Pair.big {w w' : World} {lo : Nat} (hf : Fr (fun k => lo ≤ k) w w') {w0 : World} (h0 : Fr (fun _ => False) w0 w) (hl : w0.heap.size ≤ lo) : Fr (fun _ => False) w0 w' :=
  h0.trans hf (fun k hk => .inr (Nat.le_trans hl hk))

set_option maxHeartbeats 8000000 in
set_option maxRecDepth 100000 in
theorem plays_bad (n : Int) (A0 : Option Addr) (cap0 : Nat) (l : List OpV) (w : World) (h1 : ¬ (1 ≤ n ∧ n ≤ 4096)) :
    Calls Try.prog 6 #[.int .i64 n, .slice A0 l.length cap0] w fun e w' => e = .returned (.bool true) ∧ Fr (fun _ => False) w w' := by
  go_enter Try.func6, Try.ntmps6
  go_wp2_with fail
  refine (new_bad n w h1).mono ?_
  rintro e w1 ⟨rfl, hb⟩
  have HF1 := Aside0.mk (Fr.of_below hb (fun _ => False))
  clear hb
  go_wp2_with fail
  refine (rnew_bad n w1 h1).mono ?_
  rintro e w2 ⟨rfl, hb⟩
  have HF2 : Aside0 (Fr (fun _ => False) w w2) := ⟨HF1.out.trans (Fr.of_below hb (fun _ => False)) (fun k h => .inl h)⟩
  clear hb
  go_wp2_with fail
  go_ret
  exact ⟨rfl, HF2.out⟩

theorem C_nil {k : IntKind} (w : World) : Kd.C (Kd.int k) w none 0 [] := Kd.C_of_reads (d := (0 : Int)) (h1 := fun _ => rfl) ⟨rfl, by simp, fun h => absurd h (Nat.lt_irrefl 0)⟩
theorem Cb_nil (w : World) : Kd.C Kd.bool w none 0 [] := Kd.C_of_reads (d := false) (h1 := fun _ => rfl) ⟨rfl, by simp, fun h => absurd h (Nat.lt_irrefl 0)⟩
theorem actD_read (D : DS) (n : Int) : actD D ⟨0, n, [], []⟩ = D := by unfold actD; simp
theorem actD_n (D : DS) (o : OpV) : (actD D o).n = D.n := by
  have hw : ∀ n b, (writeD D n b).2.n = D.n := fun n b => by
    unfold writeD
    split
    · split
      · split
        · exact (stepD_c D).2.2.2
        · exact (stepD_c D).2.2.2
      · rfl
    · rfl
  have hf : (flushD D).2.n = D.n := by
    unfold flushD
    split
    · rfl
    · split
      · exact (stepD_c D).2.2.2
      · exact (stepD_c D).2.2.2
  unfold actD
  split
  · exact hw _ _
  · split
    · exact hf
    · split
      · rfl
      · split <;> rfl
theorem c_far {α : Type} {enc : α → Value} {h1 : ∀ x, (enc x).oneCell' = true} (d : α) {w : World} {A : Option Addr} {n : Nat} {xs : List α} (h : (Kd.scalar enc h1).C w A n xs) : ∀ ad, A = some ad → 0 < n → ad.block < w.heap.size := fun ad e h0 => by
  rcases Nat.lt_or_ge ad.block w.heap.size with h' | h'
  · exact h'
  · exact absurd rfl (Kd.far_C d h h' ad e h0)
set_option maxHeartbeats 8000000 in
set_option maxRecDepth 100000 in
theorem plays_good (n : Nat) (A0 : Option Addr) (cap0 : Nat) (l : List OpV) (w : World) (h1 : 1 ≤ n) (h2 : n ≤ 4096) (hl : Ops w A0 l) (hl63 : l.length ≤ 9223372036854775807) (hsz : ∀ o ∈ l, o.b.length ≤ 140737488351232 ∧ o.keep.length ≤ 140737488351232) :
    Calls Try.prog 6 #[.int .i64 (n : Int), .slice A0 l.length cap0] w fun e w' => e = .returned (.bool true) ∧ Fr (fun _ => False) w w' := by
  have HL := Aside0.mk hl
  have HSZ := Aside0.mk hsz
  have hmk := make64
  clear hl hsz
  go_enter Try.func6, Try.ntmps6
  go_wp2_with fail
  refine (new_calls (n : Int) w (by omega) (by omega)).mono ?_
  rintro e w1 ⟨g, rfl, ⟨B, hd, hB⟩, hb⟩
  have HD := Aside0.mk hd
  have HB := Aside0.mk hB
  have HF1 := Aside0.mk (Fr.of_below hb (fun _ => False))
  clear hb hd hB
  go_wp2_with fail
  refine (rnew_calls n w1 h1 h2).mono ?_
  rintro e w2 ⟨r, rfl, ⟨R, hr, hR⟩, hb⟩
  have f12 := Fr.of_below hb (fun _ => False)
  have HF2 : Aside0 (Fr (fun _ => False) w w2) := ⟨HF1.out.trans f12 (fun k h => .inl h)⟩
  have HS : Aside0 (SP w w2 g r 0) := ⟨newD n, ⟨B, R, HD.out.fr f12 (fun _ _ h => h), hr, fun k h h' => by have := HD.out.lt k h; have := hR k h'; omega, HB.out, fun k h => Nat.le_trans HF1.out.size (hR k h)⟩, pinv_new n, by show (0 : Int) ≤ (n : Int); omega, by show (n : Int) ≤ 4096; omega, HF2.out⟩
  clear hb hr hR f12 HD HB HF1 HF2
  go_wp2_with fail
  obtain ⟨N, hN⟩ : ∃ N, min l.length 200 = N := ⟨_, rfl⟩
  go_loopg [5, 9] N (fun kq v5 v9 w' => ∃ (g i : Nat), v5 = .pointer (some ⟨g, 0, none⟩) ∧ v9 = .int .i64 (i : Int) ∧ Aside0 (i + kq = N) ∧ Aside0 (SP w w' g r i))
  case atStart => exact ⟨g, 0, rfl, rfl, ⟨by omega⟩, HS⟩
  case round =>
    clear HS
    obtain ⟨g, i, rfl, rfl, HI, HS⟩ := hrel
    cases gk with
    | zero =>
      have hi2 : i ≤ 200 := by have := HI.out; omega
      have hor : l.length ≤ i ∨ (i < l.length ∧ i = 200) := by have := HI.out; omega
      obtain ⟨D, ⟨B, R, hD, hR, hBR, hB, hRl⟩, hInv, hn0, hn1, hF⟩ := HS.out
      have MC := Aside0.mk (mend_calls g B D none 0 [] wr hD (by have := hInv.u; omega) (by have := hInv.u; omega) (Cb_nil wr) (fun ad e _ => by cases e))
      have HR := Aside0.mk hR
      have HBR := Aside0.mk hBR
      have HB := Aside0.mk hB
      have HRl := Aside0.mk hRl
      have HInv := Aside0.mk hInv
      have HF := Aside0.mk hF
      have hi0 : (0 : Int) ≤ (i : Int) := by omega
      obtain ⟨m, hm⟩ : ∃ m : Nat, D.n = m := Int.eq_ofNat_of_zero_le hn0
      have HM := Aside0.mk hm
      have hm1 : m ≤ 4096 := by omega
      clear hD hR hBR hB hRl hInv hF HS HI hN hmk hm hn0 hn1 HL HSZ
      rcases hor with hor | ⟨hor, hi6⟩
      rotate_left
      subst hi6
      all_goals (
        go_wp2_with fail
        refine MC.out.mono ?_
        rintro e W1 ⟨rfl, hd1, hf1⟩
        have MR := Aside0.mk (rmend_calls r R D none 0 [] W1 (HR.out.fr hf1 (fun k h h2 => HBR.out k h2 h)) (by have := HInv.out.u; omega) (Cb_nil W1) (fun ad e _ => by cases e))
        have HD1 := Aside0.mk hd1
        have HF1 : Aside0 (Fr (fun k => w.heap.size ≤ k) w W1) := ⟨(HF.out.mono (fun k h => h.elim)).trans hf1 (fun k h => .inl (HB.out k h))⟩
        clear hd1 hf1 MC
        go_wp2_with fail
        refine MR.out.mono ?_
        rintro e W2 ⟨rfl, hr2, hf2⟩
        have HP2 : Aside0 (Pair W2 w.heap.size g r (mendD [] D)) := ⟨B, R, HD1.out.fr hf2 (fun k h h2 => HBR.out k h h2), hr2, HBR.out, HB.out, HRl.out⟩
        have HF2 : Aside0 (Fr (fun k => w.heap.size ≤ k) w W2) := ⟨HF1.out.trans hf2 (fun k h => .inl (HRl.out k h))⟩
        have BC := Aside0.mk (fun (k : Nat) (hk : k < 64) (W : World) (h : Pair W w.heap.size g r (mendD [] D)) (hs : w.heap.size ≤ W.heap.size) => both_calls w.heap.size g r (mendD [] D) ⟨0, (k : Int), [], []⟩ none none 0 0 W h hs (C_nil W) (Nat.zero_le _) (Cb_nil W) (Nat.zero_le _) (Nat.zero_le _) (Nat.zero_le _) (WalkArith.wf_i64 (by show -9223372036854775808 ≤ (k : Int) ∧ (k : Int) ≤ 9223372036854775807; omega)) ⟨HInv.out.steps.1, by have := HInv.out.steps.2; show D.steps ≤ _; omega⟩ (by show (-1 : Int) ≤ _; decide) (by show 0 ≤ _; omega) (by have := HInv.out.u; show D.u + D.c.length ≤ _; omega) (fun ad e _ => by cases e) (fun ad e _ => by cases e))
        have SC := Aside0.mk (fun (W : World) (h : Pair W w.heap.size g r (mendD [] D)) => (let ⟨B, R, _, h2, _⟩ := h; rsectors_calls r R (mendD [] D) W h2))
        have hmn : (mendD [] D).n = (m : Int) := HM.out
        rw [hmn] at SC
        clear hmn hr2 hf2 MR HD1 HF1 HBR HB HRl HF HR HInv HM
        have hN : ∃ N, min m 64 = N := ⟨_, rfl⟩
        obtain ⟨N2, hN2⟩ := hN
        go_wp2_with fail
        go_loopg [11] N2 (fun kq v11 w' => ∃ (k : Nat), v11 = .int .i64 (k : Int) ∧ Aside0 (k + kq = N2) ∧ Aside0 (Pair w' w.heap.size g r (mendD [] D)) ∧ Aside0 (Fr (fun k => w.heap.size ≤ k) w w'))
        case atStart => exact ⟨0, rfl, ⟨by omega⟩, HP2, HF2⟩
        case round =>
          clear HP2 HF2
          obtain ⟨k, rfl, HK, HP2, HF2⟩ := hrel
          have SW := Aside0.mk (SC.out wr HP2.out)
          cases gk with
          | zero =>
            have hk0 : (0 : Int) ≤ (k : Int) := by omega
            have hk2 : (m : Int) ≤ k ∨ ((k : Int) < m ∧ k = 64) := by have := HK.out; omega
            clear hN2
            rcases hk2 with hk2 | ⟨hk2, hk3⟩
            rotate_left
            subst hk3
            all_goals (
              go_wp2_with fail
              refine SW.out.mono ?_
              rintro e W3 ⟨rfl, ⟨nq, rfl⟩⟩
              go_wp2_with fail
              go_ret
              exact ⟨rfl, (HF2.out.mono (fun k h => .inr h)).drewN _⟩)
          | succ k2 =>
            have hk0 : (0 : Int) ≤ (k : Int) := by omega
            have hk1 : (k : Int) < (m : Int) := by have := HK.out; omega
            have hk2 : (k : Int) < 64 := by have := HK.out; omega
            have hk3 : k < 64 := by omega
            have HK2 : Aside0 (k + 1 + k2 = N2) := ⟨by have := HK.out; omega⟩
            clear hN2
            go_wp2_with fail
            refine SW.out.mono ?_
            rintro e W3 ⟨rfl, ⟨nq, rfl⟩⟩
            have BW := Aside0.mk (BC.out k hk3 (wr.drewN nq) (HP2.out.fr ((Fr.refl _ _).drewN _)) HF2.out.size)
            have HF3 : Aside0 (Fr (fun k => w.heap.size ≤ k) w (wr.drewN nq)) := ⟨HF2.out.drewN _⟩
            clear hk3
            go_wp2_with fail
            refine BW.out.mono ?_
            rintro e W4 ⟨rfl, hp4, hf4⟩
            rw [actD_read] at hp4
            have HP4 := Aside0.mk hp4
            have HF4 : Aside0 (Fr (fun k => w.heap.size ≤ k) w W4) := ⟨HF3.out.trans hf4 (fun k h => .inl h)⟩
            clear hp4 hf4 BW
            go_wp2_with fail
            go_roundg k2
            case measure => omega
            case rel => exact ⟨k + 1, by go_num, HK2, HP4, HF4⟩)
    | succ k1 =>
      have hi1 : i < l.length := by have := HI.out; omega
      have hi2 : i < 200 := by have := HI.out; omega
      obtain ⟨o, ho⟩ : ∃ o, l[i]? = some o := ⟨_, List.getElem?_eq_getElem hi1⟩
      obtain ⟨D, hP, hInv, hn0, hn1, hF⟩ := HS.out
      obtain ⟨ad, rfl, hk0, hm0, hwf, ⟨A, c, hcb0, hCb0, hbc⟩, hwb, ⟨A', c', hck0, hCk0, hkc⟩⟩ := HL.out i o ho
      have hk := cell_kept hF hk0
      have hn := cell_kept hF hm0
      have hcb := cell_kept hF hcb0
      have hck := cell_kept hF hck0
      have hi0 : (0 : Int) ≤ (i : Int) := by omega
      have hi3 : (i : Int) < (l.length : Int) := by omega
      have hi4 : (i : Int) < 200 := by omega
      have HI2 : Aside0 (i + 1 + k1 = N) := ⟨by have := HI.out; omega⟩
      have HSO := Aside0.mk (HSZ.out o (List.mem_of_getElem? ho))
      have SMC := Aside0.mk (fun (W : World) (g' : Nat) (D' : DS) (h : Pair W w.heap.size g' r D') (hc : D'.c.length ≤ 1000000) => (let ⟨B, R, h1, h2, _⟩ := h; same_calls g' r B R D' D' W h1 h2 rfl rfl rfl rfl hc))
      have HP := Aside0.mk hP
      have HInv := Aside0.mk hInv
      have HF := Aside0.mk hF
      have hwn : Aside0 (o.n ≤ 9223372036854775807) := ⟨wf_le hwf⟩
      have HN0 := Aside0.mk hn0
      have HN1 := Aside0.mk hn1
      clear hk0 hm0 hcb0 hck0 hP hInv hF hN hn0 hn1
      by_cases k5 : o.kind = 5
      · rw [k5] at hk
        obtain ⟨B, R, hD, hR, hBR, hB, hRl⟩ := HP.out
        have HR := Aside0.mk hR
        have HBR := Aside0.mk hBR
        have HB := Aside0.mk hB
        have HRl := Aside0.mk hRl
        have HD := Aside0.mk hD
        have CC := Aside0.mk (clone_calls g B D wr hD (by have := HInv.out.u; omega))
        clear hD hR hBR hB hRl hn hcb hck hCb0 hCk0 hwf hwb hbc hkc
        go_wp2_with fail
        refine CC.out.mono ?_
        rintro e W1 ⟨g', rfl, ⟨B', hd', hB'⟩, hf1⟩
        have HD1 : Aside0 (IsDisk W1 B g D) := ⟨HD.out.fr hf1 (fun _ _ h => h)⟩
        have HR1 : Aside0 (IsRef W1 R r D) := ⟨HR.out.fr hf1 (fun _ _ h => h)⟩
        have HC1 := Aside0.mk hd'
        have HBB : Aside0 (∀ k, B' k → ¬ B k ∧ ¬ R k) := ⟨fun k h => ⟨fun h2 => by have := hB' k h; have := HD.out.lt k h2; omega, fun h2 => by have := hB' k h; have := HR.out.lt k h2; omega⟩⟩
        have HB'l : Aside0 (∀ k, B' k → w.heap.size ≤ k) := ⟨fun k h => Nat.le_trans HF.out.size (hB' k h)⟩
        have HF1 : Aside0 (Fr (fun _ => False) w W1) := ⟨HF.out.trans hf1 (fun k h => .inl h)⟩
        clear hd' hB' hf1 CC HD HR HF
        have hb1 := (IsBytes.new W1 zeros64).C (by decide)
        have WC := Aside0.mk (write_calls g B D 0 (some ⟨W1.heap.size, 0, none⟩) 64 zeros64 (W1.alloc (.cells (nums .u8 zeros64).toArray 5)) (HD1.out.alloc _) ⟨by have := HInv.out.steps.1; omega, by have := HInv.out.steps.2; omega⟩ HInv.out.left (by decide) (by have := HInv.out.u; omega)
          hb1 (by decide) (fun ad e _ h => by injection e with e; subst e; have := HD1.out.lt _ h; exact Nat.lt_irrefl _ this))
        have IW := Aside0.mk (HInv.out.write 0 zeros64)
        clear hb1
        go_wp2_with fail
        refine WC.out.mono ?_
        rintro e W2 ⟨rfl, ⟨B2, hd2, hB2⟩, hf2⟩
        have hal : Fr (fun _ => False) W1 (W1.alloc (.cells (nums .u8 zeros64).toArray 5)) := (Fr.refl _ _).alloc _
        have f12 : Fr B W1 W2 := (hal.mono (fun k h => h.elim)).trans hf2 (fun k h => .inl h)
        have HD2 := Aside0.mk hd2
        have HC2 : Aside0 (IsDisk W2 B' g' D) := ⟨HC1.out.fr f12 (fun k h h2 => (HBB.out k h).1 h2)⟩
        have HR2 : Aside0 (IsRef W2 R r D) := ⟨HR1.out.fr f12 (fun k h h2 => HBR.out k h2 h)⟩
        have HB2 : Aside0 (∀ k, B2 k → ¬ B' k ∧ ¬ R k ∧ w.heap.size ≤ k) := ⟨fun k h => (hB2 k h).elim (fun h2 => ⟨fun h3 => (HBB.out k h3).1 h2, HBR.out k h2, HB.out k h2⟩) (fun h2 => by simp at h2; exact ⟨fun h3 => by have := HC1.out.lt k h3; omega, fun h3 => by have := HR1.out.lt k h3; omega, by have := HF1.out.size; omega⟩)⟩
        have HF2 : Aside0 (Fr (fun _ => False) w W2) := ⟨HF1.out.trans f12 (fun k h => .inr (HB.out k h))⟩
        obtain ⟨D2, hD2⟩ : ∃ D2, (writeD D 0 zeros64).2 = D2 := ⟨_, rfl⟩
        rw [hD2] at HD2 IW
        generalize (writeD D 0 zeros64).1 = e2
        clear hD2 hd2 hB2 hf2 hal f12 WC HD1 HR1 HC1 HF1 HBR
        have FC := Aside0.mk (flush_calls g B2 D2 W2 HD2.out ⟨by have := IW.out.steps.1; omega, by have := IW.out.steps.2; omega⟩ IW.out.left (by have := IW.out.u; omega) (by have := IW.out.u; omega))
        have IX := Aside0.mk IW.out.flush
        go_wp2_with fail
        refine FC.out.mono ?_
        rintro e W3 ⟨rfl, hd3, hf3⟩
        have HD3 := Aside0.mk hd3
        have HC3 : Aside0 (IsDisk W3 B' g' D) := ⟨HC2.out.fr hf3 (fun k h h2 => (HB2.out k h2).1 h)⟩
        have HR3 : Aside0 (IsRef W3 R r D) := ⟨HR2.out.fr hf3 (fun k h h2 => (HB2.out k h2).2.1 h)⟩
        have HF3 : Aside0 (Fr (fun _ => False) w W3) := ⟨HF2.out.trans hf3 (fun k h => .inr (HB2.out k h).2.2)⟩
        obtain ⟨D3, hD3⟩ : ∃ D3, (flushD D2).2 = D3 := ⟨_, rfl⟩
        rw [hD3] at HD3 IX
        generalize (flushD D2).1 = e3
        clear hD3 hd3 hf3 FC HD2 HR2 HC2 HF2 IW
        have MC := Aside0.mk (mend_calls g B2 D3 none 0 [] W3 HD3.out (by have := IX.out.u; omega) (by have := IX.out.u; omega) (Cb_nil W3) (fun ad e _ => by cases e))
        go_wp2_with fail
        refine MC.out.mono ?_
        rintro e W4 ⟨rfl, hd4, hf4⟩
        have HC4 : Aside0 (IsDisk W4 B' g' D) := ⟨HC3.out.fr hf4 (fun k h h2 => (HB2.out k h2).1 h)⟩
        have HR4 : Aside0 (IsRef W4 R r D) := ⟨HR3.out.fr hf4 (fun k h h2 => (HB2.out k h2).2.1 h)⟩
        have HF4 : Aside0 (Fr (fun _ => False) w W4) := ⟨HF3.out.trans hf4 (fun k h => .inr (HB2.out k h).2.2)⟩
        have HP4 : Aside0 (Pair W4 w.heap.size g' r D) := ⟨B', R, HC4.out, HR4.out, fun k h => (HBB.out k h).2, HB'l.out, HRl.out⟩
        clear hd4 hf4 MC HC4 HR4 HC3 HR3 HF3 HD3 IX
        have SM := Aside0.mk (SMC.out W4 g' D HP4.out (by have := HInv.out.u; omega))
        go_wp2_with fail
        refine SM.out.mono ?_
        rintro e W5 ⟨rfl, hf5⟩
        have HS5 : Aside0 (SP w W5 g' r (i + 1)) := ⟨D, HP4.out.fr hf5, HInv.out.up, HN0.out, HN1.out, HF4.out.trans hf5 (fun k h => .inl h)⟩
        clear hf5
        go_wp2_with fail
        go_roundg k1
        case measure => omega
        case rel => exact ⟨g', i + 1, rfl, by go_num, HI2, HS5⟩
      · have e5 : (o.kind == 5) = false := by simpa using k5
        have BC := Aside0.mk (both_calls w.heap.size g r D o A A' c c' wr HP.out HF.out.size (C_fr (0 : Int) hCb0 HF.out (fun _ _ _ h => h)) hbc (C_fr false hCk0 HF.out (fun _ _ _ h => h)) hkc HSO.out.1 HSO.out.2 hwf ⟨HInv.out.steps.1, by have := HInv.out.steps.2; omega⟩ HInv.out.left (by have := HInv.out.u; omega) (by have := HInv.out.u; omega) (c_far (0 : Int) hCb0) (c_far false hCk0))
        have IA := Aside0.mk (HInv.out.act o hwn.out)
        clear hCb0 hCk0 hwb hwf hbc hkc
        go_wp2_with fail
        refine BC.out.mono ?_
        rintro e W1 ⟨rfl, hp1, hf1⟩
        have HP1 := Aside0.mk hp1
        have HF1 : Aside0 (Fr (fun _ => False) w W1) := ⟨Pair.big hf1 HF.out (Nat.le_refl _)⟩
        have SM := Aside0.mk (SMC.out W1 g (actD D o) hp1 (by have := IA.out.u; omega))
        clear hp1 hf1
        go_wp2_with fail
        refine SM.out.mono ?_
        rintro e W2 ⟨rfl, hf2⟩
        have HS2 : Aside0 (SP w W2 g r (i + 1)) := ⟨actD D o, HP1.out.fr hf2, IA.out, by rw [actD_n]; exact HN0.out, by rw [actD_n]; exact HN1.out, HF1.out.trans hf2 (fun k h => .inl h)⟩
        clear hf2 SM BC hk hn hcb hck
        go_wp2_with fail
        go_roundg k1
        case measure => omega
        case rel => exact ⟨g, i + 1, rfl, by go_num, HI2, HS2⟩
end Go.Proofs.Ytppgbfkhiofjiaa.X
