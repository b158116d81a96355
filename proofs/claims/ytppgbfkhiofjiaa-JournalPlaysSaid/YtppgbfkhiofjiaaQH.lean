/-
  Of the proof of JournalPlays (put together by wip/tools/mkclaimj.py):
  The reference's journal: the contract of Open.
-/
import Derived.Test.YtppgbfkhiofjiaaQG
import Derived.Deep.RegionHeld3
namespace Go.Proofs.Ytppgbfkhiofjiaa.X
open Go.RowKit Go.Proofs.YtppgbfkhiofjiaaW.PrintWords Go.Proofs.YtppgbfkhiofjiaaW.PrintLast Go.Proofs.YtppgbfkhiofjiaaW.PrintMore Go.Proofs.Ytppgbfkhiofjiaa.Y
set_option linter.unusedVariables false
set_option linter.unusedSimpArgs false

set_option maxHeartbeats 8000000 in
set_option maxRecDepth 100000 in
theorem ropen_calls (r : Nat) (R : Nat → Prop) (D : DS) (w : World) (i : Nat) (h : IsRef w R r D) (ho : JOk i D) (hi : i ≤ 200000) (hB : Byt D) :
    Calls Try.prog 67 #[.pointer (some ⟨r, 0, none⟩)] w (ROpenEnd R r (openD D) w) := by
  have SC := Aside0.mk (rsectors_calls r R D w h)
  have M0 := Aside0.mk (RMoved.refl h)
  have HNN := Aside0.mk h.nn
  by_cases hn : D.n ≤ 69
  · have HE : Aside0 (openD D = (2, D)) := ⟨by unfold openD; rw [if_pos hn]⟩
    obtain ⟨m, hm⟩ : ∃ m, D.n = m := ⟨_, rfl⟩
    rw [hm] at SC hn
    clear h ho hm hB
    go_enter Try.func67, Try.ntmps67
    go_wp2_with fail
    refine SC.out.mono ?_
    rintro e w' ⟨rfl, hd⟩
    have HD := Aside0.mk (Fr.of_drawn hd (fun _ => False))
    clear hd
    go_wp2_with fail
    go_ret2
    rw [HE.out]
    exact ROpenEnd.bad (M0.out.quiet HD.out) (by decide)
  · by_cases hd : D.down = true
    · have HE : Aside0 (openD D = (230, D)) := ⟨by unfold openD; rw [if_neg hn, if_pos hd]⟩
      have hlk : lookD D 0 = 230 := by unfold lookD; rw [if_pos hd]
      have RC : Aside0 (∀ W, Fr (fun _ => False) w W → Calls Try.prog 42 #[.pointer (some ⟨r, 0, none⟩), .int .i64 0] W fun e w' => e = .returned (.tuple #[.slice none 0 0, .int .i64 230]) ∧ Drawn0 W w') := ⟨fun W f => by
        have := rread_bad r R D 0 W (h.fr f (fun _ _ h => h)) (by rw [hlk]; decide)
        rwa [hlk] at this⟩
      obtain ⟨m, hm⟩ : ∃ m, D.n = m := ⟨_, rfl⟩
      rw [hm] at SC hn
      clear h ho hm hB hlk hd
      go_enter Try.func67, Try.ntmps67
      go_wp2_with fail
      refine SC.out.mono ?_
      rintro e w' ⟨rfl, hd⟩
      have HD := Aside0.mk (Fr.of_drawn hd (fun _ => False))
      clear hd
      go_wp2_with fail
      refine (RC.out _ HD.out).mono ?_
      rintro e w1 ⟨rfl, hd1⟩
      have HD1 := Aside0.mk (HD.out.trans (Fr.of_drawn hd1 (fun _ => False)) (fun _ h => h.elim))
      clear hd1
      go_wp2_with fail
      go_ret2
      rw [HE.out]
      exact ROpenEnd.bad (M0.out.quiet HD1.out) (by decide)
    · have hd' : D.down = false := by simpa using hd
      have HDN := Aside0.mk hd'
      obtain ⟨d1, d2⟩ := h.nn
      have hlk : ∀ k : Int, 0 ≤ k → k < D.n → lookD D k = 0 := fun k h1 h2 => by unfold lookD; rw [if_neg hd, if_neg (by omega), if_neg (by omega)]
      have RC : Aside0 (∀ (k : Int) W, 0 ≤ k → k < D.n → Fr (fun _ => False) w W → Calls Try.prog 42 #[.pointer (some ⟨r, 0, none⟩), .int .i64 k] W fun e w' => ∃ g cap, e = .returned (.tuple #[.slice (some ⟨g, 0, none⟩) 64 cap, .int .i64 0]) ∧ w'.ownsRow 0 5 1 (.slice (some ⟨g, 0, none⟩) 64 cap) 64 (nums .u8 (rd64 D k)) ∧ Fr (fun _ => False) W w') := ⟨fun k W h1 h2 f =>
        rread_calls r R D k W (h.fr f (fun _ _ h => h)) (hlk k h1 h2) (by have := ho.u; omega)⟩
      have HBy := Aside0.mk hB
      have HO := Aside0.mk ho
      have H := Aside0.mk h
      have HN : Aside0 (openD D = if 64 < cntOf D then (6, D) else if cntOf D = 0 ∧ sumOf D ≠ 0 then (6, D) else if sameB (rd64 D 0) (headL (cntOf D) (sumOf D)) = false then (6, D)
          else if cntOf D = 0 then (0, D) else if leftE D (cntOf D).toNat (sumOf D) ≠ 0 then (leftE D (cntOf D).toNat (sumOf D), D) else finishD (leftW D (cntOf D).toNat) D) := ⟨by unfold openD; rw [if_neg hn, if_neg hd]⟩
      obtain ⟨m, hm⟩ : ∃ m, D.n = m := ⟨_, rfl⟩
      have HM := Aside0.mk hm
      rw [hm] at SC hn RC d1 d2
      clear h ho hm hB hlk hd hd'
      go_enter Try.func67, Try.ntmps67
      go_wp2_with fail
      refine SC.out.mono ?_
      rintro e w' ⟨rfl, hd⟩
      have HD := Aside0.mk (Fr.of_drawn hd (fun _ => False))
      clear hd
      go_wp2_with fail
      refine (RC.out 0 _ (by omega) (by omega) HD.out).mono ?_
      rintro e w1 ⟨gb, cap, rfl, ho1, f1⟩
      have HF1 := Aside0.mk (HD.out.trans f1 (fun _ h => h.elim))
      have HA := Aside0.mk ho1
      have hl64 : (rd64 D 0).length = 64 := by
        have := ho1.1
        simpa [nums] using this
      obtain ⟨hcap, hC1⟩ := own_reads64 ho1 hl64
      have HL := Aside0.mk hl64
      have HOW := Aside0.mk ho1
      have CC : Aside0 (∀ W, Fr (fun _ => False) w1 W → Kd.C (Kd.int .u8) W (some ⟨gb, 0, none⟩) 64 (rd64 D 0)) := ⟨fun W f => (own_reads64 (ownsRow_kept ho1 (fun k e => f.keep k (own_lt ho1 k e) (fun h => h))) hl64).2⟩
      have NC : Aside0 (∀ (a : Nat) W, a + 4 ≤ 64 → Fr (fun _ => False) w1 W → Calls Try.prog 86 #[.slice (some ⟨gb, a, none⟩) 4 (cap - a)] W fun e w' => e = .returned (.int .u32 (numL ((rd64 D 0).drop a))) ∧ Drawn0 W w') := ⟨fun a W ha f => rnum_at (CC.out W f) HL.out (HBy.out.rd 0) hcap ha⟩
      have c1 : 0 ≤ cntOf D := (numL_range _).1
      have c2 : cntOf D < 4294967296 := (numL_range _).2
      have s1 : 0 ≤ sumOf D := (numL_range _).1
      have s2 : sumOf D < 4294967296 := (numL_range _).2
      have HSAME := head_same hl64 (HBy.out.rd 0)
      have e1 : numL ((rd64 D 0).drop 4) = cntOf D := rfl
      have e2 : numL ((rd64 D 0).drop 8) = sumOf D := rfl
      obtain ⟨cn, hcn⟩ : ∃ cn, cntOf D = cn := ⟨_, rfl⟩
      obtain ⟨sn, hsn⟩ : ∃ sn, sumOf D = sn := ⟨_, rfl⟩
      rw [e1, e2, hcn, hsn] at HSAME
      have N4 := NC.out 4
      have N8 := NC.out 8
      rw [e1, hcn] at N4
      rw [e2, hsn] at N8
      replace N4 : Aside0 (∀ W, Fr (fun _ => False) w1 W → Calls Try.prog 86 #[.slice (some ⟨gb, 4, none⟩) 4 (cap - 4)] W fun e w' => e = .returned (.int .u32 cn) ∧ Fr (fun _ => False) w1 w') := ⟨fun W f => (N4 W (by omega) f).mono fun e w' ⟨he, hd⟩ => ⟨he, f.trans (Fr.of_drawn hd (fun _ => False)) (fun _ h => h.elim)⟩⟩
      replace N8 : Aside0 (∀ W, Fr (fun _ => False) w1 W → Calls Try.prog 86 #[.slice (some ⟨gb, 8, none⟩) 4 (cap - 8)] W fun e w' => e = .returned (.int .u32 sn) ∧ Fr (fun _ => False) w1 w') := ⟨fun W f => (N8 W (by omega) f).mono fun e w' ⟨he, hd⟩ => ⟨he, f.trans (Fr.of_drawn hd (fun _ => False)) (fun _ h => h.elim)⟩⟩
      rw [hcn] at c1 c2
      rw [hsn] at s1 s2
      rw [hcn, hsn] at HN
      replace HSAME := Aside0.mk HSAME
      have sl1 := cutA gb 64 cap 4 8 (by omega) (by omega) (by omega) 4 8 rfl rfl 4 (cap - 4) rfl rfl
      have sl2 := cutA gb 64 cap 8 12 (by omega) (by omega) (by omega) 8 12 rfl rfl 4 (cap - 8) rfl rfl
      clear ho1 f1 hC1 hl64 e1 e2 hcn hsn NC SC
      go_wp2_with fail
      go_region_held3 (fun W => Fr (fun _ => False) w1 W) (first | exact HF3.out | exact HF2.out | exact (Fr.refl _ w1).drew) (first
        | (go_at_call 86; (with_reducible refine (N4.out _ ?_).mono ?_); exact (Fr.refl _ w1).drew; rintro e w2 ⟨rfl, f2⟩; have HF2 := Aside0.mk f2; clear f2)
        | (go_at_call 86; (with_reducible refine (N8.out _ HF2.out).mono ?_); rintro e w3 ⟨rfl, f3⟩; have HF3 := Aside0.mk f3; clear f3))
      have HF3b := Aside0.mk (HF1.out.trans HF3.out (fun _ h => h.elim))
      have C4 : ∀ W, Fr (fun _ => False) w1 W → (convert 22 9 (.slice (some ⟨gb, 0, none⟩) 4 cap)).run Try.prog W = .ok (.string (strOfNums ((rd64 D 0).take 4))) W := fun W f => Kd.C_string Try.underlying22 Try.underlying5 Try.underlying9 (C_takeAt (CC.out W f) HL.out (a := 4) (by omega))
      have C12 : ∀ W, Fr (fun _ => False) w1 W → (convert 22 9 (.slice (some ⟨gb, 12, none⟩) 52 (cap - 12))).run Try.prog W = .ok (.string (strOfNums ((rd64 D 0).drop 12))) W := fun W f => by
        have h1 := C_dropAt (CC.out W f) HL.out (a := 12) (by omega)
        rw [Addr.add_mid, Nat.zero_add] at h1
        exact Kd.C_string Try.underlying22 Try.underlying5 Try.underlying9 h1
      have k1 := cutH gb 64 cap 4 (by omega) (by omega) 4 rfl
      have k2 := cutL gb 64 cap 12 (by omega) (by omega) 12 rfl 52 (cap - 12) rfl rfl
      have HL4 : Aside0 ((strOfNums ((rd64 D 0).take 4)).toList = [82, 76, 74, 49] ↔ (rd64 D 0).take 4 = [82, 76, 74, 49]) := ⟨by
        constructor
        · intro e
          exact byt_str ((HBy.out.rd 0).take 4) (by intro x hx; simp only [List.mem_cons, List.not_mem_nil, or_false] at hx; omega) (e.trans (by decide +kernel))
        · intro e
          rw [e]
          decide +kernel⟩
      have HZ12 : Aside0 (strOfNums ((rd64 D 0).drop 12) = strOfNums (List.replicate 52 0) ↔ (rd64 D 0).drop 12 = List.replicate 52 0) := ⟨by
        constructor
        · intro e
          exact byt_str ((HBy.out.rd 0).drop 12) (BytL.zeros 52) (congrArg ByteArray.toList e)
        · intro e
          rw [e]⟩
      obtain ⟨S4, hS4⟩ : ∃ S, strOfNums ((rd64 D 0).take 4) = S := ⟨_, rfl⟩
      obtain ⟨S12, hS12⟩ : ∃ S, strOfNums ((rd64 D 0).drop 12) = S := ⟨_, rfl⟩
      rw [hS4] at C4 HL4
      rw [hS12] at C12 HZ12
      have C4q : ∀ q, (convert 22 9 (.slice (some ⟨gb, 0, none⟩) 4 cap)).run Try.prog (w3.drewN q) = .ok (.string S4) (w3.drewN q) := fun q => C4 _ (HF3.out.drewN q)
      replace C12 := Aside0.mk C12
      replace C4 := Aside0.mk C4
      clear hS4 hS12 sl1 sl2 N4 N8 HF2
      by_cases h4 : S4.toList = [82, 76, 74, 49]
      · have M52 := make52 w3.drew
        have CZ : (convert 22 9 (.slice (some ⟨w3.heap.size, 0, none⟩) 52 52)).run Try.prog (w3.drew.alloc (.cells (nums .u8 (List.replicate 52 0)).toArray 5)) = .ok (.string (strOfNums (List.replicate 52 0))) (w3.drew.alloc (.cells (nums .u8 (List.replicate 52 0)).toArray 5)) := Kd.C_string Try.underlying22 Try.underlying5 Try.underlying9 ((IsBytes.new w3.drew (List.replicate 52 0)).C (by decide))
        obtain ⟨S52, hS52⟩ : ∃ S, strOfNums (List.replicate 52 0) = S := ⟨_, rfl⟩
        rw [hS52] at CZ HZ12
        obtain ⟨o52, ho52⟩ : ∃ o, (Obj.cells (nums .u8 (List.replicate 52 0)).toArray 5) = o := ⟨_, rfl⟩
        rw [ho52] at M52 CZ
        have CZf : (convert 22 9 (.slice (some ⟨w3.heap.size, 0, none⟩) 52 52)).run Try.prog (w3.alloc o52).drew = .ok (.string S52) (w3.alloc o52).drew := CZ
        clear hS52 ho52 C4q CZ
        go_wp2_with fail
        refine wp_region_held_drew (S := fun W => Fr (fun _ => False) w1 W) (by kernel_rfl) HF3.out.drew (fun hHeld => ?_)
        refine wpAnyH_take (i := 0) (oi := ⟨some 37, _, _, _, _, _⟩) (v := ?_) rfl (by kernel_rfl) (by kernel_rfl) (by kernel_rfl) (fun _ _ _ h => h) (Or.inl ⟨by rfl, ?hyT1⟩) (by assumption) ?rsT1
        case hyT1 => (intro w' hSw; (try dsimp only at hSw); (first | (go_simp; done) | (go_simp; with_reducible rfl)))
        try simp only [Act.put, List.setIfInBounds_toArray, List.set_cons_zero, List.set_cons_succ]
        refine wpAnyH_take (i := 1) (oi := ⟨some 38, _, _, _, _, _⟩) (v := ?_) rfl (by kernel_rfl) (by kernel_rfl) (by kernel_rfl) (fun _ _ _ h => h) (Or.inl ⟨by rfl, ?hyT2⟩) (by assumption) ?rsT2
        case hyT2 => (intro w' hSw; (try dsimp only at hSw); (first | (go_simp; done) | (go_simp; with_reducible rfl)))
        try simp only [Act.put, List.setIfInBounds_toArray, List.set_cons_zero, List.set_cons_succ]
        refine wpAnyH_take (i := 2) (oi := ⟨some 39, _, _, _, _, _⟩) (v := ?_) rfl (by kernel_rfl) (by kernel_rfl) (by kernel_rfl) (fun _ _ _ h => h) (Or.inl ⟨by rfl, ?hyT3⟩) (by assumption) ?rsT3
        case hyT3 => (intro w' hSw; (try dsimp only at hSw); have C4w := C4.out w' hSw; (first | (go_simp; done) | (go_simp; with_reducible rfl)))
        try simp only [Act.put, List.setIfInBounds_toArray, List.set_cons_zero, List.set_cons_succ]
        refine wpAnyH_take (i := 3) (oi := ⟨some 40, _, _, _, _, _⟩) (v := ?_) rfl (by kernel_rfl) (by kernel_rfl) (by kernel_rfl) (fun _ _ _ h => h) (Or.inl ⟨by rfl, ?hyT4⟩) (by assumption) ?rsT4
        case hyT4 => (intro w' hSw; (try dsimp only at hSw); (first | (go_simp; done) | (go_simp; with_reducible rfl)))
        try simp only [Act.put, List.setIfInBounds_toArray, List.set_cons_zero, List.set_cons_succ]
        refine wpAnyH_take (i := 4) (oi := ⟨some 41, _, _, _, _, _⟩) (v := ?_) rfl (by kernel_rfl) (by kernel_rfl) (by kernel_rfl) (fun _ _ _ h => h) (Or.inl ⟨by rfl, ?hyT5⟩) (by assumption) ?rsT5
        case hyT5 => (intro w' hSw; (try dsimp only at hSw); (first | (go_simp; done) | (go_simp; with_reducible rfl)))
        try simp only [Act.put, List.setIfInBounds_toArray, List.set_cons_zero, List.set_cons_succ]
        refine wpAnyH_take (i := 5) (oi := ⟨some 42, _, _, _, _, _⟩) (v := ?_) rfl (by kernel_rfl) (by kernel_rfl) (by kernel_rfl) (fun _ _ _ h => h) (Or.inl ⟨by rfl, ?hyT6⟩) (by assumption) ?rsT6
        case hyT6 => (intro w' hSw; (try dsimp only at hSw); (first | (go_simp; done) | (go_simp; with_reducible rfl)))
        try simp only [Act.put, List.setIfInBounds_toArray, List.set_cons_zero, List.set_cons_succ]
        refine wpAnyH_take (i := 6) (oi := ⟨some 43, _, _, _, _, _⟩) (v := ?_) rfl (by kernel_rfl) (by kernel_rfl) (by kernel_rfl) (fun _ _ _ h => h) (Or.inl ⟨by rfl, ?hyT7⟩) (by assumption) ?rsT7
        case hyT7 => (intro w' hSw; (try dsimp only at hSw); (first | (go_simp; done) | (go_simp; with_reducible rfl)))
        try simp only [Act.put, List.setIfInBounds_toArray, List.set_cons_zero, List.set_cons_succ]
        refine wpAnyH_take (i := 7) (oi := ⟨some 44, _, _, _, _, _⟩) (v := ?_) rfl (by kernel_rfl) (by kernel_rfl) (by kernel_rfl) (fun _ _ _ h => h) (Or.inl ⟨by rfl, ?hyT8⟩) (by assumption) ?rsT8
        case hyT8 => (intro w' hSw; (try dsimp only at hSw); have C12w := C12.out w' hSw; (first | (go_simp; done) | (go_simp; with_reducible rfl)))
        try simp only [Act.put, List.setIfInBounds_toArray, List.set_cons_zero, List.set_cons_succ]
        clear hHeld
        refine wpAnyH_ready (rs := [8]) (by kernel_rfl) (by simp) ?_
        refine AllReadyH.cons rfl (fun K hK => ?_) AllReadyH.nil
        go_simp
        refine hK.out _ _ (HF3.out.drew.alloc _) (fun hHeld => ?_)
        clear hK K
        try simp only [Act.put, List.setIfInBounds_toArray, List.set_cons_zero, List.set_cons_succ]
        refine wpAnyH_ready (rs := [9]) (by kernel_rfl) (by simp) ?_
        refine AllReadyH.cons rfl (fun K hK => ?_) AllReadyH.nil
        go_simp
        refine hK.out _ _ (HF3.out.drew.alloc _) (fun hHeld => ?_)
        clear hK K
        try simp only [Act.put, List.setIfInBounds_toArray, List.set_cons_zero, List.set_cons_succ]
        have HF52 : Aside0 (Fr (fun _ => False) w (w3.alloc o52).drew) := ⟨(HF3b.out.alloc o52).drew⟩
        have HF52b : Aside0 (Fr (fun _ => False) w1 (w3.alloc o52).drew) := ⟨(HF3.out.alloc o52).drew⟩
        by_cases hz : S12 = S52
        · subst hz
          have HSB : Aside0 (sameB (rd64 D 0) (headL cn sn) = true) := ⟨HSAME.out.2 ⟨HL4.out.1 h4, HZ12.out.1 rfl⟩⟩
          by_cases b1 : 64 < cn
          · have HE : Aside0 (openD D = (6, D)) := ⟨by rw [HN.out, if_pos (by omega)]⟩
            refine wpAnyH_take (i := 10) (oi := ⟨some 47, _, _, _, _, _⟩) (v := ?_) rfl (by kernel_rfl) (by kernel_rfl) (by kernel_rfl) (fun _ _ _ h => h) (Or.inl ⟨by rfl, ?hyU1⟩) (by assumption) ?rsU1
            case hyU1 => (intro w' hSw; (try dsimp only at hSw); (first | (go_simp; done) | (go_simp; with_reducible rfl)))
            try simp only [Act.put, List.setIfInBounds_toArray, List.set_cons_zero, List.set_cons_succ]
            refine wpAnyH_take (i := 11) (oi := ⟨some 48, _, _, _, _, _⟩) (v := ?_) rfl (by kernel_rfl) (by kernel_rfl) (by kernel_rfl) (fun _ _ _ h => h) (Or.inl ⟨by rfl, ?hyU2⟩) (by assumption) ?rsU2
            case hyU2 => (intro w' hSw; (try dsimp only at hSw); (first | (go_simp; done) | (go_simp; with_reducible rfl)))
            try simp only [Act.put, List.setIfInBounds_toArray, List.set_cons_zero, List.set_cons_succ]
            refine wpAnyH_take (i := 12) (oi := ⟨some 49, _, _, _, _, _⟩) (v := ?_) rfl (by kernel_rfl) (by kernel_rfl) (by kernel_rfl) (fun _ _ _ h => h) (Or.inl ⟨by rfl, ?hyU3⟩) (by assumption) ?rsU3
            case hyU3 => (intro w' hSw; (try dsimp only at hSw); (first | (go_simp; done) | (go_simp; with_reducible rfl)))
            try simp only [Act.put, List.setIfInBounds_toArray, List.set_cons_zero, List.set_cons_succ]
            refine wpAnyH_take (i := 13) (oi := ⟨some 50, _, _, _, _, _⟩) (v := ?_) rfl (by kernel_rfl) (by kernel_rfl) (by kernel_rfl) (fun _ _ _ h => h) (Or.inl ⟨by rfl, ?hyU4⟩) (by assumption) ?rsU4
            case hyU4 => (intro w' hSw; (try dsimp only at hSw); (first | (go_simp; done) | (go_simp; with_reducible rfl)))
            try simp only [Act.put, List.setIfInBounds_toArray, List.set_cons_zero, List.set_cons_succ]
            refine wpAnyH_take (i := 14) (oi := ⟨some 51, _, _, _, _, _⟩) (v := ?_) rfl (by kernel_rfl) (by kernel_rfl) (by kernel_rfl) (fun _ _ _ h => h) (Or.inl ⟨by rfl, ?hyU5⟩) (by assumption) ?rsU5
            case hyU5 => (intro w' hSw; (try dsimp only at hSw); (first | (go_simp; done) | (go_simp; with_reducible rfl)))
            try simp only [Act.put, List.setIfInBounds_toArray, List.set_cons_zero, List.set_cons_succ]
            refine wpAnyH_take (i := 15) (oi := ⟨some 52, _, _, _, _, _⟩) (v := ?_) rfl (by kernel_rfl) (by kernel_rfl) (by kernel_rfl) (fun _ _ _ h => h) (Or.inl ⟨by rfl, ?hyU6⟩) (by assumption) ?rsU6
            case hyU6 => (intro w' hSw; (try dsimp only at hSw); (first | (go_simp; done) | (go_simp; with_reducible rfl)))
            try simp only [Act.put, List.setIfInBounds_toArray, List.set_cons_zero, List.set_cons_succ]
            refine wpAnyH_take (i := 16) (oi := ⟨some 53, _, _, _, _, _⟩) (v := ?_) rfl (by kernel_rfl) (by kernel_rfl) (by kernel_rfl) (fun _ _ _ h => h) (Or.inl ⟨by rfl, ?hyU7⟩) (by assumption) ?rsU7
            case hyU7 => (intro w' hSw; (try dsimp only at hSw); (first | (go_simp; done) | (go_simp; with_reducible rfl)))
            try simp only [Act.put, List.setIfInBounds_toArray, List.set_cons_zero, List.set_cons_succ]
            refine wpAnyH_take (i := 17) (oi := ⟨some 54, _, _, _, _, _⟩) (v := undef) rfl (by kernel_rfl) (by kernel_rfl) (by kernel_rfl) (fun _ _ _ h => h) (Or.inr ⟨by rfl, rfl⟩) (by assumption) ?_
            try simp only [Act.put, List.setIfInBounds_toArray, List.set_cons_zero, List.set_cons_succ]
            refine wpAnyH_take (i := 18) (oi := ⟨some 55, _, _, _, _, _⟩) (v := undef) rfl (by kernel_rfl) (by kernel_rfl) (by kernel_rfl) (fun _ _ _ h => h) (Or.inr ⟨by rfl, rfl⟩) (by assumption) ?_
            try simp only [Act.put, List.setIfInBounds_toArray, List.set_cons_zero, List.set_cons_succ]
            refine wpAnyH_take (i := 19) (oi := ⟨some 56, _, _, _, _, _⟩) (v := undef) rfl (by kernel_rfl) (by kernel_rfl) (by kernel_rfl) (fun _ _ _ h => h) (Or.inr ⟨by rfl, rfl⟩) (by assumption) ?_
            try simp only [Act.put, List.setIfInBounds_toArray, List.set_cons_zero, List.set_cons_succ]
            refine wpAnyH_take (i := 20) (oi := ⟨some 57, _, _, _, _, _⟩) (v := undef) rfl (by kernel_rfl) (by kernel_rfl) (by kernel_rfl) (fun _ _ _ h => h) (Or.inr ⟨by rfl, rfl⟩) (by assumption) ?_
            try simp only [Act.put, List.setIfInBounds_toArray, List.set_cons_zero, List.set_cons_succ]
            refine wpAnyH_take (i := 21) (oi := ⟨some 58, _, _, _, _, _⟩) (v := undef) rfl (by kernel_rfl) (by kernel_rfl) (by kernel_rfl) (fun _ _ _ h => h) (Or.inr ⟨by rfl, rfl⟩) (by assumption) ?_
            try simp only [Act.put, List.setIfInBounds_toArray, List.set_cons_zero, List.set_cons_succ]
            refine wpAnyH_take (i := 22) (oi := ⟨some 59, _, _, _, _, _⟩) (v := undef) rfl (by kernel_rfl) (by kernel_rfl) (by kernel_rfl) (fun _ _ _ h => h) (Or.inr ⟨by rfl, rfl⟩) (by assumption) ?_
            try simp only [Act.put, List.setIfInBounds_toArray, List.set_cons_zero, List.set_cons_succ]
            refine wpAnyH_take (i := 23) (oi := ⟨some 60, _, _, _, _, _⟩) (v := ?_) rfl (by kernel_rfl) (by kernel_rfl) (by kernel_rfl) (fun _ _ _ h => h) (Or.inl ⟨by rfl, ?hyU14⟩) (by assumption) ?rsU14
            case hyU14 => (intro w' hSw; (try dsimp only at hSw); (first | (go_simp; done) | (go_simp; with_reducible rfl)))
            try simp only [Act.put, List.setIfInBounds_toArray, List.set_cons_zero, List.set_cons_succ]
            refine wpAnyH_done (by kernel_rfl) ?_ _
            try dsimp only
            go_wp2_with fail
            go_ret2
            rw [HE.out]
            exact ROpenEnd.bad (M0.out.quiet HF52.out) (by decide)
          · have b1' : cn ≤ 64 := by omega
            have HN2 := Aside0.mk (HN.out.trans (if_neg (by omega)))
            by_cases b3 : cn = 0
            · subst b3
              by_cases b2 : sn = 0
              · subst b2
                have HE : Aside0 (openD D = (0, D)) := ⟨by rw [HN2.out, if_neg (by simp), HSB.out, if_neg (by simp), if_pos rfl]⟩
                refine wpAnyH_take (i := 10) (oi := ⟨some 47, _, _, _, _, _⟩) (v := ?_) rfl (by kernel_rfl) (by kernel_rfl) (by kernel_rfl) (fun _ _ _ h => h) (Or.inl ⟨by rfl, ?hyU15⟩) (by assumption) ?rsU15
                case hyU15 => (intro w' hSw; (try dsimp only at hSw); (first | (go_simp; done) | (go_simp; with_reducible rfl)))
                try simp only [Act.put, List.setIfInBounds_toArray, List.set_cons_zero, List.set_cons_succ]
                refine wpAnyH_take (i := 11) (oi := ⟨some 48, _, _, _, _, _⟩) (v := ?_) rfl (by kernel_rfl) (by kernel_rfl) (by kernel_rfl) (fun _ _ _ h => h) (Or.inl ⟨by rfl, ?hyU16⟩) (by assumption) ?rsU16
                case hyU16 => (intro w' hSw; (try dsimp only at hSw); (first | (go_simp; done) | (go_simp; with_reducible rfl)))
                try simp only [Act.put, List.setIfInBounds_toArray, List.set_cons_zero, List.set_cons_succ]
                refine wpAnyH_take (i := 12) (oi := ⟨some 49, _, _, _, _, _⟩) (v := ?_) rfl (by kernel_rfl) (by kernel_rfl) (by kernel_rfl) (fun _ _ _ h => h) (Or.inl ⟨by rfl, ?hyU17⟩) (by assumption) ?rsU17
                case hyU17 => (intro w' hSw; (try dsimp only at hSw); (first | (go_simp; done) | (go_simp; with_reducible rfl)))
                try simp only [Act.put, List.setIfInBounds_toArray, List.set_cons_zero, List.set_cons_succ]
                refine wpAnyH_take (i := 13) (oi := ⟨some 50, _, _, _, _, _⟩) (v := ?_) rfl (by kernel_rfl) (by kernel_rfl) (by kernel_rfl) (fun _ _ _ h => h) (Or.inl ⟨by rfl, ?hyU18⟩) (by assumption) ?rsU18
                case hyU18 => (intro w' hSw; (try dsimp only at hSw); (first | (go_simp; done) | (go_simp; with_reducible rfl)))
                try simp only [Act.put, List.setIfInBounds_toArray, List.set_cons_zero, List.set_cons_succ]
                refine wpAnyH_take (i := 14) (oi := ⟨some 51, _, _, _, _, _⟩) (v := ?_) rfl (by kernel_rfl) (by kernel_rfl) (by kernel_rfl) (fun _ _ _ h => h) (Or.inl ⟨by rfl, ?hyU19⟩) (by assumption) ?rsU19
                case hyU19 => (intro w' hSw; (try dsimp only at hSw); (first | (go_simp; done) | (go_simp; with_reducible rfl)))
                try simp only [Act.put, List.setIfInBounds_toArray, List.set_cons_zero, List.set_cons_succ]
                refine wpAnyH_take (i := 15) (oi := ⟨some 52, _, _, _, _, _⟩) (v := ?_) rfl (by kernel_rfl) (by kernel_rfl) (by kernel_rfl) (fun _ _ _ h => h) (Or.inl ⟨by rfl, ?hyU20⟩) (by assumption) ?rsU20
                case hyU20 => (intro w' hSw; (try dsimp only at hSw); (first | (go_simp; done) | (go_simp; with_reducible rfl)))
                try simp only [Act.put, List.setIfInBounds_toArray, List.set_cons_zero, List.set_cons_succ]
                refine wpAnyH_take (i := 16) (oi := ⟨some 53, _, _, _, _, _⟩) (v := ?_) rfl (by kernel_rfl) (by kernel_rfl) (by kernel_rfl) (fun _ _ _ h => h) (Or.inl ⟨by rfl, ?hyU21⟩) (by assumption) ?rsU21
                case hyU21 => (intro w' hSw; (try dsimp only at hSw); (first | (go_simp; done) | (go_simp; with_reducible rfl)))
                try simp only [Act.put, List.setIfInBounds_toArray, List.set_cons_zero, List.set_cons_succ]
                refine wpAnyH_take (i := 17) (oi := ⟨some 54, _, _, _, _, _⟩) (v := ?_) rfl (by kernel_rfl) (by kernel_rfl) (by kernel_rfl) (fun _ _ _ h => h) (Or.inl ⟨by rfl, ?hyU22⟩) (by assumption) ?rsU22
                case hyU22 => (intro w' hSw; (try dsimp only at hSw); (first | (go_simp; done) | (go_simp; with_reducible rfl)))
                try simp only [Act.put, List.setIfInBounds_toArray, List.set_cons_zero, List.set_cons_succ]
                refine wpAnyH_take (i := 18) (oi := ⟨some 55, _, _, _, _, _⟩) (v := ?_) rfl (by kernel_rfl) (by kernel_rfl) (by kernel_rfl) (fun _ _ _ h => h) (Or.inl ⟨by rfl, ?hyU23⟩) (by assumption) ?rsU23
                case hyU23 => (intro w' hSw; (try dsimp only at hSw); (first | (go_simp; done) | (go_simp; with_reducible rfl)))
                try simp only [Act.put, List.setIfInBounds_toArray, List.set_cons_zero, List.set_cons_succ]
                refine wpAnyH_take (i := 19) (oi := ⟨some 56, _, _, _, _, _⟩) (v := ?_) rfl (by kernel_rfl) (by kernel_rfl) (by kernel_rfl) (fun _ _ _ h => h) (Or.inl ⟨by rfl, ?hyU24⟩) (by assumption) ?rsU24
                case hyU24 => (intro w' hSw; (try dsimp only at hSw); (first | (go_simp; done) | (go_simp; with_reducible rfl)))
                try simp only [Act.put, List.setIfInBounds_toArray, List.set_cons_zero, List.set_cons_succ]
                refine wpAnyH_take (i := 20) (oi := ⟨some 57, _, _, _, _, _⟩) (v := ?_) rfl (by kernel_rfl) (by kernel_rfl) (by kernel_rfl) (fun _ _ _ h => h) (Or.inl ⟨by rfl, ?hyU25⟩) (by assumption) ?rsU25
                case hyU25 => (intro w' hSw; (try dsimp only at hSw); (first | (go_simp; done) | (go_simp; with_reducible rfl)))
                try simp only [Act.put, List.setIfInBounds_toArray, List.set_cons_zero, List.set_cons_succ]
                refine wpAnyH_take (i := 21) (oi := ⟨some 58, _, _, _, _, _⟩) (v := ?_) rfl (by kernel_rfl) (by kernel_rfl) (by kernel_rfl) (fun _ _ _ h => h) (Or.inl ⟨by rfl, ?hyU26⟩) (by assumption) ?rsU26
                case hyU26 => (intro w' hSw; (try dsimp only at hSw); (first | (go_simp; done) | (go_simp; with_reducible rfl)))
                try simp only [Act.put, List.setIfInBounds_toArray, List.set_cons_zero, List.set_cons_succ]
                refine wpAnyH_take (i := 22) (oi := ⟨some 59, _, _, _, _, _⟩) (v := ?_) rfl (by kernel_rfl) (by kernel_rfl) (by kernel_rfl) (fun _ _ _ h => h) (Or.inl ⟨by rfl, ?hyU27⟩) (by assumption) ?rsU27
                case hyU27 => (intro w' hSw; (try dsimp only at hSw); (first | (go_simp; done) | (go_simp; with_reducible rfl)))
                try simp only [Act.put, List.setIfInBounds_toArray, List.set_cons_zero, List.set_cons_succ]
                refine wpAnyH_take (i := 23) (oi := ⟨some 60, _, _, _, _, _⟩) (v := ?_) rfl (by kernel_rfl) (by kernel_rfl) (by kernel_rfl) (fun _ _ _ h => h) (Or.inl ⟨by rfl, ?hyU28⟩) (by assumption) ?rsU28
                case hyU28 => (intro w' hSw; (try dsimp only at hSw); (first | (go_simp; done) | (go_simp; with_reducible rfl)))
                try simp only [Act.put, List.setIfInBounds_toArray, List.set_cons_zero, List.set_cons_succ]
                refine wpAnyH_done (by kernel_rfl) ?_ _
                try dsimp only
                go_wp2_with fail
                go_ret2
                rw [HE.out]
                have hg := ROpenEnd.good (M0.out.quiet HF52.out)
                rw [show (w3.alloc o52).drew.heap.size = w3.heap.size + 1 by simp] at hg
                exact hg
              · have HE : Aside0 (openD D = (6, D)) := ⟨by rw [HN2.out, if_pos ⟨rfl, b2⟩]⟩
                have e1 : (sn != 0) = true := by simpa using b2
                refine wpAnyH_take (i := 10) (oi := ⟨some 47, _, _, _, _, _⟩) (v := ?_) rfl (by kernel_rfl) (by kernel_rfl) (by kernel_rfl) (fun _ _ _ h => h) (Or.inl ⟨by rfl, ?hyU29⟩) (by assumption) ?rsU29
                case hyU29 => (intro w' hSw; (try dsimp only at hSw); (first | (go_simp; done) | (go_simp; with_reducible rfl)))
                try simp only [Act.put, List.setIfInBounds_toArray, List.set_cons_zero, List.set_cons_succ]
                refine wpAnyH_take (i := 11) (oi := ⟨some 48, _, _, _, _, _⟩) (v := ?_) rfl (by kernel_rfl) (by kernel_rfl) (by kernel_rfl) (fun _ _ _ h => h) (Or.inl ⟨by rfl, ?hyU30⟩) (by assumption) ?rsU30
                case hyU30 => (intro w' hSw; (try dsimp only at hSw); (first | (go_simp; done) | (go_simp; with_reducible rfl)))
                try simp only [Act.put, List.setIfInBounds_toArray, List.set_cons_zero, List.set_cons_succ]
                refine wpAnyH_take (i := 12) (oi := ⟨some 49, _, _, _, _, _⟩) (v := ?_) rfl (by kernel_rfl) (by kernel_rfl) (by kernel_rfl) (fun _ _ _ h => h) (Or.inl ⟨by rfl, ?hyU31⟩) (by assumption) ?rsU31
                case hyU31 => (intro w' hSw; (try dsimp only at hSw); (first | (go_simp; done) | (go_simp; with_reducible rfl)))
                try simp only [Act.put, List.setIfInBounds_toArray, List.set_cons_zero, List.set_cons_succ]
                refine wpAnyH_take (i := 13) (oi := ⟨some 50, _, _, _, _, _⟩) (v := ?_) rfl (by kernel_rfl) (by kernel_rfl) (by kernel_rfl) (fun _ _ _ h => h) (Or.inl ⟨by rfl, ?hyU32⟩) (by assumption) ?rsU32
                case hyU32 => (intro w' hSw; (try dsimp only at hSw); (first | (go_simp; done) | (go_simp; with_reducible rfl)))
                try simp only [Act.put, List.setIfInBounds_toArray, List.set_cons_zero, List.set_cons_succ]
                refine wpAnyH_take (i := 14) (oi := ⟨some 51, _, _, _, _, _⟩) (v := ?_) rfl (by kernel_rfl) (by kernel_rfl) (by kernel_rfl) (fun _ _ _ h => h) (Or.inl ⟨by rfl, ?hyU33⟩) (by assumption) ?rsU33
                case hyU33 => (intro w' hSw; (try dsimp only at hSw); (first | (go_simp; done) | (go_simp; with_reducible rfl)))
                try simp only [Act.put, List.setIfInBounds_toArray, List.set_cons_zero, List.set_cons_succ]
                refine wpAnyH_take (i := 15) (oi := ⟨some 52, _, _, _, _, _⟩) (v := ?_) rfl (by kernel_rfl) (by kernel_rfl) (by kernel_rfl) (fun _ _ _ h => h) (Or.inl ⟨by rfl, ?hyU34⟩) (by assumption) ?rsU34
                case hyU34 => (intro w' hSw; (try dsimp only at hSw); (first | (go_simp; done) | (go_simp; with_reducible rfl)))
                try simp only [Act.put, List.setIfInBounds_toArray, List.set_cons_zero, List.set_cons_succ]
                refine wpAnyH_take (i := 16) (oi := ⟨some 53, _, _, _, _, _⟩) (v := ?_) rfl (by kernel_rfl) (by kernel_rfl) (by kernel_rfl) (fun _ _ _ h => h) (Or.inl ⟨by rfl, ?hyU35⟩) (by assumption) ?rsU35
                case hyU35 => (intro w' hSw; (try dsimp only at hSw); (first | (go_simp; done) | (go_simp; with_reducible rfl)))
                try simp only [Act.put, List.setIfInBounds_toArray, List.set_cons_zero, List.set_cons_succ]
                refine wpAnyH_take (i := 17) (oi := ⟨some 54, _, _, _, _, _⟩) (v := ?_) rfl (by kernel_rfl) (by kernel_rfl) (by kernel_rfl) (fun _ _ _ h => h) (Or.inl ⟨by rfl, ?hyU36⟩) (by assumption) ?rsU36
                case hyU36 => (intro w' hSw; (try dsimp only at hSw); (first | (go_simp; done) | (go_simp; with_reducible rfl)))
                try simp only [Act.put, List.setIfInBounds_toArray, List.set_cons_zero, List.set_cons_succ]
                refine wpAnyH_take (i := 18) (oi := ⟨some 55, _, _, _, _, _⟩) (v := ?_) rfl (by kernel_rfl) (by kernel_rfl) (by kernel_rfl) (fun _ _ _ h => h) (Or.inl ⟨by rfl, ?hyU37⟩) (by assumption) ?rsU37
                case hyU37 => (intro w' hSw; (try dsimp only at hSw); (first | (go_simp; done) | (go_simp; with_reducible rfl)))
                try simp only [Act.put, List.setIfInBounds_toArray, List.set_cons_zero, List.set_cons_succ]
                refine wpAnyH_take (i := 19) (oi := ⟨some 56, _, _, _, _, _⟩) (v := ?_) rfl (by kernel_rfl) (by kernel_rfl) (by kernel_rfl) (fun _ _ _ h => h) (Or.inl ⟨by rfl, ?hyU38⟩) (by assumption) ?rsU38
                case hyU38 => (intro w' hSw; (try dsimp only at hSw); (first | (go_simp; done) | (go_simp; with_reducible rfl)))
                try simp only [Act.put, List.setIfInBounds_toArray, List.set_cons_zero, List.set_cons_succ]
                refine wpAnyH_take (i := 20) (oi := ⟨some 57, _, _, _, _, _⟩) (v := ?_) rfl (by kernel_rfl) (by kernel_rfl) (by kernel_rfl) (fun _ _ _ h => h) (Or.inl ⟨by rfl, ?hyU39⟩) (by assumption) ?rsU39
                case hyU39 => (intro w' hSw; (try dsimp only at hSw); (first | (go_simp; done) | (go_simp; with_reducible rfl)))
                try simp only [Act.put, List.setIfInBounds_toArray, List.set_cons_zero, List.set_cons_succ]
                refine wpAnyH_take (i := 21) (oi := ⟨some 58, _, _, _, _, _⟩) (v := ?_) rfl (by kernel_rfl) (by kernel_rfl) (by kernel_rfl) (fun _ _ _ h => h) (Or.inl ⟨by rfl, ?hyU40⟩) (by assumption) ?rsU40
                case hyU40 => (intro w' hSw; (try dsimp only at hSw); (first | (go_simp; done) | (go_simp; with_reducible rfl)))
                try simp only [Act.put, List.setIfInBounds_toArray, List.set_cons_zero, List.set_cons_succ]
                refine wpAnyH_take (i := 22) (oi := ⟨some 59, _, _, _, _, _⟩) (v := ?_) rfl (by kernel_rfl) (by kernel_rfl) (by kernel_rfl) (fun _ _ _ h => h) (Or.inl ⟨by rfl, ?hyU41⟩) (by assumption) ?rsU41
                case hyU41 => (intro w' hSw; (try dsimp only at hSw); (first | (go_simp; done) | (go_simp; with_reducible rfl)))
                try simp only [Act.put, List.setIfInBounds_toArray, List.set_cons_zero, List.set_cons_succ]
                refine wpAnyH_take (i := 23) (oi := ⟨some 60, _, _, _, _, _⟩) (v := ?_) rfl (by kernel_rfl) (by kernel_rfl) (by kernel_rfl) (fun _ _ _ h => h) (Or.inl ⟨by rfl, ?hyU42⟩) (by assumption) ?rsU42
                case hyU42 => (intro w' hSw; (try dsimp only at hSw); (first | (go_simp; done) | (go_simp; with_reducible rfl)))
                try simp only [Act.put, List.setIfInBounds_toArray, List.set_cons_zero, List.set_cons_succ]
                refine wpAnyH_done (by kernel_rfl) ?_ _
                try dsimp only
                go_wp2_with fail
                go_ret2
                rw [HE.out]
                exact ROpenEnd.bad (M0.out.quiet HF52.out) (by decide)
            · have b3' : (cn == 0) = false := by simpa using b3
              have HN5 : Aside0 (openD D = if leftE D cn.toNat sn ≠ 0 then (leftE D cn.toNat sn, D) else finishD (leftW D cn.toNat) D) := ⟨by rw [HN2.out, if_neg (fun h => b3 h.1), HSB.out, if_neg (by simp), if_neg b3]⟩
              refine wpAnyH_take (i := 10) (oi := ⟨some 47, _, _, _, _, _⟩) (v := ?_) rfl (by kernel_rfl) (by kernel_rfl) (by kernel_rfl) (fun _ _ _ h => h) (Or.inl ⟨by rfl, ?hyU43⟩) (by assumption) ?rsU43
              case hyU43 => (intro w' hSw; (try dsimp only at hSw); (first | (go_simp; done) | (go_simp; with_reducible rfl)))
              try simp only [Act.put, List.setIfInBounds_toArray, List.set_cons_zero, List.set_cons_succ]
              refine wpAnyH_take (i := 11) (oi := ⟨some 48, _, _, _, _, _⟩) (v := ?_) rfl (by kernel_rfl) (by kernel_rfl) (by kernel_rfl) (fun _ _ _ h => h) (Or.inl ⟨by rfl, ?hyU44⟩) (by assumption) ?rsU44
              case hyU44 => (intro w' hSw; (try dsimp only at hSw); (first | (go_simp; done) | (go_simp; with_reducible rfl)))
              try simp only [Act.put, List.setIfInBounds_toArray, List.set_cons_zero, List.set_cons_succ]
              refine wpAnyH_take (i := 12) (oi := ⟨some 49, _, _, _, _, _⟩) (v := ?_) rfl (by kernel_rfl) (by kernel_rfl) (by kernel_rfl) (fun _ _ _ h => h) (Or.inl ⟨by rfl, ?hyU45⟩) (by assumption) ?rsU45
              case hyU45 => (intro w' hSw; (try dsimp only at hSw); (first | (go_simp; done) | (go_simp; with_reducible rfl)))
              try simp only [Act.put, List.setIfInBounds_toArray, List.set_cons_zero, List.set_cons_succ]
              refine wpAnyH_take (i := 13) (oi := ⟨some 50, _, _, _, _, _⟩) (v := ?_) rfl (by kernel_rfl) (by kernel_rfl) (by kernel_rfl) (fun _ _ _ h => h) (Or.inl ⟨by rfl, ?hyU46⟩) (by assumption) ?rsU46
              case hyU46 => (intro w' hSw; (try dsimp only at hSw); (first | (go_simp; done) | (go_simp; with_reducible rfl)))
              try simp only [Act.put, List.setIfInBounds_toArray, List.set_cons_zero, List.set_cons_succ]
              refine wpAnyH_take (i := 14) (oi := ⟨some 51, _, _, _, _, _⟩) (v := ?_) rfl (by kernel_rfl) (by kernel_rfl) (by kernel_rfl) (fun _ _ _ h => h) (Or.inl ⟨by rfl, ?hyU47⟩) (by assumption) ?rsU47
              case hyU47 => (intro w' hSw; (try dsimp only at hSw); (first | (go_simp; done) | (go_simp; with_reducible rfl)))
              try simp only [Act.put, List.setIfInBounds_toArray, List.set_cons_zero, List.set_cons_succ]
              refine wpAnyH_take (i := 15) (oi := ⟨some 52, _, _, _, _, _⟩) (v := ?_) rfl (by kernel_rfl) (by kernel_rfl) (by kernel_rfl) (fun _ _ _ h => h) (Or.inl ⟨by rfl, ?hyU48⟩) (by assumption) ?rsU48
              case hyU48 => (intro w' hSw; (try dsimp only at hSw); (first | (go_simp; done) | (go_simp; with_reducible rfl)))
              try simp only [Act.put, List.setIfInBounds_toArray, List.set_cons_zero, List.set_cons_succ]
              refine wpAnyH_take (i := 16) (oi := ⟨some 53, _, _, _, _, _⟩) (v := ?_) rfl (by kernel_rfl) (by kernel_rfl) (by kernel_rfl) (fun _ _ _ h => h) (Or.inl ⟨by rfl, ?hyU49⟩) (by assumption) ?rsU49
              case hyU49 => (intro w' hSw; (try dsimp only at hSw); (first | (go_simp; done) | (go_simp; with_reducible rfl)))
              try simp only [Act.put, List.setIfInBounds_toArray, List.set_cons_zero, List.set_cons_succ]
              refine wpAnyH_take (i := 17) (oi := ⟨some 54, _, _, _, _, _⟩) (v := ?_) rfl (by kernel_rfl) (by kernel_rfl) (by kernel_rfl) (fun _ _ _ h => h) (Or.inl ⟨by rfl, ?hyU50⟩) (by assumption) ?rsU50
              case hyU50 => (intro w' hSw; (try dsimp only at hSw); (first | (go_simp; done) | (go_simp; with_reducible rfl)))
              try simp only [Act.put, List.setIfInBounds_toArray, List.set_cons_zero, List.set_cons_succ]
              refine wpAnyH_take (i := 18) (oi := ⟨some 55, _, _, _, _, _⟩) (v := ?_) rfl (by kernel_rfl) (by kernel_rfl) (by kernel_rfl) (fun _ _ _ h => h) (Or.inl ⟨by rfl, ?hyU51⟩) (by assumption) ?rsU51
              case hyU51 => (intro w' hSw; (try dsimp only at hSw); (first | (go_simp; done) | (go_simp; with_reducible rfl)))
              try simp only [Act.put, List.setIfInBounds_toArray, List.set_cons_zero, List.set_cons_succ]
              refine wpAnyH_take (i := 19) (oi := ⟨some 56, _, _, _, _, _⟩) (v := ?_) rfl (by kernel_rfl) (by kernel_rfl) (by kernel_rfl) (fun _ _ _ h => h) (Or.inl ⟨by rfl, ?hyU52⟩) (by assumption) ?rsU52
              case hyU52 => (intro w' hSw; (try dsimp only at hSw); (first | (go_simp; done) | (go_simp; with_reducible rfl)))
              try simp only [Act.put, List.setIfInBounds_toArray, List.set_cons_zero, List.set_cons_succ]
              refine wpAnyH_take (i := 20) (oi := ⟨some 57, _, _, _, _, _⟩) (v := undef) rfl (by kernel_rfl) (by kernel_rfl) (by kernel_rfl) (fun _ _ _ h => h) (Or.inr ⟨by rfl, rfl⟩) (by assumption) ?_
              try simp only [Act.put, List.setIfInBounds_toArray, List.set_cons_zero, List.set_cons_succ]
              refine wpAnyH_take (i := 21) (oi := ⟨some 58, _, _, _, _, _⟩) (v := undef) rfl (by kernel_rfl) (by kernel_rfl) (by kernel_rfl) (fun _ _ _ h => h) (Or.inr ⟨by rfl, rfl⟩) (by assumption) ?_
              try simp only [Act.put, List.setIfInBounds_toArray, List.set_cons_zero, List.set_cons_succ]
              refine wpAnyH_take (i := 22) (oi := ⟨some 59, _, _, _, _, _⟩) (v := ?_) rfl (by kernel_rfl) (by kernel_rfl) (by kernel_rfl) (fun _ _ _ h => h) (Or.inl ⟨by rfl, ?hyU55⟩) (by assumption) ?rsU55
              case hyU55 => (intro w' hSw; (try dsimp only at hSw); (first | (go_simp; done) | (go_simp; with_reducible rfl)))
              try simp only [Act.put, List.setIfInBounds_toArray, List.set_cons_zero, List.set_cons_succ]
              refine wpAnyH_take (i := 23) (oi := ⟨some 60, _, _, _, _, _⟩) (v := ?_) rfl (by kernel_rfl) (by kernel_rfl) (by kernel_rfl) (fun _ _ _ h => h) (Or.inl ⟨by rfl, ?hyU56⟩) (by assumption) ?rsU56
              case hyU56 => (intro w' hSw; (try dsimp only at hSw); (first | (go_simp; done) | (go_simp; with_reducible rfl)))
              try simp only [Act.put, List.setIfInBounds_toArray, List.set_cons_zero, List.set_cons_succ]
              refine wpAnyH_done (by kernel_rfl) ?_ _
              try dsimp only
              go_wp2_with fail
              obtain ⟨W5, hW5⟩ : ∃ W5, (w3.alloc o52).drew = W5 := ⟨_, rfl⟩
              rw [hW5] at HF52 HF52b ⊢
              obtain ⟨n, hn'⟩ : ∃ n : Nat, cn.toNat = n := ⟨_, rfl⟩
              have HNN : Aside0 ((n : Int) = cn) := ⟨by omega⟩
              rw [hn'] at HN5
              have hn1 : 1 ≤ n := by omega
              have hn64 : n ≤ 64 := by omega
              obtain rfl : cn = (n : Int) := by omega
              have HBW0 := Aside0.mk (Below.refl W5.heap.size W5)
              have HO0 : Aside0 (W5.ownsRow W5.heap.size 5 1 (.slice none 0 0) (sectL D 1 0).length (nums .u8 (sectL D 1 0))) := ⟨⟨rfl, .inl ⟨rfl, rfl⟩⟩⟩
              have SL : Aside0 (∀ (a : Int) (n : Nat), 0 ≤ a → a + n ≤ m → (sectL D a n).length = n * 64) := ⟨fun a n h1 h2 => H.out.sectL_length h1 n (by rw [HM.out]; exact h2)⟩
              have RL : Aside0 (∀ (k : Int), 0 ≤ k → k < m → (rd64 D k).length = 64) := ⟨fun k h1 h2 => H.out.rd64_length h1 (by rw [HM.out]; exact h2)⟩
              clear hHeld b3' hW5 hn' HF52b HF3b HF3 HF1 HD HN HN2 HSB HSAME HL4 HZ12 CC CZf M52 k1 k2 b3 b1 b1' C4 C12 h4 HL HOW HA
              go_wp2_with fail
              go_loopg [9, 11, 12, 13] 4 (fun kq v9 v11 v12 v13 W => ∃ (k : Nat), v11 = .int .i64 (k : Int) ∧ Aside0 (k + kq = 4) ∧ Aside0 (W.ownsRow W5.heap.size 5 1 v9 (sectL D 1 k).length (nums .u8 (sectL D 1 k))) ∧ Aside0 (Below W5.heap.size W5 W))
              case atStart => exact ⟨0, rfl, ⟨by omega⟩, HO0, HBW0⟩
              case round =>
                clear HO0 HBW0
                obtain ⟨k, rfl, HI, HO9, HB9⟩ := hrel
                have hk0 : (0 : Int) ≤ (k : Int) := by omega
                cases gk with
                | zero =>
                  have hk : k = 4 := by have := HI.out; omega
                  subst hk
                  go_wp2_with fail
                  have hP1 : (sectL D 1 4).length = 256 := by have := SL.out 1 4 (by omega) (by omega); omega
                  have ho9 := HO9.out
                  rw [hP1] at ho9
                  obtain ⟨g9, c9, rfl, hz9⟩ := ho9.form (by omega)
                  obtain ⟨hcap9, hC9⟩ := own_reads64 ho9 hP1
                  obtain ⟨W6, rfl⟩ : ∃ W6, W6 = wr := ⟨_, rfl⟩
                  have HP1 := Aside0.mk hP1
                  have HPL : Aside0 ((placesOf D n).length = 4 * n) := ⟨by unfold placesOf; rw [List.length_take, hP1]; omega⟩
                  have HPB : Aside0 (BytL (placesOf D n)) := ⟨(HBy.out.sect 1 4).take _⟩
                  have HC9 : Aside0 (∀ W, Below W6.heap.size W6 W → Kd.C (Kd.int .u8) W (some ⟨g9, 0, none⟩) (4 * n) (placesOf D n)) := ⟨fun W hb => C_takeAt (Kd.C_below hC9 hb) hP1 (by omega)⟩
                  have HF6 : Aside0 (Fr (fun _ => False) w W6) := ⟨HF52.out.trans (Fr.of_below HB9.out (fun _ => False)) (fun _ h => h.elim)⟩
                  have HBW1 := Aside0.mk (Below.refl W6.heap.size W6)
                  have HO1 : Aside0 (W6.ownsRow W6.heap.size 5 1 (.slice none 0 0) (sectL D 5 0).length (nums .u8 (sectL D 5 0))) := ⟨⟨rfl, .inl ⟨rfl, rfl⟩⟩⟩
                  clear ho9 hC9 hz9 HO9 HB9 HI hP1
                  go_loopg [10, 14, 15, 16] n (fun kq v10 v14 v15 v16 W => ∃ (k : Nat), v14 = .int .i64 (k : Int) ∧ Aside0 (k + kq = n) ∧ Aside0 (W.ownsRow W6.heap.size 5 1 v10 (sectL D 5 k).length (nums .u8 (sectL D 5 k))) ∧ Aside0 (Below W6.heap.size W6 W))
                  case atStart => exact ⟨0, rfl, ⟨by omega⟩, HO1, HBW1⟩
                  case round =>
                    clear HO1 HBW1
                    obtain ⟨k, rfl, HI, HO9, HB9⟩ := hrel
                    have hk0 : (0 : Int) ≤ (k : Int) := by omega
                    cases gk with
                    | zero =>
                      have hk : k = n := by have := HI.out; omega
                      subst hk
                      have hP1 : (sectL D 5 k).length = k * 64 := SL.out 5 k (by omega) (by omega)
                      have ho9 := HO9.out
                      rw [hP1] at ho9
                      obtain ⟨g10, c10, rfl, hz10⟩ := ho9.form (by omega)
                      obtain ⟨hcap10, hC10⟩ := own_reads64 ho9 hP1
                      obtain ⟨W7, rfl⟩ : ∃ W7, W7 = wr := ⟨_, rfl⟩
                      have HDL := Aside0.mk hP1
                      have HC10 : Aside0 (∀ W, Below W7.heap.size W7 W → Kd.C (Kd.int .u8) W (some ⟨g10, 0, none⟩) (k * 64) (sectL D 5 k)) := ⟨fun W hb => Kd.C_below hC10 hb⟩
                      have HG10 : Aside0 (W6.heap.size ≤ g10) := ⟨hz10.1⟩
                      have HC9' := Aside0.mk (HC9.out W7 HB9.out)
                      have HO0 : Aside0 (Kd.R (Kd.int .u8) 5 (W7.alloc (.cells #[] 5)) W7.heap.size (fun b => W7.heap.size ≤ b) (.slice (some ⟨W7.heap.size, 0, none⟩) 0 0) ([] : List Int)) := ⟨Kd.R_of_own (enc := Value.int .u8) (h1 := fun _ => rfl) ⟨rfl, .inr ⟨W7.heap.size, 0, #[], rfl, Nat.le_refl _, heap_alloc_new _ _, Nat.le_refl _, by decide, rfl, rfl⟩⟩ (fun b e => by cases e; exact Nat.le_refl _)⟩
                      have HB0 : Aside0 (Below W7.heap.size W7 (W7.alloc (.cells #[] 5))) := ⟨(Below.refl _ _).alloc (Nat.le_refl _) _⟩
                      have sl1 := cutH g9 256 c9 (4 * k) (by omega) (by omega) (4 * (k : Int)) (by omega)
                      have hpl9 := HPL.out
                      have hdl9 := HDL.out
                      clear ho9 hC10 hz10 HO9 HI hP1
                      go_wp2_with (first
                        | ((with_reducible refine gate_builtin (b := .append) (xs := #[.tmp 97, .tmp 101]) rfl ?_); at_builtin; refine Kd.R_append_rows (Kd.int .u8) (w0 := W7) W7.heap.size rfl (.tmp 97) (.tmp 101) 22 5 (.int .u8 0) 1 rfl Try.underlying22 info5 rfl (by decide) (by omega) _ [] (placesOf D k) _ _ _ (fun b => W7.heap.size ≤ b) (fun _ => False) rfl rfl HO0.out (Kd.C_below HC9'.out HB0.out) (fun _ _ h => h) (fun _ h => h.elim) (fun b h => Nat.le_trans HB0.out.size h) HB0.out HB0.out.size (by simp only [List.length_nil]; omega) ?_; intro va wa q1 q2 q3 q4; have HRA := Aside0.mk q1; have HBA := Aside0.mk q2; clear q1 q2 q3 q4 HO0 HB0)
                        | ((with_reducible refine gate_builtin (b := .append) (xs := #[.tmp 102, .tmp 103]) rfl ?_); at_builtin; refine Kd.R_append_rows (Kd.int .u8) (w0 := W7) W7.heap.size rfl (.tmp 102) (.tmp 103) 22 5 (.int .u8 0) 1 rfl Try.underlying22 info5 rfl (by decide) (by omega) va ([] ++ placesOf D k) (sectL D 5 k) _ _ _ (fun b => W7.heap.size ≤ b) (fun _ => False) rfl rfl HRA.out (HC10.out _ HBA.out) (fun _ _ h => h) (fun _ h => h.elim) (fun b h => Nat.le_trans HBA.out.size h) HBA.out HBA.out.size (by rw [List.nil_append, HPL.out]; omega) ?_; intro vb wb q1 q2 q3 q4; obtain ⟨Ab, cb, rfl, hcb, Cb⟩ := Kd.R_reads q1; have HBB := Aside0.mk q2; have SM := Aside0.mk (rsum_calls Ab cb _ wb Cb hcb); clear q1 q2 q3 q4 HRA HBA hcb Cb))
                      obtain ⟨s0, hs0⟩ : ∃ s, sumV (placesOf D k ++ sectL D 5 k) = s := ⟨_, rfl⟩
                      have HS0 := Aside0.mk hs0
                      replace SM := SM.out
                      rw [List.nil_append, List.length_append, HPL.out, HDL.out, hs0] at SM
                      replace SM := Aside0.mk SM
                      clear hs0 HC9' sl1 hpl9 hdl9
                      with_reducible refine SM.out.mono ?_
                      rintro e wc ⟨rfl, fc⟩
                      have HBC : Aside0 (Below W7.heap.size W7 wc) := ⟨HBB.out.trans (fc.below (fun _ h => h.elim) HBB.out.size)⟩
                      have HBC6 : Aside0 (Below W6.heap.size W6 wc) := ⟨HB9.out.trans (HBC.out.mono HB9.out.size)⟩
                      have HFC : Aside0 (Fr (fun _ => False) w wc) := ⟨HF6.out.trans (Fr.of_below HBC6.out (fun _ => False)) (fun _ h => h.elim)⟩
                      clear fc SM HBB
                      by_cases hs : s0 = sn
                      · subst hs
                        have HF0 : Aside0 (wc.ownsRow wc.heap.size 105 2 (.slice none 0 0) 0 (encV g10 c10 (placesOf D k) 0)) := ⟨⟨rfl, .inl ⟨rfl, rfl⟩⟩⟩
                        have HBW := Aside0.mk (Below.refl wc.heap.size wc)
                        have HOK : Aside0 (okPl (m - 69) (placesOf D k) 0 = true) := ⟨rfl⟩
                        have SC9 : Aside0 (∀ W, Fr (fun _ => False) w W → Calls Try.prog 25 #[.pointer (some ⟨r, 0, none⟩)] W fun e w' => e = .returned (.int .i64 m) ∧ Drawn0 W w') := ⟨fun W f => by have := rsectors_calls r R D W (H.out.fr f (fun _ _ h => h)); rwa [HM.out] at this⟩
                        go_wp2_with fail
                        go_loopg [17, 18, 19] k (fun kq v17 v18 v19 W => ∃ (j : Nat), v18 = .int .i64 (j : Int) ∧ Aside0 (j + kq = k) ∧ Aside0 (okPl (m - 69) (placesOf D k) j = true) ∧ Aside0 (W.ownsRow wc.heap.size 105 2 v17 j (encV g10 c10 (placesOf D k) j)) ∧ Aside0 (Below wc.heap.size wc W))
                        case atStart => exact ⟨0, rfl, ⟨by omega⟩, HOK, HF0, HBW⟩
                        case round =>
                          clear HF0 HBW HOK
                          obtain ⟨j, rfl, HJ, HOK, HF, HBW⟩ := hrel
                          have hj0 : (0 : Int) ≤ (j : Int) := by omega
                          cases gk with
                          | zero =>
                            have hj : j = k := by have := HJ.out; omega
                            subst hj
                            obtain ⟨gR, cR, rfl, hzR⟩ := HF.out.form (by omega)
                            have hsz : w.heap.size ≤ W6.heap.size := HF6.out.size
                            have hsz2 : W6.heap.size ≤ wc.heap.size := HBC6.out.size
                            have hE : leftE D j s0 = 0 := by
                              unfold leftE
                              rw [HS0.out, if_neg (by simp), HM.out, if_pos HOK.out]
                            have HE : Aside0 (openD D = finishD (leftW D j) D) := ⟨by rw [HN5.out, hE, if_neg (by simp)]⟩
                            have HFW : Aside0 (Fr (fun _ => False) w wr) := ⟨HFC.out.trans (Fr.of_below HBW.out (fun _ => False)) (fun _ h => h.elim)⟩
                            have hRd : ∀ W', Fr R wr W' → Kd.C k105 W' (some ⟨gR, 0, none⟩) j ((leftW D j).map r105) := fun W' f' => by
                              have d1 := HC10.out wr (HBC.out.trans (HBW.out.mono HBC.out.size))
                              have d2 := C_fr (0 : Int) d1 f' (fun ad e _ hb => by injection e with e; subst e; have h1 := H.out.lt _ hb; have h2 := HG10.out; simp only at h1; omega)
                              have r2 := ownsRow_kept (w' := W') HF.out (fun b e => f'.keep b (own_lt HF.out b e) (fun hb => by have := H.out.lt _ hb; have := own_base HF.out b e; omega))
                              exact left_read5 r2 d2 HDL.out hcap10 (by omega)
                            have DC := rdone_calls r R D (some ⟨gR, 0, none⟩) cR j ((leftW D j).map r105) wr i (H.out.fr HFW.out (fun _ _ h => h)) HO.out (by omega) (by rw [List.length_map]; exact leftL_length _ _ _) hRd (fun x hx => by
                              obtain ⟨y, hy, rfl⟩ := List.mem_map.1 hx
                              have := leftE_ok hE y hy
                              rw [HM.out] at this
                              exact ⟨this.1, by have := this.2; show y.f0 ≤ 1000000; omega⟩)
                            rw [jw_r105] at DC
                            replace DC := Aside0.mk DC
                            obtain ⟨q, hq⟩ : ∃ q, finishD (leftW D j) D = q := ⟨_, rfl⟩
                            rw [hq] at DC HE
                            obtain ⟨q1, D3⟩ := q
                            clear hRd hE hq hzR hsz hsz2
                            go_wp2_with fail
                            refine DC.out.mono ?_
                            rintro e w8 ⟨rfl, m8⟩
                            have M8 := Aside0.mk (m8.ahead HFW.out)
                            clear m8 DC
                            by_cases hz2 : q1 = 0
                            · subst hz2
                              go_wp2_with fail
                              go_ret2
                              rw [HE.out]
                              exact ROpenEnd.good M8.out
                            · have e1 : (q1 != 0) = true := by simpa using hz2
                              go_wp2_with fail
                              go_ret2
                              rw [HE.out]
                              exact ROpenEnd.bad M8.out hz2
                          | succ k1 =>
                            have hj1 : (j : Int) < (k : Int) := by have := HJ.out; omega
                            have HJ3 : Aside0 (j + 1 + k1 = k) := ⟨by have := HJ.out; omega⟩
                            have NC : Aside0 (Calls Try.prog 86 #[.slice (some ⟨g9, 4 * j, none⟩) 4 (c9 - 4 * j)] wr fun e w' => e = .returned (.int .u32 (placeN (placesOf D k) j)) ∧ Drawn0 wr w') := ⟨rnum_at (HC9.out wr (HBC6.out.trans (HBW.out.mono HBC6.out.size))) HPL.out HPB.out (by omega) (by omega)⟩
                            have sl1 := cutA g9 256 c9 (4 * j) (4 * j + 4) (by omega) (by omega) (by omega) (4 * (j : Int)) (4 * (j : Int) + 4) (by omega) (by omega) 4 (c9 - 4 * j) (by omega) rfl
                            have sl2 := cutA g10 (k * 64) c10 (64 * j) (64 * j + 64) (by omega) (by omega) (by omega) (64 * (j : Int)) (64 * (j : Int) + 64) (by omega) (by omega) 64 (c10 - 64 * j) (by omega) rfl
                            have hpr := numL_range ((placesOf D k).drop (4 * j))
                            obtain ⟨pl, hpl⟩ : ∃ pl, placeN (placesOf D k) j = pl := ⟨_, rfl⟩
                            have hpr' : 0 ≤ pl ∧ pl < 4294967296 := by rw [← hpl]; exact hpr
                            obtain ⟨p1, p2⟩ := hpr'
                            rw [hpl] at NC
                            have HPV := Aside0.mk hpl
                            clear hpl hpr
                            go_wp2_with fail
                            refine NC.out.mono ?_
                            rintro e w8 ⟨rfl, hd8⟩
                            have HB8 : Aside0 (Below wc.heap.size wc w8) := ⟨HBW.out.trans ((Drawn0.below hd8).mono HBW.out.size)⟩
                            have HF8 : Aside0 (w8.ownsRow wc.heap.size 105 2 u17 j (encV g10 c10 (placesOf D k) j)) := ⟨ownsRow_kept HF.out (fun b e => (Drawn0.below hd8).block b (own_lt HF.out b e))⟩
                            have SC1 := Aside0.mk (SC9.out w8 (HFC.out.trans (Fr.of_below HB8.out (fun _ => False)) (fun _ h => h.elim)))
                            clear hd8 NC HF HBW sl1
                            go_wp2_with fail
                            refine SC1.out.mono ?_
                            rintro e w9 ⟨rfl, hd9⟩
                            have HB9' : Aside0 (Below wc.heap.size wc w9) := ⟨HB8.out.trans ((Drawn0.below hd9).mono HB8.out.size)⟩
                            have HF9 : Aside0 (w9.ownsRow wc.heap.size 105 2 u17 j (encV g10 c10 (placesOf D k) j)) := ⟨ownsRow_kept HF8.out (fun b e => (Drawn0.below hd9).block b (own_lt HF8.out b e))⟩
                            clear hd9 SC1 HF8 HB8
                            by_cases hp : pl < m - 69
                            · have hp' : ¬ (m - 69 ≤ pl) := by omega
                              have wa : Below w9.heap.size w9 (w9.alloc (.cells #[.int .i64 pl, .slice (some ⟨g10, 64 * j, none⟩) 64 (c10 - 64 * j)] 105)) := (Below.refl _ _).alloc (Nat.le_refl _) _
                              have HB7 : Aside0 (Below wc.heap.size wc (w9.alloc (.cells #[.int .i64 pl, .slice (some ⟨g10, 64 * j, none⟩) 64 (c10 - 64 * j)] 105))) := ⟨HB9'.out.trans (wa.mono HB9'.out.size)⟩
                              have HF7 : Aside0 ((w9.alloc (.cells #[.int .i64 pl, .slice (some ⟨g10, 64 * j, none⟩) 64 (c10 - 64 * j)] 105)).ownsRow wc.heap.size 105 2 u17 j (encV g10 c10 (placesOf D k) j)) := ⟨ownsRow_kept HF9.out (fun b e => wa.block b (own_lt HF9.out b e))⟩
                              have HNW : Aside0 (∀ (q : Nat) (u : Value), [Value.int .i64 pl, .slice (some ⟨g10, 64 * j, none⟩) 64 (c10 - 64 * j)][q]? = some u → (w9.alloc (.cells #[.int .i64 pl, .slice (some ⟨g10, 64 * j, none⟩) 64 (c10 - 64 * j)] 105)).cell? ((⟨w9.heap.size, 0, none⟩ : Addr).add q) = some u) := ⟨fun q u hq => by
                                rw [Addr.add_mid, Nat.zero_add, cell_of_row _ _ _ _ _ _ (heap_alloc_new w9 _), ← hq]
                                exact List.getElem?_toArray⟩
                              have HOK2 : Aside0 (okPl (m - 69) (placesOf D k) (j + 1) = true) := ⟨by
                                rw [okPl, HOK.out, HPV.out]
                                simpa using hp⟩
                              clear wa HF9 HB9'
                              go_simp
                              go_wp2_with ((with_reducible refine gate_builtin (b := .append) (xs := #[.tmp 127, .tmp 138]) rfl ?_); at_builtin; refine wp_app_row rfl (.tmp 127) (.tmp 138) 55 rfl wc.heap.size 105 _ 2 32 Try.underlying55 info105' rfl (by decide) u17 j (encV g10 c10 (placesOf D k) j) rfl HF7.out ⟨w9.heap.size, 0, none⟩ 1 1 [.int .i64 pl, .slice (some ⟨g10, 64 * j, none⟩) 64 (c10 - 64 * j)] rfl rfl HNW.out (by intro u hu; simp at hu; rcases hu with rfl | rfl <;> rfl) (by simp only [maxLen]; omega) (by omega) HB7.out.size ?_; intro v17 W8 h1 h2 h3)
                              have HF8 : Aside0 (W8.ownsRow wc.heap.size 105 2 v17 (j + 1) (encV g10 c10 (placesOf D k) (j + 1))) := ⟨by rw [encV, HPV.out]; exact h1⟩
                              have HB8 : Aside0 (Below wc.heap.size wc W8) := ⟨HB7.out.grown h2 HB7.out.size (fun b e => own_base HF7.out b e)⟩
                              clear h1 h2 h3 HF7 HB7 HNW sl2
                              go_roundg k1
                              case measure => omega
                              case rel => exact ⟨j + 1, by go_num, HJ3, HOK2, HF8, HB8⟩
                            · have hE : Aside0 (leftE D k s0 = 2) := ⟨by
                                unfold leftE
                                rw [HS0.out, if_neg (by simp), HM.out, okPl_false (k := j) (by omega) (by rw [HPV.out]; exact hp), if_neg (by decide)]⟩
                              have hp' : m - 69 ≤ pl := by omega
                              have HE : Aside0 (openD D = (2, D)) := ⟨by rw [HN5.out, hE.out, if_pos (by decide)]⟩
                              go_wp2_with fail
                              go_ret2
                              rw [HE.out]
                              exact ROpenEnd.bad (M0.out.quiet (HFC.out.trans (Fr.of_below HB9'.out (fun _ => False)) (fun _ h => h.elim))) (by decide)
                      · have hsn : (s0 != sn) = true := by simpa using hs
                        have HE : Aside0 (openD D = (240, D)) := ⟨by
                          have e : leftE D k sn = 240 := by unfold leftE; rw [HS0.out, if_pos hs]
                          rw [HN5.out, e, if_pos (by decide)]⟩
                        go_wp2_with fail
                        go_ret2
                        rw [HE.out]
                        exact ROpenEnd.bad (M0.out.quiet HFC.out) (by decide)
                    | succ k1 =>
                      have hk1 : (k : Int) < (n : Int) := by have := HI.out; omega
                      have HI3 : Aside0 (k + 1 + k1 = n) := ⟨by have := HI.out; omega⟩
                      have RC1 := Aside0.mk (RC.out (5 + (k : Int)) wr (by omega) (by omega) (HF6.out.trans (Fr.of_below HB9.out (fun _ => False)) (fun _ h => h.elim)))
                      have HL1 := Aside0.mk (RL.out (5 + (k : Int)) (by omega) (by omega))
                      have HS1 := Aside0.mk (SL.out 5 k (by omega) (by omega))
                      go_wp2_with fail
                      refine RC1.out.mono ?_
                      rintro e w6 ⟨g6, c6, rfl, h1, h3⟩
                      obtain ⟨hc6, hC6⟩ := own_reads64 h1 HL1.out
                      have HA6 : Aside0 (ReadsInt w6 .u8 (some ⟨g6, 0, none⟩) 64 (rd64 D (5 + k))) := ⟨Kd.reads_of_C (enc := Value.int .u8) (d := (0 : Int)) (h1 := fun _ => rfl) hC6⟩
                      have HB6 : Aside0 (Below W6.heap.size W6 w6) := ⟨HB9.out.trans (h3.below (fun _ h => h.elim) HB9.out.size)⟩
                      have HO6 : Aside0 (w6.ownsRow W6.heap.size 5 1 u10 (sectL D 5 k).length (nums .u8 (sectL D 5 k))) := ⟨ownsRow_kept HO9.out (fun b e => h3.keep b (own_lt HO9.out b e) (fun h => h))⟩
                      clear h1 h3 hc6 hC6 RC1 HO9 HB9
                      go_wp2_with ((with_reducible refine gate_builtin (b := .append) (xs := #[.tmp 94, .tmp 95]) rfl ?_); at_builtin; refine print_append_row W6.heap.size rfl (.tmp 94) (.tmp 95) 22 5 .u8 1 rfl Try.underlying22 info5 (by omega) u10 (sectL D 5 k) (rd64 D (5 + k)) (some ⟨g6, 0, none⟩) 64 c6 rfl rfl HO6.out HA6.out HB6.out HB6.out.size (by have := HS1.out; omega) ?_; intro v7 w7 q1 q2 q3 q4)
                      have HO7 : Aside0 (w7.ownsRow W6.heap.size 5 1 v7 (sectL D 5 (k + 1)).length (nums .u8 (sectL D 5 (k + 1)))) := ⟨q1⟩
                      have HB7 := Aside0.mk q2
                      clear q1 q2 q3 q4 HO6 HA6 HB6
                      go_roundg k1
                      case measure => omega
                      case rel => exact ⟨k + 1, by go_num, HI3, HO7, HB7⟩
                | succ k1 =>
                  have hk1 : (k : Int) < 4 := by have := HI.out; omega
                  have HI3 : Aside0 (k + 1 + k1 = 4) := ⟨by have := HI.out; omega⟩
                  have RC1 := Aside0.mk (RC.out (1 + (k : Int)) wr (by omega) (by omega) (HF52.out.trans (Fr.of_below HB9.out (fun _ => False)) (fun _ h => h.elim)))
                  have HL1 := Aside0.mk (RL.out (1 + (k : Int)) (by omega) (by omega))
                  have HS1 := Aside0.mk (SL.out 1 k (by omega) (by omega))
                  go_wp2_with fail
                  refine RC1.out.mono ?_
                  rintro e w6 ⟨g6, c6, rfl, h1, h3⟩
                  obtain ⟨hc6, hC6⟩ := own_reads64 h1 HL1.out
                  have HA6 : Aside0 (ReadsInt w6 .u8 (some ⟨g6, 0, none⟩) 64 (rd64 D (1 + k))) := ⟨Kd.reads_of_C (enc := Value.int .u8) (d := (0 : Int)) (h1 := fun _ => rfl) hC6⟩
                  have HB6 : Aside0 (Below W5.heap.size W5 w6) := ⟨HB9.out.trans (h3.below (fun _ h => h.elim) HB9.out.size)⟩
                  have HO6 : Aside0 (w6.ownsRow W5.heap.size 5 1 u9 (sectL D 1 k).length (nums .u8 (sectL D 1 k))) := ⟨ownsRow_kept HO9.out (fun b e => h3.keep b (own_lt HO9.out b e) (fun h => h))⟩
                  clear h1 h3 hc6 hC6 RC1 HO9 HB9
                  go_wp2_with ((with_reducible refine gate_builtin (b := .append) (xs := #[.tmp 79, .tmp 80]) rfl ?_); at_builtin; refine print_append_row W5.heap.size rfl (.tmp 79) (.tmp 80) 22 5 .u8 1 rfl Try.underlying22 info5 (by omega) u9 (sectL D 1 k) (rd64 D (1 + k)) (some ⟨g6, 0, none⟩) 64 c6 rfl rfl HO6.out HA6.out HB6.out HB6.out.size (by have := HS1.out; omega) ?_; intro v7 w7 q1 q2 q3 q4)
                  have HO7 : Aside0 (w7.ownsRow W5.heap.size 5 1 v7 (sectL D 1 (k + 1)).length (nums .u8 (sectL D 1 (k + 1)))) := ⟨q1⟩
                  have HB7 := Aside0.mk q2
                  clear q1 q2 q3 q4 HO6 HA6 HB6
                  go_roundg k1
                  case measure => omega
                  case rel => exact ⟨k + 1, by go_num, HI3, HO7, HB7⟩
        · have hz2 : (S12.toList == S52.toList) = false := by
            rw [beq_eq_false_iff_ne]
            exact fun e => hz (ByteArray.ext (Array.toList_inj.1 (by rw [ByteArray.toList_eq, ByteArray.toList_eq] at e; exact e)))
          have HE : Aside0 (openD D = (6, D)) := ⟨by
            rw [HN.out]
            split
            · rfl
            · split
              · rfl
              · rw [if_pos]
                cases hs : sameB (rd64 D 0) (headL cn sn) with
                | false => rfl
                | true => exact absurd (HZ12.out.2 (HSAME.out.1 hs).2) hz⟩
          refine wpAnyH_take (i := 10) (oi := ⟨some 47, _, _, _, _, _⟩) (v := ?_) rfl (by kernel_rfl) (by kernel_rfl) (by kernel_rfl) (fun _ _ _ h => h) (Or.inl ⟨by rfl, ?hyU57⟩) (by assumption) ?rsU57
          case hyU57 => (intro w' hSw; (try dsimp only at hSw); (first | (go_simp; done) | (go_simp; with_reducible rfl)))
          try simp only [Act.put, List.setIfInBounds_toArray, List.set_cons_zero, List.set_cons_succ]
          refine wpAnyH_take (i := 11) (oi := ⟨some 48, _, _, _, _, _⟩) (v := ?_) rfl (by kernel_rfl) (by kernel_rfl) (by kernel_rfl) (fun _ _ _ h => h) (Or.inl ⟨by rfl, ?hyU58⟩) (by assumption) ?rsU58
          case hyU58 => (intro w' hSw; (try dsimp only at hSw); (first | (go_simp; done) | (go_simp; with_reducible rfl)))
          try simp only [Act.put, List.setIfInBounds_toArray, List.set_cons_zero, List.set_cons_succ]
          refine wpAnyH_take (i := 12) (oi := ⟨some 49, _, _, _, _, _⟩) (v := ?_) rfl (by kernel_rfl) (by kernel_rfl) (by kernel_rfl) (fun _ _ _ h => h) (Or.inl ⟨by rfl, ?hyU59⟩) (by assumption) ?rsU59
          case hyU59 => (intro w' hSw; (try dsimp only at hSw); (first | (go_simp; done) | (go_simp; with_reducible rfl)))
          try simp only [Act.put, List.setIfInBounds_toArray, List.set_cons_zero, List.set_cons_succ]
          refine wpAnyH_take (i := 13) (oi := ⟨some 50, _, _, _, _, _⟩) (v := undef) rfl (by kernel_rfl) (by kernel_rfl) (by kernel_rfl) (fun _ _ _ h => h) (Or.inr ⟨by rfl, rfl⟩) (by assumption) ?_
          try simp only [Act.put, List.setIfInBounds_toArray, List.set_cons_zero, List.set_cons_succ]
          refine wpAnyH_take (i := 14) (oi := ⟨some 51, _, _, _, _, _⟩) (v := undef) rfl (by kernel_rfl) (by kernel_rfl) (by kernel_rfl) (fun _ _ _ h => h) (Or.inr ⟨by rfl, rfl⟩) (by assumption) ?_
          try simp only [Act.put, List.setIfInBounds_toArray, List.set_cons_zero, List.set_cons_succ]
          refine wpAnyH_take (i := 15) (oi := ⟨some 52, _, _, _, _, _⟩) (v := ?_) rfl (by kernel_rfl) (by kernel_rfl) (by kernel_rfl) (fun _ _ _ h => h) (Or.inl ⟨by rfl, ?hyU62⟩) (by assumption) ?rsU62
          case hyU62 => (intro w' hSw; (try dsimp only at hSw); (first | (go_simp; done) | (go_simp; with_reducible rfl)))
          try simp only [Act.put, List.setIfInBounds_toArray, List.set_cons_zero, List.set_cons_succ]
          refine wpAnyH_take (i := 16) (oi := ⟨some 53, _, _, _, _, _⟩) (v := ?_) rfl (by kernel_rfl) (by kernel_rfl) (by kernel_rfl) (fun _ _ _ h => h) (Or.inl ⟨by rfl, ?hyU63⟩) (by assumption) ?rsU63
          case hyU63 => (intro w' hSw; (try dsimp only at hSw); (first | (go_simp; done) | (go_simp; with_reducible rfl)))
          try simp only [Act.put, List.setIfInBounds_toArray, List.set_cons_zero, List.set_cons_succ]
          refine wpAnyH_take (i := 17) (oi := ⟨some 54, _, _, _, _, _⟩) (v := undef) rfl (by kernel_rfl) (by kernel_rfl) (by kernel_rfl) (fun _ _ _ h => h) (Or.inr ⟨by rfl, rfl⟩) (by assumption) ?_
          try simp only [Act.put, List.setIfInBounds_toArray, List.set_cons_zero, List.set_cons_succ]
          refine wpAnyH_take (i := 18) (oi := ⟨some 55, _, _, _, _, _⟩) (v := undef) rfl (by kernel_rfl) (by kernel_rfl) (by kernel_rfl) (fun _ _ _ h => h) (Or.inr ⟨by rfl, rfl⟩) (by assumption) ?_
          try simp only [Act.put, List.setIfInBounds_toArray, List.set_cons_zero, List.set_cons_succ]
          refine wpAnyH_take (i := 19) (oi := ⟨some 56, _, _, _, _, _⟩) (v := undef) rfl (by kernel_rfl) (by kernel_rfl) (by kernel_rfl) (fun _ _ _ h => h) (Or.inr ⟨by rfl, rfl⟩) (by assumption) ?_
          try simp only [Act.put, List.setIfInBounds_toArray, List.set_cons_zero, List.set_cons_succ]
          refine wpAnyH_take (i := 20) (oi := ⟨some 57, _, _, _, _, _⟩) (v := undef) rfl (by kernel_rfl) (by kernel_rfl) (by kernel_rfl) (fun _ _ _ h => h) (Or.inr ⟨by rfl, rfl⟩) (by assumption) ?_
          try simp only [Act.put, List.setIfInBounds_toArray, List.set_cons_zero, List.set_cons_succ]
          refine wpAnyH_take (i := 21) (oi := ⟨some 58, _, _, _, _, _⟩) (v := undef) rfl (by kernel_rfl) (by kernel_rfl) (by kernel_rfl) (fun _ _ _ h => h) (Or.inr ⟨by rfl, rfl⟩) (by assumption) ?_
          try simp only [Act.put, List.setIfInBounds_toArray, List.set_cons_zero, List.set_cons_succ]
          refine wpAnyH_take (i := 22) (oi := ⟨some 59, _, _, _, _, _⟩) (v := undef) rfl (by kernel_rfl) (by kernel_rfl) (by kernel_rfl) (fun _ _ _ h => h) (Or.inr ⟨by rfl, rfl⟩) (by assumption) ?_
          try simp only [Act.put, List.setIfInBounds_toArray, List.set_cons_zero, List.set_cons_succ]
          refine wpAnyH_take (i := 23) (oi := ⟨some 60, _, _, _, _, _⟩) (v := ?_) rfl (by kernel_rfl) (by kernel_rfl) (by kernel_rfl) (fun _ _ _ h => h) (Or.inl ⟨by rfl, ?hyU70⟩) (by assumption) ?rsU70
          case hyU70 => (intro w' hSw; (try dsimp only at hSw); (first | (go_simp; done) | (go_simp; with_reducible rfl)))
          try simp only [Act.put, List.setIfInBounds_toArray, List.set_cons_zero, List.set_cons_succ]
          refine wpAnyH_done (by kernel_rfl) ?_ _
          try dsimp only
          go_wp2_with fail
          go_ret2
          rw [HE.out]
          exact ROpenEnd.bad (M0.out.quiet HF52.out) (by decide)
      · have HE : Aside0 (openD D = (6, D)) := ⟨by
          rw [HN.out]
          split
          · rfl
          · split
            · rfl
            · rw [if_pos]
              cases hs : sameB (rd64 D 0) (headL cn sn) with
              | false => rfl
              | true => exact absurd (HL4.out.2 (HSAME.out.1 hs).1) h4⟩
        have h4b : (S4.toList == [82, 76, 74, 49]) = false := by
          rw [beq_eq_false_iff_ne]
          exact h4
        clear HSAME HN HL4 HZ12 HL HOW h4
        go_wp2_with fail
        refine wp_region_held_drew (S := fun W => Fr (fun _ => False) w1 W) (by kernel_rfl) HF3.out.drew (fun hHeld => ?_)
        refine wpAnyH_take (i := 0) (oi := ⟨some 37, _, _, _, _, _⟩) (v := ?_) rfl (by kernel_rfl) (by kernel_rfl) (by kernel_rfl) (fun _ _ _ h => h) (Or.inl ⟨by rfl, ?hyT101⟩) (by assumption) ?rsT101
        case hyT101 => (intro w' hSw; (try dsimp only at hSw); (first | (go_simp; done) | (go_simp; with_reducible rfl)))
        try simp only [Act.put, List.setIfInBounds_toArray, List.set_cons_zero, List.set_cons_succ]
        refine wpAnyH_take (i := 1) (oi := ⟨some 38, _, _, _, _, _⟩) (v := ?_) rfl (by kernel_rfl) (by kernel_rfl) (by kernel_rfl) (fun _ _ _ h => h) (Or.inl ⟨by rfl, ?hyT102⟩) (by assumption) ?rsT102
        case hyT102 => (intro w' hSw; (try dsimp only at hSw); (first | (go_simp; done) | (go_simp; with_reducible rfl)))
        try simp only [Act.put, List.setIfInBounds_toArray, List.set_cons_zero, List.set_cons_succ]
        refine wpAnyH_take (i := 2) (oi := ⟨some 39, _, _, _, _, _⟩) (v := ?_) rfl (by kernel_rfl) (by kernel_rfl) (by kernel_rfl) (fun _ _ _ h => h) (Or.inl ⟨by rfl, ?hyT103⟩) (by assumption) ?rsT103
        case hyT103 => (intro w' hSw; (try dsimp only at hSw); have C4w := C4.out w' hSw; (first | (go_simp; done) | (go_simp; with_reducible rfl)))
        try simp only [Act.put, List.setIfInBounds_toArray, List.set_cons_zero, List.set_cons_succ]
        refine wpAnyH_take (i := 3) (oi := ⟨some 40, _, _, _, _, _⟩) (v := ?_) rfl (by kernel_rfl) (by kernel_rfl) (by kernel_rfl) (fun _ _ _ h => h) (Or.inl ⟨by rfl, ?hyT104⟩) (by assumption) ?rsT104
        case hyT104 => (intro w' hSw; (try dsimp only at hSw); (first | (go_simp; done) | (go_simp; with_reducible rfl)))
        try simp only [Act.put, List.setIfInBounds_toArray, List.set_cons_zero, List.set_cons_succ]
        refine wpAnyH_take (i := 4) (oi := ⟨some 41, _, _, _, _, _⟩) (v := ?_) rfl (by kernel_rfl) (by kernel_rfl) (by kernel_rfl) (fun _ _ _ h => h) (Or.inl ⟨by rfl, ?hyT105⟩) (by assumption) ?rsT105
        case hyT105 => (intro w' hSw; (try dsimp only at hSw); (first | (go_simp; done) | (go_simp; with_reducible rfl)))
        try simp only [Act.put, List.setIfInBounds_toArray, List.set_cons_zero, List.set_cons_succ]
        refine wpAnyH_take (i := 5) (oi := ⟨some 42, _, _, _, _, _⟩) (v := undef) rfl (by kernel_rfl) (by kernel_rfl) (by kernel_rfl) (fun _ _ _ h => h) (Or.inr ⟨by rfl, rfl⟩) (by assumption) ?_
        try simp only [Act.put, List.setIfInBounds_toArray, List.set_cons_zero, List.set_cons_succ]
        refine wpAnyH_take (i := 6) (oi := ⟨some 43, _, _, _, _, _⟩) (v := undef) rfl (by kernel_rfl) (by kernel_rfl) (by kernel_rfl) (fun _ _ _ h => h) (Or.inr ⟨by rfl, rfl⟩) (by assumption) ?_
        try simp only [Act.put, List.setIfInBounds_toArray, List.set_cons_zero, List.set_cons_succ]
        refine wpAnyH_take (i := 7) (oi := ⟨some 44, _, _, _, _, _⟩) (v := undef) rfl (by kernel_rfl) (by kernel_rfl) (by kernel_rfl) (fun _ _ _ h => h) (Or.inr ⟨by rfl, rfl⟩) (by assumption) ?_
        try simp only [Act.put, List.setIfInBounds_toArray, List.set_cons_zero, List.set_cons_succ]
        refine wpAnyH_take (i := 8) (oi := ⟨some 45, _, _, _, _, _⟩) (v := undef) rfl (by kernel_rfl) (by kernel_rfl) (by kernel_rfl) (fun _ _ _ h => h) (Or.inr ⟨by rfl, rfl⟩) (by assumption) ?_
        try simp only [Act.put, List.setIfInBounds_toArray, List.set_cons_zero, List.set_cons_succ]
        refine wpAnyH_take (i := 9) (oi := ⟨some 46, _, _, _, _, _⟩) (v := undef) rfl (by kernel_rfl) (by kernel_rfl) (by kernel_rfl) (fun _ _ _ h => h) (Or.inr ⟨by rfl, rfl⟩) (by assumption) ?_
        try simp only [Act.put, List.setIfInBounds_toArray, List.set_cons_zero, List.set_cons_succ]
        refine wpAnyH_take (i := 10) (oi := ⟨some 47, _, _, _, _, _⟩) (v := undef) rfl (by kernel_rfl) (by kernel_rfl) (by kernel_rfl) (fun _ _ _ h => h) (Or.inr ⟨by rfl, rfl⟩) (by assumption) ?_
        try simp only [Act.put, List.setIfInBounds_toArray, List.set_cons_zero, List.set_cons_succ]
        refine wpAnyH_take (i := 11) (oi := ⟨some 48, _, _, _, _, _⟩) (v := ?_) rfl (by kernel_rfl) (by kernel_rfl) (by kernel_rfl) (fun _ _ _ h => h) (Or.inl ⟨by rfl, ?hyT112⟩) (by assumption) ?rsT112
        case hyT112 => (intro w' hSw; (try dsimp only at hSw); (first | (go_simp; done) | (go_simp; with_reducible rfl)))
        try simp only [Act.put, List.setIfInBounds_toArray, List.set_cons_zero, List.set_cons_succ]
        refine wpAnyH_take (i := 12) (oi := ⟨some 49, _, _, _, _, _⟩) (v := ?_) rfl (by kernel_rfl) (by kernel_rfl) (by kernel_rfl) (fun _ _ _ h => h) (Or.inl ⟨by rfl, ?hyT113⟩) (by assumption) ?rsT113
        case hyT113 => (intro w' hSw; (try dsimp only at hSw); (first | (go_simp; done) | (go_simp; with_reducible rfl)))
        try simp only [Act.put, List.setIfInBounds_toArray, List.set_cons_zero, List.set_cons_succ]
        refine wpAnyH_take (i := 13) (oi := ⟨some 50, _, _, _, _, _⟩) (v := undef) rfl (by kernel_rfl) (by kernel_rfl) (by kernel_rfl) (fun _ _ _ h => h) (Or.inr ⟨by rfl, rfl⟩) (by assumption) ?_
        try simp only [Act.put, List.setIfInBounds_toArray, List.set_cons_zero, List.set_cons_succ]
        refine wpAnyH_take (i := 14) (oi := ⟨some 51, _, _, _, _, _⟩) (v := undef) rfl (by kernel_rfl) (by kernel_rfl) (by kernel_rfl) (fun _ _ _ h => h) (Or.inr ⟨by rfl, rfl⟩) (by assumption) ?_
        try simp only [Act.put, List.setIfInBounds_toArray, List.set_cons_zero, List.set_cons_succ]
        refine wpAnyH_take (i := 15) (oi := ⟨some 52, _, _, _, _, _⟩) (v := ?_) rfl (by kernel_rfl) (by kernel_rfl) (by kernel_rfl) (fun _ _ _ h => h) (Or.inl ⟨by rfl, ?hyT116⟩) (by assumption) ?rsT116
        case hyT116 => (intro w' hSw; (try dsimp only at hSw); (first | (go_simp; done) | (go_simp; with_reducible rfl)))
        try simp only [Act.put, List.setIfInBounds_toArray, List.set_cons_zero, List.set_cons_succ]
        refine wpAnyH_take (i := 16) (oi := ⟨some 53, _, _, _, _, _⟩) (v := ?_) rfl (by kernel_rfl) (by kernel_rfl) (by kernel_rfl) (fun _ _ _ h => h) (Or.inl ⟨by rfl, ?hyT117⟩) (by assumption) ?rsT117
        case hyT117 => (intro w' hSw; (try dsimp only at hSw); (first | (go_simp; done) | (go_simp; with_reducible rfl)))
        try simp only [Act.put, List.setIfInBounds_toArray, List.set_cons_zero, List.set_cons_succ]
        refine wpAnyH_take (i := 17) (oi := ⟨some 54, _, _, _, _, _⟩) (v := undef) rfl (by kernel_rfl) (by kernel_rfl) (by kernel_rfl) (fun _ _ _ h => h) (Or.inr ⟨by rfl, rfl⟩) (by assumption) ?_
        try simp only [Act.put, List.setIfInBounds_toArray, List.set_cons_zero, List.set_cons_succ]
        refine wpAnyH_take (i := 18) (oi := ⟨some 55, _, _, _, _, _⟩) (v := undef) rfl (by kernel_rfl) (by kernel_rfl) (by kernel_rfl) (fun _ _ _ h => h) (Or.inr ⟨by rfl, rfl⟩) (by assumption) ?_
        try simp only [Act.put, List.setIfInBounds_toArray, List.set_cons_zero, List.set_cons_succ]
        refine wpAnyH_take (i := 19) (oi := ⟨some 56, _, _, _, _, _⟩) (v := undef) rfl (by kernel_rfl) (by kernel_rfl) (by kernel_rfl) (fun _ _ _ h => h) (Or.inr ⟨by rfl, rfl⟩) (by assumption) ?_
        try simp only [Act.put, List.setIfInBounds_toArray, List.set_cons_zero, List.set_cons_succ]
        refine wpAnyH_take (i := 20) (oi := ⟨some 57, _, _, _, _, _⟩) (v := undef) rfl (by kernel_rfl) (by kernel_rfl) (by kernel_rfl) (fun _ _ _ h => h) (Or.inr ⟨by rfl, rfl⟩) (by assumption) ?_
        try simp only [Act.put, List.setIfInBounds_toArray, List.set_cons_zero, List.set_cons_succ]
        refine wpAnyH_take (i := 21) (oi := ⟨some 58, _, _, _, _, _⟩) (v := undef) rfl (by kernel_rfl) (by kernel_rfl) (by kernel_rfl) (fun _ _ _ h => h) (Or.inr ⟨by rfl, rfl⟩) (by assumption) ?_
        try simp only [Act.put, List.setIfInBounds_toArray, List.set_cons_zero, List.set_cons_succ]
        refine wpAnyH_take (i := 22) (oi := ⟨some 59, _, _, _, _, _⟩) (v := undef) rfl (by kernel_rfl) (by kernel_rfl) (by kernel_rfl) (fun _ _ _ h => h) (Or.inr ⟨by rfl, rfl⟩) (by assumption) ?_
        try simp only [Act.put, List.setIfInBounds_toArray, List.set_cons_zero, List.set_cons_succ]
        refine wpAnyH_take (i := 23) (oi := ⟨some 60, _, _, _, _, _⟩) (v := ?_) rfl (by kernel_rfl) (by kernel_rfl) (by kernel_rfl) (fun _ _ _ h => h) (Or.inl ⟨by rfl, ?hyT124⟩) (by assumption) ?rsT124
        case hyT124 => (intro w' hSw; (try dsimp only at hSw); (first | (go_simp; done) | (go_simp; with_reducible rfl)))
        try simp only [Act.put, List.setIfInBounds_toArray, List.set_cons_zero, List.set_cons_succ]
        refine wpAnyH_done (by kernel_rfl) ?_ _
        try dsimp only
        go_wp2_with fail
        go_ret2
        rw [HE.out]
        exact ROpenEnd.bad (M0.out.quiet HF3b.out.drew) (by decide)
end Go.Proofs.Ytppgbfkhiofjiaa.X
