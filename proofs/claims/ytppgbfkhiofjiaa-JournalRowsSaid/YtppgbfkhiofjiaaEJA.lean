/-
  The journal: the contract of Open.
-/
import Derived.Test.YtppgbfkhiofjiaaEJ9
namespace Go.Proofs.Ytppgbfkhiofjiaa.X
open Go.RowKit Go.Proofs.YtppgbfkhiofjiaaW.PrintWords Go.Proofs.YtppgbfkhiofjiaaW.PrintLast Go.Proofs.YtppgbfkhiofjiaaW.PrintMore Go.Proofs.Ytppgbfkhiofjiaa.Y
set_option linter.unusedVariables false
set_option linter.unusedSimpArgs false

def sameB (a b : List Int) : Bool := (strOfNums a).toList == (strOfNums b).toList
def cntOf (D : DS) : Int := numL ((rd64 D 0).drop 4)
def sumOf (D : DS) : Int := numL ((rd64 D 0).drop 8)
/-- Opening a journal: the answer, and the disk behind it. -/
def openD (D : DS) : Int × DS :=
  if D.n ≤ 69 then (2, D) else if D.down = true then (230, D) else
    if 64 < cntOf D then (6, D) else if cntOf D = 0 ∧ sumOf D ≠ 0 then (6, D) else if sameB (rd64 D 0) (headL (cntOf D) (sumOf D)) = false then (6, D)
    else if cntOf D = 0 then (0, D) else if leftE D (cntOf D).toNat (sumOf D) ≠ 0 then (leftE D (cntOf D).toNat (sumOf D), D) else finishD (leftW D (cntOf D).toNat) D
theorem JOk.opened {i : Nat} {D : DS} (h : JOk i D) : JOk (i + 70) (openD D).2 := by
  have hm : ∀ {e : Int}, JOk (i + 70) ((e, D) : Int × DS).2 := h.mono (by omega)
  unfold openD
  split
  · exact hm
  · split
    · exact hm
    · split
      · exact hm
      · rename_i hc
        split
        · exact hm
        · split
          · exact hm
          · split
            · exact hm
            · split
              · exact hm
              · have h2 := h.finish (leftW D (cntOf D).toNat)
                unfold leftW at h2 ⊢
                rw [leftL_length] at h2
                exact h2.mono (by omega)

theorem okPl_all {m : Int} {P Dt : List Int} : ∀ {n : Nat}, okPl m P n = true → ∀ x ∈ leftL P Dt n, 0 ≤ x.f0 ∧ x.f0 < m
  | 0, _, x, hx => by simp [leftL] at hx
  | n + 1, h, x, hx => by
    rw [okPl, Bool.and_eq_true] at h
    rw [leftL, List.mem_append] at hx
    rcases hx with hx | hx
    · exact okPl_all h.1 x hx
    · rw [List.mem_singleton] at hx
      subst hx
      exact ⟨(numL_range _).1, of_decide_eq_true h.2⟩
theorem leftE_ok {D : DS} {n : Nat} {s : Int} (h : leftE D n s = 0) : ∀ x ∈ leftW D n, 0 ≤ x.f0 ∧ x.f0 < D.n - 69 := by
  unfold leftE at h
  split at h
  · cases h
  · split at h
    · rename_i h2
      exact okPl_all h2
    · cases h
/-- What Open's end says. -/
def OpenEnd (B : Nat → Prop) (g : Nat) (r : Int × DS) (w : World) (e : Ending) (w' : World) : Prop :=
  ∃ v, e = .returned (.tuple #[v, .int .i64 r.1]) ∧ Fr B w w' ∧ (r.1 ≠ 0 → v = .pointer none ∧ Moved w B g w' r.2) ∧
    (r.1 = 0 → ∃ lb B', v = .pointer (some ⟨lb, 0, none⟩) ∧ w.heap.size ≤ lb ∧ IsLog w' lb g false ∧ IsDisk w' B' g r.2 ∧ (∀ k, B' k → B k ∨ w.heap.size ≤ k) ∧ ¬ B' lb)
theorem OpenEnd.bad {B : Nat → Prop} {g : Nat} {x : Int} {D : DS} {w w' : World} (h : Moved w B g w' D) (hx : x ≠ 0) : OpenEnd B g (x, D) w (.returned (.tuple #[.pointer none, .int .i64 x])) w' :=
  ⟨_, rfl, h.fr, fun _ => ⟨rfl, h⟩, fun h0 => absurd h0 hx⟩
theorem OpenEnd.good {B : Nat → Prop} {g : Nat} {D : DS} {w W : World} (h : Moved w B g W D) : OpenEnd B g (0, D) w (.returned (.tuple #[.pointer (some ⟨W.heap.size, 0, none⟩), .int .i64 0])) (W.alloc (.cells #[.pointer (some ⟨g, 0, none⟩), .bool false] 104)) := by
  obtain ⟨B', h1, h2, h3⟩ := h
  exact ⟨_, rfl, h3.alloc _, fun h0 => absurd rfl h0, fun _ => ⟨W.heap.size, B', rfl, h3.size, heap_alloc_new _ _, h1.alloc _, h2, fun hb => Nat.lt_irrefl _ (h1.lt _ hb)⟩⟩

set_option maxHeartbeats 8000000 in
set_option maxRecDepth 100000 in
theorem open_calls (g : Nat) (B : Nat → Prop) (D : DS) (w : World) (i : Nat) (h : IsDisk w B g D) (ho : JOk i D) (hi : i ≤ 200000) (hD : 0 ≤ D.n ∧ D.n ≤ 4096) :
    Calls Try.prog 33 #[.pointer (some ⟨g, 0, none⟩)] w (OpenEnd B g (openD D) w) := by
  have SC := small_calls g B D w h
  have M0 := Aside0.mk (Moved.refl h)
  by_cases hn : D.n ≤ 69
  · rw [show decide (D.n ≤ 69) = true by simpa using hn] at SC
    have SC := Aside0.mk SC
    have HE : Aside0 (openD D = (2, D)) := ⟨by unfold openD; rw [if_pos hn]⟩
    clear h ho hn hD
    go_enter Try.func33, Try.ntmps33
    go_wp2_with fail
    refine SC.out.mono ?_
    rintro e w' ⟨rfl, rfl⟩
    go_wp2_with fail
    go_ret2
    rw [HE.out]
    exact OpenEnd.bad M0.out (by decide)
  · rw [show decide (D.n ≤ 69) = false by simpa using hn] at SC
    have SC := Aside0.mk SC
    by_cases hd : D.down = true
    · have HE : Aside0 (openD D = (230, D)) := ⟨by unfold openD; rw [if_neg hn, if_pos hd]⟩
      have hlk : lookD D 0 = 230 := by unfold lookD; rw [if_pos hd]
      have RC := read_bad g B D 0 w h (by rw [hlk]; decide)
      rw [hlk] at RC
      have RC := Aside0.mk RC
      clear h ho hn hD hd hlk
      go_enter Try.func33, Try.ntmps33
      go_wp2_with fail
      refine SC.out.mono ?_
      rintro e w' ⟨rfl, rfl⟩
      go_wp2_with fail
      refine RC.out.mono ?_
      rintro e w1 ⟨rfl, hd1⟩
      have HD1 := Aside0.mk hd1
      clear hd1
      go_wp2_with fail
      go_ret2
      rw [HE.out]
      exact OpenEnd.bad (M0.out.quiet (Fr.of_drawn HD1.out _)) (by decide)
    · have hd' : D.down = false := by simpa using hd
      have HDN := Aside0.mk hd'
      have hlk : lookD D 0 = 0 := by unfold lookD; rw [if_neg hd, if_neg (by omega), if_neg (by omega)]
      have RC := Aside0.mk (read_calls g B D 0 w h hlk wf0 (by have := ho.u; omega))
      have HL := Aside0.mk (h.rd64_length 0)
      have H := Aside0.mk h
      have HO := Aside0.mk ho
      obtain ⟨d1, d2⟩ := hD
      have HN : Aside0 (openD D = if 64 < cntOf D then (6, D) else if cntOf D = 0 ∧ sumOf D ≠ 0 then (6, D) else if sameB (rd64 D 0) (headL (cntOf D) (sumOf D)) = false then (6, D)
          else if cntOf D = 0 then (0, D) else if leftE D (cntOf D).toNat (sumOf D) ≠ 0 then (leftE D (cntOf D).toNat (sumOf D), D) else finishD (leftW D (cntOf D).toNat) D) := ⟨by unfold openD; rw [if_neg hn, if_neg hd]⟩
      clear h ho hd hd' hlk
      go_enter Try.func33, Try.ntmps33
      go_wp2_with fail
      refine SC.out.mono ?_
      rintro e w' ⟨rfl, rfl⟩
      go_wp2_with fail
      refine RC.out.mono ?_
      rintro e w1 ⟨gb, rfl, hgb, har, hf1⟩
      have HA := Aside0.mk har
      have HF1 := Aside0.mk hf1
      have HGB := Aside0.mk hgb
      have NC4 : Aside0 (∀ W : World, W.heap = w1.heap → Calls Try.prog 60 #[.slice (some ⟨gb, 4, none⟩) 60 60] W fun e w' => e = .returned (.int .u32 (cntOf D)) ∧ Drawn0 W w') := ⟨fun W e => by
        have hr : IsArr W gb (rd64 D 0) := har.kept (by rw [e])
        have hC : Kd.C (Kd.int .u8) W (some ⟨gb, 0, none⟩) 64 (rd64 D 0) := Kd.C_of_reads (d := (0 : Int)) (h1 := fun _ => rfl) (IsArr.reads hr HL.out)
        have h1 := C_dropAt hC HL.out (a := 4) (by omega)
        rw [Addr.add_mid, Nat.zero_add] at h1
        have hl : ((rd64 D 0).drop 4).length = 60 := by rw [List.length_drop, HL.out]
        have h0 := journal_number.calls (some ⟨gb, 4, none⟩) 60 ((rd64 D 0).drop 4) (cntOf D) W (by rw [hl]; exact h1) (by rw [hl]; omega) (numL_f (by rw [hl]; omega))
        rw [hl] at h0
        exact h0⟩
      have NC8 : Aside0 (∀ W : World, W.heap = w1.heap → Calls Try.prog 60 #[.slice (some ⟨gb, 8, none⟩) 56 56] W fun e w' => e = .returned (.int .u32 (sumOf D)) ∧ Drawn0 W w') := ⟨fun W e => by
        have hr : IsArr W gb (rd64 D 0) := har.kept (by rw [e])
        have hC : Kd.C (Kd.int .u8) W (some ⟨gb, 0, none⟩) 64 (rd64 D 0) := Kd.C_of_reads (d := (0 : Int)) (h1 := fun _ => rfl) (IsArr.reads hr HL.out)
        have h1 := C_dropAt hC HL.out (a := 8) (by omega)
        rw [Addr.add_mid, Nat.zero_add] at h1
        have hl : ((rd64 D 0).drop 8).length = 56 := by rw [List.length_drop, HL.out]
        have h0 := journal_number.calls (some ⟨gb, 8, none⟩) 56 ((rd64 D 0).drop 8) (sumOf D) W (by rw [hl]; exact h1) (by rw [hl]; omega) (numL_f (by rw [hl]; omega))
        rw [hl] at h0
        exact h0⟩
      have c1 : 0 ≤ cntOf D := (numL_range _).1
      have c2 : cntOf D < 4294967296 := (numL_range _).2
      have hcn : ∃ cn, cntOf D = cn := ⟨_, rfl⟩
      obtain ⟨cn, hcn⟩ := hcn
      have hsn : ∃ sn, sumOf D = sn := ⟨_, rfl⟩
      obtain ⟨sn, hsn⟩ := hsn
      rw [hcn] at NC4 c1 c2
      rw [hsn] at NC8
      have s1 : 0 ≤ sn := by rw [← hsn]; exact (numL_range _).1
      have s2 : sn < 4294967296 := by rw [← hsn]; exact (numL_range _).2
      rw [hcn, hsn] at HN
      clear hgb har hf1 RC SC hcn hsn
      go_wp2_with fail
      have N4 : Aside0 (Calls Try.prog 60 #[.slice (some ⟨gb, 4, none⟩) 60 60] w1.drew fun e w' => e = .returned (.int .u32 cn) ∧ w'.heap = w1.heap ∧ Fr (fun _ => False) w1 w') := ⟨(NC4.out w1.drew rfl).mono fun e w' ⟨he, ⟨q, hq⟩⟩ => ⟨he, by rw [hq]; rfl, by rw [hq]; exact (Fr.refl _ w1).drew.drewN q⟩⟩
      have N8 : Aside0 (∀ W : World, W.heap = w1.heap → Fr (fun _ => False) w1 W → Calls Try.prog 60 #[.slice (some ⟨gb, 8, none⟩) 56 56] W fun e w' => e = .returned (.int .u32 sn) ∧ w'.heap = w1.heap ∧ Fr (fun _ => False) w1 w') := ⟨fun W e f => (NC8.out W e).mono fun e' w' ⟨he, ⟨q, hq⟩⟩ => ⟨he, by rw [hq]; exact e, by rw [hq]; exact f.drewN q⟩⟩
      clear NC4 NC8
      go_region_held3 (fun W => Fr (fun _ => False) w1 W) (first | exact HF3.out | exact HF2.out | exact (Fr.refl _ w1).drew) (first
        | (go_at_call 60; (with_reducible refine N4.out.mono ?_); rintro e w2 ⟨rfl, h2, f2⟩; have HQ2 := Aside0.mk h2; have HF2 := Aside0.mk f2; clear h2 f2)
        | (go_at_call 60; (with_reducible refine (N8.out w2 HQ2.out HF2.out).mono ?_); rintro e w3 ⟨rfl, h3, f3⟩; have HQ3 := Aside0.mk h3; have HF3 := Aside0.mk f3; clear h3 f3))
      have HF := Aside0.mk (HF1.out.trans HF3.out (fun _ h => h.elim))
      clear N4 N8 HQ2 HQ3 HF2
      have HA3 : Aside0 (IsArr w3 gb (rd64 D 0)) := ⟨HA.out.kept (HF3.out.keep _ HA.out.lt (fun h => h))⟩
      clear HA HF1 HF3
      by_cases b1 : 64 < cn
      · have HE : Aside0 (openD D = (6, D)) := ⟨by rw [HN.out, if_pos (by omega)]⟩
        have b1' : (64 : Int) < cn := by omega
        go_wp2_with fail
        go_ret2
        rw [HE.out]
        exact OpenEnd.bad (M0.out.quiet HF.out) (by decide)
      · have b1' : cn ≤ 64 := by omega
        have HN2 := Aside0.mk (HN.out.trans (if_neg (by omega)))
        by_cases b2 : cn = 0 ∧ sn ≠ 0
        · obtain ⟨rfl, hsn⟩ := b2
          have HE : Aside0 (openD D = (6, D)) := ⟨by rw [HN2.out, if_pos ⟨rfl, hsn⟩]⟩
          have e1 : (sn != 0) = true := by simpa using hsn
          go_wp2_with fail
          go_ret2
          rw [HE.out]
          exact OpenEnd.bad (M0.out.quiet HF.out) (by decide)
        · have HN3 := Aside0.mk (HN2.out.trans (if_neg (fun h => b2 h)))
          have HC := Aside0.mk (head_calls cn sn w3 ⟨by omega, by omega⟩)
          have EQ : Aside0 (∀ (A : Option Addr) (c : Nat) (w4 : World), Kd.R (Kd.int .u8) 5 w4 w3.heap.size (fun _ => True) (.slice A 64 c) (headL cn sn) → Below w3.heap.size w3 w4 →
              Calls Try.prog 61 #[.slice (some ⟨gb, 0, none⟩) 64 64, .slice A 64 c] w4 fun e w5 => e = .returned (.bool (sameB (rd64 D 0) (headL cn sn))) ∧ Fr (fun _ => False) w' w5) := ⟨fun A c w4 hR hB => by
            obtain ⟨A', c', e', hcap, hC⟩ := Kd.R_reads hR
            injection e' with e1 _ e2
            subst e1 e2
            have hr : IsArr w4 gb (rd64 D 0) := HA3.out.kept (hB.block _ HA3.out.lt)
            have hC0 : Kd.C (Kd.int .u8) w4 (some ⟨gb, 0, none⟩) 64 (rd64 D 0) := Kd.C_of_reads (d := (0 : Int)) (h1 := fun _ => rfl) (IsArr.reads hr HL.out)
            have h0 := bytes_Equal.calls (some ⟨gb, 0, none⟩) 64 (rd64 D 0) A c (headL cn sn) (sameB (rd64 D 0) (headL cn sn)) w4 (by rw [HL.out]; exact hC0) (by rw [HL.out]; exact Nat.le_refl _) hC hcap rfl
            rw [HL.out] at h0
            exact h0.mono fun e w5 ⟨he, hd⟩ => ⟨he, (HF.out.trans (Fr.of_below hB (fun _ => False)) (fun _ h => .inl h)).trans (Fr.of_drawn hd (fun _ => False)) (fun _ h => .inl h)⟩⟩
          obtain ⟨sb, hsb⟩ : ∃ sb, sameB (rd64 D 0) (headL cn sn) = sb := ⟨_, rfl⟩
          rw [hsb] at EQ HN3
          clear hsb HN HN2
          cases sb with
          | false =>
            have HE : Aside0 (openD D = (6, D)) := ⟨by rw [HN3.out, if_pos rfl]⟩
            by_cases b3 : cn = 0
            · obtain rfl : sn = 0 := by
                by_cases h : sn = 0
                · exact h
                · exact absurd ⟨b3, h⟩ b2
              subst b3
              go_wp2_with fail
              refine HC.out.mono ?_
              rintro e w4 ⟨A4, c4, rfl, r4, b4⟩
              have E5 := Aside0.mk (EQ.out A4 c4 w4 r4 b4)
              clear r4 b4
              go_wp2_with fail
              refine E5.out.mono ?_
              rintro e w5 ⟨rfl, f5⟩
              have F5 := Aside0.mk f5
              clear f5
              go_wp2_with fail
              go_ret2
              rw [HE.out]
              exact OpenEnd.bad (M0.out.quiet F5.out) (by decide)
            · have b3' : (cn == 0) = false := by simpa using b3
              go_wp2_with fail
              refine HC.out.mono ?_
              rintro e w4 ⟨A4, c4, rfl, r4, b4⟩
              have E5 := Aside0.mk (EQ.out A4 c4 w4 r4 b4)
              clear r4 b4
              go_wp2_with fail
              refine E5.out.mono ?_
              rintro e w5 ⟨rfl, f5⟩
              have F5 := Aside0.mk f5
              clear f5
              go_wp2_with fail
              go_ret2
              rw [HE.out]
              exact OpenEnd.bad (M0.out.quiet F5.out) (by decide)
          | true =>
            have HN4 := Aside0.mk (HN3.out.trans (if_neg (by decide)))
            by_cases b3 : cn = 0
            · obtain rfl : sn = 0 := by
                by_cases h : sn = 0
                · exact h
                · exact absurd ⟨b3, h⟩ b2
              subst b3
              have HE : Aside0 (openD D = (0, D)) := ⟨HN4.out.trans (if_pos (by simp))⟩
              go_wp2_with fail
              refine HC.out.mono ?_
              rintro e w4 ⟨A4, c4, rfl, r4, b4⟩
              have E5 := Aside0.mk (EQ.out A4 c4 w4 r4 b4)
              clear r4 b4
              go_wp2_with fail
              refine E5.out.mono ?_
              rintro e w5 ⟨rfl, f5⟩
              have F5 := Aside0.mk f5
              clear f5
              go_wp2_with fail
              go_ret2
              rw [HE.out]
              exact OpenEnd.good (M0.out.quiet F5.out)
            · have b3' : (cn == 0) = false := by simpa using b3
              have HP4 : Aside0 ((0 : Int) < cn) := ⟨by omega⟩
              obtain ⟨n, hn'⟩ : ∃ n : Nat, cn.toNat = n := ⟨_, rfl⟩
              have HNN : Aside0 ((n : Int) = cn) := ⟨by omega⟩
              have HN5 := Aside0.mk (HN4.out.trans (if_neg (by omega)))
              rw [hn'] at HN5
              clear hn'
              go_wp2_with fail
              refine HC.out.mono ?_
              rintro e w4 ⟨A4, c4, rfl, r4, b4⟩
              have E5 := Aside0.mk (EQ.out A4 c4 w4 r4 b4)
              clear r4 b4
              go_wp2_with fail
              refine E5.out.mono ?_
              rintro e w5 ⟨rfl, f5⟩
              have F5 := Aside0.mk f5
              have lc := left_calls g B D n sn w5 (H.out.fr f5 (fun _ _ h => h)) HDN.out ⟨by omega, by omega⟩ (by have := HNN.out; omega) (by have := HNN.out; omega) (by have := HO.out.u; omega)
              rw [HNN.out] at lc
              have LC := Aside0.mk lc
              have hn64 : n ≤ 64 := by have := HNN.out; omega
              clear f5 HC EQ E5 b3' b1 b2 b3 lc
              have b4' := HP4.out
              go_wp2_with fail
              refine LC.out.mono ?_
              rintro e w6 ⟨A6, m6, cp6, rfl, f6, q6⟩
              have F6 : Aside0 (Fr (fun _ => False) w' w6) := ⟨F5.out.trans f6 (fun _ h => h.elim)⟩
              have Q6 := Aside0.mk q6
              clear f6 q6 LC
              obtain ⟨le, hle⟩ : ∃ le, leftE D n sn = le := ⟨_, rfl⟩
              have HLE := Aside0.mk hle
              rw [hle] at Q6 HN5 ⊢
              clear hle
              by_cases hz : le = 0
              · subst hz
                obtain ⟨rfl, q7⟩ := Q6.out rfl
                have HN6 := Aside0.mk (HN5.out.trans (if_neg (by simp)))
                have FC := Aside0.mk (finish_calls g B D A6 cp6 m6 (leftW D m6) w6 i (H.out.fr F6.out (fun _ _ h => h)) HO.out (by omega) (leftL_length _ _ _)
                  (fun W' f' => q7 B W' (fun k hk => Nat.lt_of_lt_of_le (H.out.lt k hk) F5.out.size) f') (fun x hx => by have := leftE_ok HLE.out x hx; omega))
                clear Q6 q7
                go_wp2_with fail
                refine FC.out.mono ?_
                rintro e w7 ⟨rfl, m7⟩
                have M7 := Aside0.mk (m7.ahead F6.out)
                clear m7 FC
                obtain ⟨⟨fe, fD⟩, hfr⟩ : ∃ r, finishD (leftW D m6) D = r := ⟨_, rfl⟩
                rw [hfr] at M7 HN6 ⊢
                clear hfr
                dsimp only at M7 ⊢
                by_cases hz2 : fe = 0
                · subst hz2
                  go_wp2_with fail
                  go_ret2
                  rw [HN6.out]
                  exact OpenEnd.good M7.out
                · have e1 : (fe != 0) = true := by simpa using hz2
                  go_wp2_with fail
                  go_ret2
                  rw [HN6.out]
                  exact OpenEnd.bad M7.out hz2
              · have e1 : (le != 0) = true := by simpa using hz
                have e2 : (le == 0) = false := by simpa using hz
                have HN6 := Aside0.mk (HN5.out.trans (if_pos hz))
                go_wp2_with fail
                go_ret2
                rw [HN6.out]
                exact OpenEnd.bad (M0.out.quiet F6.out) hz
end Go.Proofs.Ytppgbfkhiofjiaa.X
