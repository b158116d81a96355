/-
  The journal: the contract of JournalWhole.
-/
import Derived.Test.YtppgbfkhiofjiaaEJG
namespace Go.Proofs.Ytppgbfkhiofjiaa.X
open Go.RowKit Go.Proofs.YtppgbfkhiofjiaaW.PrintWords Go.Proofs.YtppgbfkhiofjiaaW.PrintLast Go.Proofs.YtppgbfkhiofjiaaW.PrintMore Go.Proofs.Ytppgbfkhiofjiaa.Y
set_option linter.unusedVariables false
set_option linter.unusedSimpArgs false

set_option maxHeartbeats 8000000 in
set_option maxRecDepth 100000 in
theorem jwhole_calls (A0 : Option Addr) (c0 : Nat) (l0 : List S105) (A1 : Option Addr) (c1 : Nat) (l1 : List S105) (at_ : Int) (A3 : Option Addr) (c3 : Nat) (kl : List Bool) (A4 : Option Addr) (c4 : Nat) (al : List Int) (w : World)
    (h0 : Kd.C k105 w A0 l0.length l0) (h1 : Kd.C k105 w A1 l1.length l1) (h3 : Kd.C Kd.bool w A3 kl.length kl) (h4 : Kd.C (Kd.int .i64) w A4 al.length al) :
    Calls Try.prog 7 #[.slice A0 l0.length c0, .slice A1 l1.length c1, .int .i64 at_, .slice A3 kl.length c3, .slice A4 al.length c4] w fun e w' => e = .returned (.bool true) ∧ Fr (fun _ => False) w w' := by
  obtain ⟨m, hm80, hm⟩ := rest80 at_
  obtain ⟨n0, hn0⟩ : ∃ n, l0.length = n := ⟨_, rfl⟩
  obtain ⟨n1, hn1⟩ : ∃ n, l1.length = n := ⟨_, rfl⟩
  obtain ⟨n3, hn3⟩ : ∃ n, kl.length = n := ⟨_, rfl⟩
  obtain ⟨n4, hn4⟩ : ∃ n, al.length = n := ⟨_, rfl⟩
  have hb4 : n4 ≤ 9223372036854775807 := by rw [← hn4]; exact h4.2.1
  rw [hn0, hn1, hn3, hn4]
  rw [hn0] at h0
  rw [hn1] at h1
  rw [hn3] at h3
  rw [hn4] at h4
  have HL0 : Aside0 (Kd.C k105 w A0 n0 l0) := ⟨h0⟩
  have HL1 : Aside0 (Kd.C k105 w A1 n1 l1) := ⟨h1⟩
  have HL3 := Aside0.mk h3
  have HL4 := Aside0.mk h4
  have HN0 := Aside0.mk hn0
  have HN1 := Aside0.mk hn1
  have HN3 := Aside0.mk hn3
  have HN4 := Aside0.mk hn4
  have WK := Aside0.mk (jworks_calls w)
  clear h0 h1 h3 h4 hn0 hn1 hn3 hn4
  go_enter Try.func7, Try.ntmps7
  go_wp2_with fail
  refine WK.out.mono ?_
  rintro e w1 ⟨rfl, f1⟩
  have HF1 := Aside0.mk f1
  have FB := Aside0.mk (fresh_both 8 w1 (by omega) (by omega))
  clear f1 WK
  go_wp2_with fail
  refine FB.out.mono ?_
  rintro e w2 ⟨g, lb, rfl, hb2⟩
  have HB2 := Aside0.mk hb2
  obtain ⟨t0, ht0⟩ : ∃ n, (tameL l0).length = n := ⟨_, rfl⟩
  have HT0 := Aside0.mk ht0
  have TM0 := tame_calls A0 c0 n0 l0 w2 HN0.out HL0.out.2.1 (Kd.C_below HL0.out ((HF1.out.trans hb2.fr (fun _ h => h.elim)).below (fun _ h => h.elim) (Nat.le_refl _)))
  rw [ht0] at TM0
  have TM0 := Aside0.mk TM0
  clear hb2 FB ht0
  go_wp2_with fail
  refine TM0.out.mono ?_
  rintro e w3 ⟨A', c', rfl, hc', hmade, f3⟩
  have WR0 := Aside0.mk (writes_tame A' c' t0 l0 w2 w3 (fun _ => False) hmade HT0.out hc' (fun _ h => h.elim) (Fr.refl _ _))
  have HF3 := Aside0.mk f3
  clear hc' hmade f3 TM0
  go_wp2_with fail
  refine WR0.out.mono ?_
  rintro e w4 ⟨A', c', rfl, hmade, f4⟩
  obtain ⟨D1, e1, hI1⟩ := first_com l0
  have CM0 := com_both (HB2.out.quiet HF3.out) f4 (cp := c') hmade (by rw [jw_length]; exact HT0.out) (by have := tameL_le l0; have := HT0.out; omega) (by omega) ⟨by show (0 : Int) ≤ 69 + 8; decide, by show (69 + 8 : Int) ≤ 4096; decide⟩
  rw [show (69 + 8 : Int) = 77 from rfl, e1] at CM0
  have CM0 := Aside0.mk CM0
  have HI1 := Aside0.mk hI1
  clear f4 WR0 hmade e1 hI1 HF3 HB2
  go_wp2_with fail
  refine CM0.out.mono ?_
  rintro e w5 ⟨rfl, hb5⟩
  have HB5 := Aside0.mk hb5
  obtain ⟨t1, ht1⟩ : ∃ n, (tameL l1).length = n := ⟨_, rfl⟩
  have HT1 := Aside0.mk ht1
  have TM1 := tame_calls A1 c1 n1 l1 w5 HN1.out HL1.out.2.1 (Kd.C_below HL1.out ((HF1.out.trans hb5.fr (fun _ h => h.elim)).below (fun _ h => h.elim) (Nat.le_refl _)))
  rw [ht1] at TM1
  have TM1 := Aside0.mk TM1
  clear hb5 CM0 ht1
  go_wp2_with fail
  refine TM1.out.mono ?_
  rintro e w6 ⟨A', c', rfl, hc', hmade, f6⟩
  obtain ⟨B1, hB1, hbase⟩ := HB5.out.base
  have HB6 := Aside0.mk (hbase w6 f6)
  have HBS : Aside0 (∀ k, B1 k → w1.heap.size ≤ k) := ⟨fun k h => (hB1 k h).1.elim (fun h => h.elim) (fun h => h)⟩
  have HBL : Aside0 (∀ k, B1 k → k < w5.heap.size) := ⟨fun k h => (hB1 k h).2⟩
  have HMD := Aside0.mk hmade
  have HC1 := Aside0.mk hc'
  have HF6 : Aside0 (Fr (fun _ => False) w w6) := ⟨(HF1.out.trans HB5.out.fr (fun _ h => h.elim)).trans f6 (fun _ h => h.elim)⟩
  have HLG := Aside0.mk HB5.out.long
  have IM := image_both (hbase w6 f6) HI1.out.n HI1.out.down HI1.out.c
  obtain ⟨So, hSo⟩ : ∃ S, strOfNums (imgF D1.f 8) = S := ⟨_, rfl⟩
  rw [hSo] at IM
  have HSO := Aside0.mk hSo
  have IM := Aside0.mk IM
  clear hmade f6 hB1 hbase TM1 HB5 hc' hSo
  go_wp2_with fail
  refine IM.out.mono ?_
  rintro e w7 ⟨rfl, f7⟩
  have hsz : So.size = 512 := by
    rw [← HSO.out]
    have := img_length HLG.out 8
    unfold strOfNums
    simp [ByteArray.size, this]
  have LD := laid_calls So A' c' t1 (tameL l1) w7 hsz HT1.out (by have := tameL_le l1; have := HT1.out; omega) (HMD.out (fun _ => False) w7 (fun _ h => h.elim) f7) (tame_ok l1)
  have hnx := laid_next HLG.out (tame_ok l1)
  rw [HSO.out] at hnx
  obtain ⟨Sn, hSn⟩ : ∃ S, strOfNums (imgF (nextF (jw (tameL l1)) D1.f) 8) = S := ⟨_, rfl⟩
  rw [hnx, hSn] at LD
  have HSN := Aside0.mk hSn
  have LD := Aside0.mk LD
  have HF7 := Aside0.mk f7
  have HSZ := Aside0.mk hsz
  clear hnx hSn f7 IM hsz
  go_wp2_with fail
  refine LD.out.mono ?_
  rintro e w8 ⟨rfl, f8⟩
  have HB8 := HB6.out.quiet (HF7.out.trans f8 (fun _ h => h.elim))
  have AR := Aside0.mk (arm_both HB8 (m : Int) (by omega) (by omega))
  have HB8 := Aside0.mk HB8
  have hsz := HSZ.out
  clear f8 LD
  go_wp2_with fail
  refine AR.out.mono ?_
  rintro e w9 ⟨rfl, hb9⟩
  have WR1 := Aside0.mk (writes_tame A' c' t1 l1 w5 w6 B1 HMD.out HT1.out HC1.out HBL.out hb9.fr)
  have HB9 := Aside0.mk hb9
  clear hb9 AR HB8 hsz
  go_wp2_with fail
  refine WR1.out.mono ?_
  rintro e w10 ⟨Ax, cx, rfl, hmade, f10⟩
  have CM1 := com_both HB9.out f10 (cp := cx) hmade (by rw [jw_length]; exact HT1.out) (by have := tameL_le l1; have := HT1.out; omega) (by omega) ⟨by show (0 : Int) ≤ D1.n; rw [HI1.out.n]; decide, by show D1.n ≤ (4096 : Int); rw [HI1.out.n]; decide⟩
  clear hmade f10 WR1
  have key : ∃ (e1 : Int) (a : Prop) (D2 : DS), ((e1 = 0 ∧ ¬ a) ∨ (e1 = 230 ∧ logC (jw (tameL l1)) D2 true = (230, D2, true))) ∧ logC (jw (tameL l1)) { D1 with left := (m : Int) } false = (e1, D2, e1 != 0) ∧ D2.n = 77 ∧ ∀ kp, Wait 77 a (jw (tameL l1)) D1.f (mendD kp D2) := by
    rcases armed_com HI1.out l1 m with ⟨D2, q1, q2, q3⟩ | ⟨D2, q1, q2, q3, q4⟩
    · exact ⟨0, False, D2, .inl ⟨rfl, fun h => h⟩, q1, q2, q3⟩
    · exact ⟨230, True, D2, .inr ⟨rfl, q2⟩, q1, q3, q4⟩
  obtain ⟨e1, a, D2, he1, hE, hn2, hwait⟩ := key
  rw [hE] at CM1
  have CM1 := Aside0.mk CM1
  have HN2 := Aside0.mk hn2
  have HW2 := Aside0.mk hwait
  clear hE hn2 hwait
  have HMEND : Aside0 (∀ W D i, i ≤ 1000000 → Only w6 B1 g W D i → Calls Try.prog 17 #[.pointer (some ⟨g, 0, none⟩), .slice A3 n3 c3] W fun e w' => e = .returned (.tuple #[]) ∧ Only w6 B1 g w' (mendD kl D) i) := ⟨fun W D i hi h => by
    have hC := Kd.C_below HL3.out ((HF6.out.trans h.fr (fun k hk => .inr (Nat.le_trans HF1.out.size (HBS.out k hk)))).below (fun _ h => h.elim) (Nat.le_refl _))
    have := mend_only h hi A3 c3 kl (by rw [HN3.out]; exact hC) (fun ad e h9 => by
      subst e
      have hlt := Kd.C_lt HL3.out (by have := HN3.out; omega) (by decide)
      exact ⟨fun hB => by have := HBS.out _ hB; have := HF1.out.size; omega, Nat.lt_of_lt_of_le hlt HF6.out.size⟩)
    rw [HN3.out] at this
    exact this⟩
  have HFR : Aside0 (∀ W D i, Only w6 B1 g W D i → Fr (fun _ => False) w W) := ⟨fun W D i h => HF6.out.trans h.fr (fun k hk => .inr (Nat.le_trans HF1.out.size (HBS.out k hk)))⟩
  rcases he1 with ⟨rfl, hna⟩ | ⟨rfl, hE2⟩
  rotate_left
  · have HE2 := Aside0.mk hE2
    clear hE2
    go_wp2_with fail
    refine CM1.out.mono ?_
    rintro e w11 ⟨rfl, hb11⟩
    have WR2 := Aside0.mk (writes_tame A' c' t1 l1 w5 w6 B1 HMD.out HT1.out HC1.out HBL.out hb11.fr)
    have HB11 := Aside0.mk hb11
    clear hb11 CM1 HB9
    go_wp2_with fail
    refine WR2.out.mono ?_
    rintro e w12 ⟨Ay, cy, rfl, hmade, f12⟩
    have CM2 := com_both HB11.out f12 (cp := cy) hmade (by rw [jw_length]; exact HT1.out) (by have := tameL_le l1; have := HT1.out; omega) (by omega) ⟨by rw [HN2.out]; decide, by rw [HN2.out]; decide⟩
    rw [show ((230 : Int) != 0) = true from rfl, HE2.out] at CM2
    have CM2 := Aside0.mk CM2
    clear hmade f12 WR2
    go_wp2_with fail
    refine CM2.out.mono ?_
    rintro e wm ⟨rfl, hb13⟩
    have MD := Aside0.mk (HMEND.out wm D2 452 (by omega) hb13.only)
    clear hb13 CM2 HE2 HB11
    go_wp2_with fail
    refine MD.out.mono ?_
    rintro e wn ⟨rfl, ho⟩
    have HO := Aside0.mk ho
    clear ho MD
    go_wp2_with fail
    obtain ⟨N, hN⟩ : ∃ N, min n4 6 = N := ⟨_, rfl⟩
    go_loopg [16, 17, 18] N (fun kq v16 v17 v18 W => ∃ (k : Nat) (D3 : DS), v16 = .int .i64 (k : Int) ∧ Aside0 (k + kq = N) ∧ Aside0 (Only w6 B1 g W D3 (452 + 70 * k)) ∧ Aside0 (Wait 77 a (jw (tameL l1)) D1.f D3 ∧ D3.left = -1))
    case atStart => exact ⟨0, _, rfl, ⟨by omega⟩, HO, ⟨HW2.out kl, rfl⟩⟩
    case round =>
      clear HO HW2
      obtain ⟨k, D3, rfl, HI, HO, HK⟩ := hrel
      have hk0 : (0 : Int) ≤ (k : Int) := by omega
      cases gk with
      | zero =>
        have hk2 : (n4 : Int) ≤ k ∨ ((k : Int) < n4 ∧ k = 6) := by have := HI.out; omega
        have hk6 : k ≤ 6 := by have := HI.out; omega
        clear hN
        have hfin : ∃ D4, openD D3 = (0, D4) ∧ Idle 77 D4 ∧ openD D4 = (0, D4) ∧ ((a ∧ strOfNums (imgF D4.f 8) = So) ∨ strOfNums (imgF D4.f 8) = Sn) := by
          rcases open_out HK.out.1 (by omega) (by omega) with ⟨q1, q2, q3, q4⟩ | ⟨_, q2, _⟩
          · refine ⟨_, Prod.ext q1 rfl, q2, open_idle q2 (by omega), ?_⟩
            rcases q4 with ⟨ha, q4⟩ | q4
            · exact .inl ⟨ha, by rw [img_empty q4, HSO.out]⟩
            · exact .inr (by rw [img_empty q4, HSN.out])
          · exact absurd HK.out.2 q2
        obtain ⟨D4, r1, r2, r3, hfin⟩ := hfin
        have HI4 := Aside0.mk r2
        have HO4 := Aside0.mk r3
        have OP := open_only HO.out (by omega) ⟨by show (0 : Int) ≤ D3.n; rw [HK.out.1.n]; decide, by show D3.n ≤ (4096 : Int); rw [HK.out.1.n]; decide⟩
        rw [r1] at OP
        have OP := Aside0.mk OP
        clear r1 r2 r3
        have hfin2 : ∃ S, strOfNums (imgF D4.f 8) = S ∧ ((a ∧ S = So) ∨ S = Sn) := ⟨_, rfl, hfin⟩
        clear hfin
        obtain ⟨S, hS, hfin⟩ := hfin2
        have HS4 := Aside0.mk hS
        have HFIN := Aside0.mk hfin
        clear hS hfin
        rcases hk2 with hk2 | ⟨hk2, hk3⟩
        rotate_left
        subst hk3
        all_goals (
          go_wp2_with fail
          refine OP.out.mono ?_
          rintro e wb ⟨v, rfl, _, hgood⟩
          obtain ⟨lb2, rfl, hb⟩ := hgood (by trivial)
          have IM2 := image_both hb HI4.out.n HI4.out.down HI4.out.c
          rw [HS4.out] at IM2
          have IM2 := Aside0.mk IM2
          have HBB := Aside0.mk hb
          clear hb hgood OP
          go_wp2_with fail
          refine IM2.out.mono ?_
          rintro e wc ⟨rfl, fc⟩
          have OP2 := open_only (HBB.out.only.quiet fc) (by omega) ⟨by rw [HI4.out.n]; decide, by rw [HI4.out.n]; decide⟩
          rw [HO4.out] at OP2
          have OP2 := Aside0.mk OP2
          clear fc IM2
          go_wp2_with fail
          refine OP2.out.mono ?_
          rintro e wd ⟨v, rfl, _, hgood⟩
          obtain ⟨lb3, rfl, hb⟩ := hgood (by trivial)
          have IM3 := image_both hb HI4.out.n HI4.out.down HI4.out.c
          rw [HS4.out] at IM3
          have IM3 := Aside0.mk IM3
          have HBC := Aside0.mk hb
          clear hb hgood OP2
          go_wp2_with fail
          refine IM3.out.mono ?_
          rintro e we ⟨rfl, fe⟩
          have HFE : Aside0 (Fr (fun _ => False) w we) := ⟨(HFR.out _ _ _ HBC.out.only).trans fe (fun _ h => h.elim)⟩
          clear fe IM3
          have HS5 := HS4.out
          by_cases hs : S = Sn
          · subst hs
            clear HS5
            go_wp2_with fail
            go_ret
            exact ⟨rfl, HFE.out⟩
          · rcases HFIN.out with ⟨ha, hso⟩ | hso
            · first
              | exact absurd ha HNA.out
              | (subst hso
                 clear HS5
                 go_wp2_with fail
                 all_goals (
                   go_ret
                   exact ⟨rfl, HFE.out⟩))
            · exact absurd hso hs)
      | succ k1 =>
        have hk1 : (k : Int) < (n4 : Int) := by have := HI.out; omega
        have hk2 : (k : Int) < 6 := by have := HI.out; omega
        have HI3 : Aside0 (k + 1 + k1 = N) := ⟨by have := HI.out; omega⟩
        obtain ⟨ad, rfl, g1⟩ := Kd.at_int HL4.out (k : Int) (by omega) (by omega)
        obtain ⟨x, hx⟩ : ∃ x, rd al (k : Int) = x := ⟨_, rfl⟩
        rw [hx, Int.toNat_natCast] at g1
        have G1 := Aside0.mk g1
        obtain ⟨m2, hm2, hme⟩ := rest40 x
        have AR2 := Aside0.mk (arm_only HO.out (m2 : Int) (by omega) (by omega))
        have g1 := cellK (HFR.out _ _ _ HO.out) G1.out
        clear hx
        go_wp2_with fail
        refine AR2.out.mono ?_
        rintro e wa ⟨rfl, ho⟩
        have HWA := Aside0.mk (HK.out.1.arm (m2 : Int))
        have OP := open_only ho (by have := HI3.out; omega) ⟨by show (0 : Int) ≤ D3.n; rw [HK.out.1.n]; decide, by show D3.n ≤ (4096 : Int); rw [HK.out.1.n]; decide⟩
        have hkey : ((openD { D3 with left := (m2 : Int) }).1 = 0 ∨ (openD { D3 with left := (m2 : Int) }).1 = 230) ∧ Wait 77 a (jw (tameL l1)) D1.f (mendD kl (openD { D3 with left := (m2 : Int) }).2) := by
          rcases open_out HWA.out (by omega) (by omega) with ⟨q1, q2, q3, q4⟩ | ⟨q1, q2, q3, q4⟩
          · exact ⟨.inl q1, mend_idle kl q2 q4⟩
          · exact ⟨.inr q1, mend_out kl q3 (q4 _)⟩
        obtain ⟨r, hr⟩ : ∃ r, openD { D3 with left := (m2 : Int) } = r := ⟨_, rfl⟩
        rw [hr] at OP hkey
        obtain ⟨r1, D4⟩ := r
        have OP := Aside0.mk OP
        obtain ⟨hr1, hw4⟩ := hkey
        have HW4 : Aside0 (Wait 77 a (jw (tameL l1)) D1.f (mendD kl D4)) := ⟨hw4⟩
        have hr1' : r1 = 0 ∨ r1 = 230 := hr1
        clear ho hr hw4 hr1 AR2 HWA g1
        go_wp2_with fail
        refine OP.out.mono ?_
        rintro e wb ⟨v, rfl, ho, _⟩
        have MD2 := Aside0.mk (HMEND.out wb D4 _ (by have := HI3.out; omega) ho)
        clear ho OP
        rcases hr1' with rfl | rfl
        all_goals (
          go_wp2_with fail
          refine MD2.out.mono ?_
          rintro e wc ⟨rfl, ho⟩
          have HO5 : Aside0 (Only w6 B1 g wc (mendD kl D4) (452 + 70 * (k + 1))) := ⟨ho.mono (by omega)⟩
          clear ho MD2
          go_wp2_with fail
          go_roundg k1
          case measure => omega
          case rel => exact ⟨k + 1, _, by go_num, HI3, HO5, ⟨HW4.out, rfl⟩⟩)
  · have HNA := Aside0.mk hna
    clear hna
    go_wp2_with fail
    refine CM1.out.mono ?_
    rintro e wm ⟨rfl, hb13⟩
    have MD := Aside0.mk (HMEND.out wm D2 452 (by omega) (hb13.only.mono (by omega)))
    clear hb13 CM1 HB9
    go_wp2_with fail
    refine MD.out.mono ?_
    rintro e wn ⟨rfl, ho⟩
    have HO := Aside0.mk ho
    clear ho MD
    go_wp2_with fail
    obtain ⟨N, hN⟩ : ∃ N, min n4 6 = N := ⟨_, rfl⟩
    go_loopg [16, 17, 18] N (fun kq v16 v17 v18 W => ∃ (k : Nat) (D3 : DS), v16 = .int .i64 (k : Int) ∧ Aside0 (k + kq = N) ∧ Aside0 (Only w6 B1 g W D3 (452 + 70 * k)) ∧ Aside0 (Wait 77 a (jw (tameL l1)) D1.f D3 ∧ D3.left = -1))
    case atStart => exact ⟨0, _, rfl, ⟨by omega⟩, HO, ⟨HW2.out kl, rfl⟩⟩
    case round =>
      clear HO HW2
      obtain ⟨k, D3, rfl, HI, HO, HK⟩ := hrel
      have hk0 : (0 : Int) ≤ (k : Int) := by omega
      cases gk with
      | zero =>
        have hk2 : (n4 : Int) ≤ k ∨ ((k : Int) < n4 ∧ k = 6) := by have := HI.out; omega
        have hk6 : k ≤ 6 := by have := HI.out; omega
        clear hN
        have hfin : ∃ D4, openD D3 = (0, D4) ∧ Idle 77 D4 ∧ openD D4 = (0, D4) ∧ ((a ∧ strOfNums (imgF D4.f 8) = So) ∨ strOfNums (imgF D4.f 8) = Sn) := by
          rcases open_out HK.out.1 (by omega) (by omega) with ⟨q1, q2, q3, q4⟩ | ⟨_, q2, _⟩
          · refine ⟨_, Prod.ext q1 rfl, q2, open_idle q2 (by omega), ?_⟩
            rcases q4 with ⟨ha, q4⟩ | q4
            · exact .inl ⟨ha, by rw [img_empty q4, HSO.out]⟩
            · exact .inr (by rw [img_empty q4, HSN.out])
          · exact absurd HK.out.2 q2
        obtain ⟨D4, r1, r2, r3, hfin⟩ := hfin
        have HI4 := Aside0.mk r2
        have HO4 := Aside0.mk r3
        have OP := open_only HO.out (by omega) ⟨by show (0 : Int) ≤ D3.n; rw [HK.out.1.n]; decide, by show D3.n ≤ (4096 : Int); rw [HK.out.1.n]; decide⟩
        rw [r1] at OP
        have OP := Aside0.mk OP
        clear r1 r2 r3
        have hfin2 : ∃ S, strOfNums (imgF D4.f 8) = S ∧ ((a ∧ S = So) ∨ S = Sn) := ⟨_, rfl, hfin⟩
        clear hfin
        obtain ⟨S, hS, hfin⟩ := hfin2
        have HS4 := Aside0.mk hS
        have HFIN := Aside0.mk hfin
        clear hS hfin
        rcases hk2 with hk2 | ⟨hk2, hk3⟩
        rotate_left
        subst hk3
        all_goals (
          go_wp2_with fail
          refine OP.out.mono ?_
          rintro e wb ⟨v, rfl, _, hgood⟩
          obtain ⟨lb2, rfl, hb⟩ := hgood (by trivial)
          have IM2 := image_both hb HI4.out.n HI4.out.down HI4.out.c
          rw [HS4.out] at IM2
          have IM2 := Aside0.mk IM2
          have HBB := Aside0.mk hb
          clear hb hgood OP
          go_wp2_with fail
          refine IM2.out.mono ?_
          rintro e wc ⟨rfl, fc⟩
          have OP2 := open_only (HBB.out.only.quiet fc) (by omega) ⟨by rw [HI4.out.n]; decide, by rw [HI4.out.n]; decide⟩
          rw [HO4.out] at OP2
          have OP2 := Aside0.mk OP2
          clear fc IM2
          go_wp2_with fail
          refine OP2.out.mono ?_
          rintro e wd ⟨v, rfl, _, hgood⟩
          obtain ⟨lb3, rfl, hb⟩ := hgood (by trivial)
          have IM3 := image_both hb HI4.out.n HI4.out.down HI4.out.c
          rw [HS4.out] at IM3
          have IM3 := Aside0.mk IM3
          have HBC := Aside0.mk hb
          clear hb hgood OP2
          go_wp2_with fail
          refine IM3.out.mono ?_
          rintro e we ⟨rfl, fe⟩
          have HFE : Aside0 (Fr (fun _ => False) w we) := ⟨(HFR.out _ _ _ HBC.out.only).trans fe (fun _ h => h.elim)⟩
          clear fe IM3
          have HS5 := HS4.out
          by_cases hs : S = Sn
          · subst hs
            clear HS5
            go_wp2_with fail
            go_ret
            exact ⟨rfl, HFE.out⟩
          · rcases HFIN.out with ⟨ha, hso⟩ | hso
            · first
              | exact absurd ha HNA.out
              | (subst hso
                 clear HS5
                 go_wp2_with fail
                 all_goals (
                   go_ret
                   exact ⟨rfl, HFE.out⟩))
            · exact absurd hso hs)
      | succ k1 =>
        have hk1 : (k : Int) < (n4 : Int) := by have := HI.out; omega
        have hk2 : (k : Int) < 6 := by have := HI.out; omega
        have HI3 : Aside0 (k + 1 + k1 = N) := ⟨by have := HI.out; omega⟩
        obtain ⟨ad, rfl, g1⟩ := Kd.at_int HL4.out (k : Int) (by omega) (by omega)
        obtain ⟨x, hx⟩ : ∃ x, rd al (k : Int) = x := ⟨_, rfl⟩
        rw [hx, Int.toNat_natCast] at g1
        have G1 := Aside0.mk g1
        obtain ⟨m2, hm2, hme⟩ := rest40 x
        have AR2 := Aside0.mk (arm_only HO.out (m2 : Int) (by omega) (by omega))
        have g1 := cellK (HFR.out _ _ _ HO.out) G1.out
        clear hx
        go_wp2_with fail
        refine AR2.out.mono ?_
        rintro e wa ⟨rfl, ho⟩
        have HWA := Aside0.mk (HK.out.1.arm (m2 : Int))
        have OP := open_only ho (by have := HI3.out; omega) ⟨by show (0 : Int) ≤ D3.n; rw [HK.out.1.n]; decide, by show D3.n ≤ (4096 : Int); rw [HK.out.1.n]; decide⟩
        have hkey : ((openD { D3 with left := (m2 : Int) }).1 = 0 ∨ (openD { D3 with left := (m2 : Int) }).1 = 230) ∧ Wait 77 a (jw (tameL l1)) D1.f (mendD kl (openD { D3 with left := (m2 : Int) }).2) := by
          rcases open_out HWA.out (by omega) (by omega) with ⟨q1, q2, q3, q4⟩ | ⟨q1, q2, q3, q4⟩
          · exact ⟨.inl q1, mend_idle kl q2 q4⟩
          · exact ⟨.inr q1, mend_out kl q3 (q4 _)⟩
        obtain ⟨r, hr⟩ : ∃ r, openD { D3 with left := (m2 : Int) } = r := ⟨_, rfl⟩
        rw [hr] at OP hkey
        obtain ⟨r1, D4⟩ := r
        have OP := Aside0.mk OP
        obtain ⟨hr1, hw4⟩ := hkey
        have HW4 : Aside0 (Wait 77 a (jw (tameL l1)) D1.f (mendD kl D4)) := ⟨hw4⟩
        have hr1' : r1 = 0 ∨ r1 = 230 := hr1
        clear ho hr hw4 hr1 AR2 HWA g1
        go_wp2_with fail
        refine OP.out.mono ?_
        rintro e wb ⟨v, rfl, ho, _⟩
        have MD2 := Aside0.mk (HMEND.out wb D4 _ (by have := HI3.out; omega) ho)
        clear ho OP
        rcases hr1' with rfl | rfl
        all_goals (
          go_wp2_with fail
          refine MD2.out.mono ?_
          rintro e wc ⟨rfl, ho⟩
          have HO5 : Aside0 (Only w6 B1 g wc (mendD kl D4) (452 + 70 * (k + 1))) := ⟨ho.mono (by omega)⟩
          clear ho MD2
          go_wp2_with fail
          go_roundg k1
          case measure => omega
          case rel => exact ⟨k + 1, _, by go_num, HI3, HO5, ⟨HW4.out, rfl⟩⟩)
end Go.Proofs.Ytppgbfkhiofjiaa.X
