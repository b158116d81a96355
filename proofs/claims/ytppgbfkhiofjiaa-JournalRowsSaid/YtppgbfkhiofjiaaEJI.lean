/-
  The journal: the contract of JournalRows.
-/
import Derived.Test.YtppgbfkhiofjiaaEJG
import Derived.Test.YtppgbfkhiofjiaaEOq
namespace Go.Proofs.Ytppgbfkhiofjiaa.X
open Go.RowKit Go.Proofs.YtppgbfkhiofjiaaW.PrintWords Go.Proofs.YtppgbfkhiofjiaaW.PrintLast Go.Proofs.YtppgbfkhiofjiaaW.PrintMore Go.Proofs.Ytppgbfkhiofjiaa.Y
set_option linter.unusedVariables false
set_option linter.unusedSimpArgs false

/-- What holds in each round: the disk idle, and the picture as it should be. -/
def JR (w W : World) (g : Nat) (v4 v5 : Value) (k : Nat) : Prop := ∃ lb D S, v4 = .pointer (some ⟨lb, 0, none⟩) ∧ v5 = .string S ∧ Both w (fun _ => False) g lb false W D (2 + 220 * k) ∧ Idle 77 D ∧ strOfNums (imgF D.f 8) = S

set_option maxHeartbeats 8000000 in
set_option maxRecDepth 100000 in
theorem jrows_calls (A0 : Option Addr) (c0 : Nat) (l : List OpJ) (w : World) (h0 : OpsJ w A0 l) (hl63 : l.length ≤ 9223372036854775807) :
    Calls Try.prog 8 #[.slice A0 l.length c0] w fun e w' => e = .returned (.bool true) ∧ Fr (fun _ => False) w w' := by
  obtain ⟨n0, hn0⟩ : ∃ n, l.length = n := ⟨_, rfl⟩
  rw [hn0]
  rw [hn0] at hl63
  have HL0 := Aside0.mk h0
  have HN0 := Aside0.mk hn0
  have WK := Aside0.mk (jworks_calls w)
  clear h0 hn0
  go_enter Try.func8, Try.ntmps8
  go_wp2_with fail
  refine WK.out.mono ?_
  rintro e w1 ⟨rfl, f1⟩
  have HF1 := Aside0.mk f1
  have FB := Aside0.mk (fresh_both 8 w1 (by omega) (by omega))
  clear f1 WK
  go_wp2_with fail
  refine FB.out.mono ?_
  rintro e w2 ⟨g, lb, rfl, hb2⟩
  have IM := image_both hb2 rfl rfl rfl
  obtain ⟨So, hSo⟩ : ∃ S, strOfNums (imgF (freshM (69 + 8)).f 8) = S := ⟨_, rfl⟩
  rw [hSo] at IM
  have IM := Aside0.mk IM
  have HB2 := Aside0.mk hb2
  have HSO := Aside0.mk hSo
  clear hb2 FB hSo
  go_wp2_with fail
  refine IM.out.mono ?_
  rintro e w3 ⟨rfl, f3⟩
  have HJ : Aside0 (JR w1 w3 g (.pointer (some ⟨lb, 0, none⟩)) (.string So) 0) := ⟨lb, _, So, rfl, rfl, HB2.out.quiet f3, idle_fresh 77, HSO.out⟩
  clear f3 IM HB2 HSO
  go_wp2_with fail
  obtain ⟨N, hN⟩ : ∃ N, min n0 30 = N := ⟨_, rfl⟩
  go_loopg [4, 5, 6] N (fun kq v4 v5 v6 W => ∃ (k : Nat), v6 = .int .i64 (k : Int) ∧ Aside0 (k + kq = N) ∧ Aside0 (JR w1 W g v4 v5 k))
  case atStart => exact ⟨0, rfl, ⟨by omega⟩, HJ⟩
  case round =>
    clear HJ
    obtain ⟨k, rfl, HI, HJ⟩ := hrel
    have hk0 : (0 : Int) ≤ (k : Int) := by omega
    obtain ⟨lb', D, S, rfl, rfl, hb, hid, hS⟩ := HJ.out
    have HB := Aside0.mk hb
    have HID := Aside0.mk hid
    have HS := Aside0.mk hS
    clear hb hid hS HJ
    cases gk with
    | zero =>
      have hk2 : (n0 : Int) ≤ k ∨ ((k : Int) < n0 ∧ k = 30) := by have := HI.out; omega
      have HE : Aside0 (Fr (fun _ => False) w wr) := ⟨HF1.out.trans HB.out.fr (fun _ h => h.elim)⟩
      clear hN
      rcases hk2 with hk2 | ⟨hk2, hk3⟩
      rotate_left
      subst hk3
      all_goals (
        go_wp2_with fail
        go_ret
        exact ⟨rfl, HE.out⟩)
    | succ k1 =>
      have hk1 : (k : Int) < (n0 : Int) := by have := HI.out; omega
      have hk2 : (k : Int) < 30 := by have := HI.out; omega
      have HI3 : Aside0 (k + 1 + k1 = N) := ⟨by have := HI.out; omega⟩
      obtain ⟨o, ho⟩ : ∃ o, l[k]? = some o := ⟨_, List.getElem?_eq_getElem (by rw [HN0.out]; omega)⟩
      obtain ⟨ad, rfl, hat⟩ := HL0.out k o ho
      obtain ⟨g1, g2, hwf, ⟨A1, p1, g3, hC1, hp1⟩, ⟨A3, p3, g4, hC3, hp3⟩, _⟩ := hat
      obtain ⟨kd, hkd⟩ : ∃ kd, o.kind = kd := ⟨_, rfl⟩
      obtain ⟨nn, hnn⟩ : ∃ n, o.n = n := ⟨_, rfl⟩
      obtain ⟨lw, hlw⟩ : ∃ x, o.w = x := ⟨_, rfl⟩
      obtain ⟨kp, hkp⟩ : ∃ x, o.keep = x := ⟨_, rfl⟩
      rw [hkd] at g1
      rw [hnn] at g2
      rw [hlw] at g3 hC1
      rw [hkp] at g4 hC3
      obtain ⟨nw, hnw⟩ : ∃ x, lw.length = x := ⟨_, rfl⟩
      obtain ⟨nk, hnk⟩ : ∃ x, kp.length = x := ⟨_, rfl⟩
      rw [hnw] at g3 hC1
      rw [hnk] at g4 hC3
      have HF : Aside0 (Fr (fun _ => False) w wr) := ⟨HF1.out.trans HB.out.fr (fun _ h => h.elim)⟩
      have G1 := Aside0.mk g1
      have G2 := Aside0.mk g2
      have G3 := Aside0.mk g3
      have G4 := Aside0.mk g4
      have HC1 := Aside0.mk hC1
      have HC3 := Aside0.mk hC3
      have HNW := Aside0.mk hnw
      have HNK := Aside0.mk hnk
      clear g1 g2 g3 g4 hC1 hC3 hp1 hp3 hwf ho hnw hnk hlw hkp hkd hnn
      have g1 := cellK HF.out G1.out
      by_cases hkd : kd = 2
      · subst hkd
        have g2 := cellK HF.out G2.out
        obtain ⟨m, hm60, hm⟩ := rest60 nn
        have AR := Aside0.mk (arm_both HB.out (m : Int) (by omega) (by omega))
        go_wp2_with fail
        refine AR.out.mono ?_
        rintro e wa ⟨rfl, hb⟩
        have HJ2 : Aside0 (JR w1 wa g (.pointer (some ⟨lb', 0, none⟩)) (.string S) (k + 1)) := ⟨lb', _, S, rfl, rfl, ⟨hb.1.mono (by omega), hb.2⟩, HID.out.arm _, HS.out⟩
        clear hb AR g1 g2
        go_wp2_with fail
        go_roundg k1
        case measure => omega
        case rel => exact ⟨k + 1, by go_num, HI3, HJ2⟩
      · have g3 := cellK HF.out G3.out
        have TM := tame_calls A1 p1 nw lw wr HNW.out HC1.out.2.1 (Kd.C_below HC1.out (HF.out.below (fun _ h => h.elim) (Nat.le_refl _)))
        obtain ⟨t0, ht0⟩ : ∃ n, (tameL lw).length = n := ⟨_, rfl⟩
        have HT0 := Aside0.mk ht0
        rw [ht0] at TM
        have TM := Aside0.mk TM
        clear ht0
        go_wp2_with fail
        refine TM.out.mono ?_
        rintro e wa ⟨A', c', rfl, hc', hmade, fa⟩
        obtain ⟨B1, hB1, hbase⟩ := HB.out.base
        have WR := Aside0.mk (writes_tame A' c' t0 lw wr wa B1 hmade HT0.out hc' (fun k h => (hB1 k h).2) (Fr.refl _ _))
        have HBA := Aside0.mk (hbase wa fa)
        have HMD := Aside0.mk hmade
        have HBS : Aside0 (∀ k, B1 k → w1.heap.size ≤ k) := ⟨fun k h => (hB1 k h).1.elim (fun h => h.elim) (fun h => h)⟩
        have HBL : Aside0 (∀ k, B1 k → k < wr.heap.size) := ⟨fun k h => (hB1 k h).2⟩
        have HFA : Aside0 (Fr (fun _ => False) w1 wa) := ⟨HB.out.fr.trans fa (fun _ h => h.elim)⟩
        have HLG := Aside0.mk HB.out.long
        clear hmade hc' fa hB1 hbase TM g1 g3
        go_wp2_with fail
        refine WR.out.mono ?_
        rintro e wb ⟨Ax, cx, rfl, hmade, fb⟩
        have CM := com_both HBA.out fb (cp := cx) hmade (by rw [jw_length]; exact HT0.out) (by have := tameL_le lw; have := HT0.out; omega) (by have := HI3.out; omega) ⟨by show (0 : Int) ≤ D.n; rw [HID.out.n]; decide, by show D.n ≤ (4096 : Int); rw [HID.out.n]; decide⟩
        clear hmade fb WR
        have hnx := laid_next HLG.out (tame_ok lw)
        rw [HS.out] at hnx
        obtain ⟨Sn, hSn⟩ : ∃ S, strOfNums (imgF (nextF (jw (tameL lw)) D.f) 8) = S := ⟨_, rfl⟩
        rw [hSn] at hnx
        have hsz : S.size = 512 := by
          rw [← HS.out]
          have := img_length HLG.out 8
          unfold strOfNums
          simp [ByteArray.size, this]
        have HLD : Aside0 (∀ W, Fr B1 wa W → Calls Try.prog 32 #[.string S, .slice A' t0 c'] W fun e w' => e = .returned (.string Sn) ∧ Fr (fun _ => False) W w') := ⟨fun W fw => by
          have := laid_calls S A' c' t0 (tameL lw) W hsz HT0.out (by have := tameL_le lw; have := HT0.out; omega) (HMD.out B1 W HBL.out fw) (tame_ok lw)
          rw [hnx] at this
          exact this⟩
        have HSN := Aside0.mk hSn
        clear hnx hSn hsz
        rcases commit_out HID.out (by omega) (fits_tame lw) with ⟨q1, q2, q3, q4, q5⟩ | ⟨q1, q2, q3, q4, q5⟩
        · obtain ⟨r, hr⟩ : ∃ r, logC (jw (tameL lw)) D false = r := ⟨_, rfl⟩
          rw [hr] at CM q1 q2 q3 q5
          obtain ⟨r1, D2, r3⟩ := r
          have q1' : r1 = 0 := q1
          have q2' : r3 = false := q2
          subst q1' q2'
          have HI2 : Aside0 (Idle 77 D2) := ⟨q3⟩
          have HE2 : Aside0 (Empty 77 D2.f (nextF (jw (tameL lw)) D.f)) := ⟨q5⟩
          have CM := Aside0.mk CM
          clear hr q1 q2 q3 q4 q5
          go_wp2_with fail
          refine CM.out.mono ?_
          rintro e wc ⟨rfl, hb⟩
          have LD := Aside0.mk (HLD.out wc hb.fr)
          have HBC := Aside0.mk hb
          clear hb CM
          go_wp2_with fail
          refine LD.out.mono ?_
          rintro e wd ⟨rfl, fd⟩
          have hb := HBC.out.quiet fd
          have IM2 := image_both hb HI2.out.n HI2.out.down HI2.out.c
          rw [img_empty HE2.out, HSN.out] at IM2
          have IM2 := Aside0.mk IM2
          have HBD := Aside0.mk hb
          clear hb fd LD
          go_wp2_with fail
          refine IM2.out.mono ?_
          rintro e we ⟨rfl, fe⟩
          have HJ2 : Aside0 (JR w1 we g (.pointer (some ⟨lb', 0, none⟩)) (.string Sn) (k + 1)) := ⟨lb', D2, Sn, rfl, rfl, by
            have h := (HBD.out.quiet fe).back (fun k h => .inr (HBS.out k h)) HFA.out
            exact ⟨h.1.mono (by omega), h.2⟩, HI2.out, by rw [img_empty HE2.out, HSN.out]⟩
          clear fe IM2
          go_wp2_with fail
          go_roundg k1
          case measure => omega
          case rel => exact ⟨k + 1, by go_num, HI3, HJ2⟩
        · obtain ⟨r, hr⟩ : ∃ r, logC (jw (tameL lw)) D false = r := ⟨_, rfl⟩
          rw [hr] at CM q1 q2 q4 q5
          obtain ⟨r1, D2, r3⟩ := r
          have q1' : r1 = 230 := q1
          have q2' : r3 = true := q2
          subst q1' q2'
          have hW : Wait 77 True (jw (tameL lw)) D.f (mendD kp D2) := mend_out kp q4 (q5 _)
          have hfin : ∃ D4, openD (mendD kp D2) = (0, D4) ∧ Idle 77 D4 ∧ (strOfNums (imgF D4.f 8) = S ∨ strOfNums (imgF D4.f 8) = Sn) := by
            rcases open_out hW (by omega) (by omega) with ⟨q1, q2, q3, q4⟩ | ⟨_, q2, _⟩
            · refine ⟨_, Prod.ext q1 rfl, q2, ?_⟩
              rcases q4 with ⟨ha, q4⟩ | q4
              · exact .inl (by rw [img_empty q4, HS.out])
              · exact .inr (by rw [img_empty q4, HSN.out])
            · exact absurd rfl q2
          obtain ⟨D4, r1, r2, hfin⟩ := hfin
          have hfin2 : ∃ S4, strOfNums (imgF D4.f 8) = S4 ∧ (S4 = S ∨ S4 = Sn) := ⟨_, rfl, hfin⟩
          clear hfin
          obtain ⟨S4, hS4, hfin⟩ := hfin2
          have HN3 : Aside0 ((mendD kp D2).n = 77) := ⟨hW.n⟩
          have HO3 := Aside0.mk r1
          have HI4 := Aside0.mk r2
          have HS4 := Aside0.mk hS4
          have HFIN := Aside0.mk hfin
          have CM := Aside0.mk CM
          clear hr q1 q2 q4 q5 hW r1 r2 hS4 hfin
          go_wp2_with fail
          refine CM.out.mono ?_
          rintro e wc ⟨rfl, hb⟩
          have LD := Aside0.mk (HLD.out wc hb.fr)
          have HBC := Aside0.mk hb
          clear hb CM
          go_wp2_with fail
          refine LD.out.mono ?_
          rintro e wd ⟨rfl, fd⟩
          have hb := HBC.out.quiet fd
          have HFD : Aside0 (Fr (fun _ => False) w wd) := ⟨(HF1.out.trans HFA.out (fun _ h => h.elim)).trans hb.fr (fun k hk => .inr (Nat.le_trans HF1.out.size (HBS.out k hk)))⟩
          have g4 := cellK HFD.out G4.out
          have MD := mend_only hb.only (by have := HI3.out; omega) A3 p3 kp (by rw [HNK.out]; exact Kd.C_below HC3.out (HFD.out.below (fun _ h => h.elim) (Nat.le_refl _))) (fun ad e h9 => by
            subst e
            have hlt := Kd.C_lt HC3.out (by have := HNK.out; omega) (by decide)
            exact ⟨fun hB => by have := HBS.out _ hB; have := HF1.out.size; omega, Nat.lt_of_lt_of_le hlt (Nat.le_trans HF1.out.size HFA.out.size)⟩)
          rw [HNK.out] at MD
          have MD := Aside0.mk MD
          clear hb fd LD
          go_wp2_with fail
          refine MD.out.mono ?_
          rintro e we ⟨rfl, ho⟩
          have OP := open_only ho (by have := HI3.out; omega) ⟨by rw [HN3.out]; decide, by rw [HN3.out]; decide⟩
          rw [HO3.out] at OP
          have OP := Aside0.mk OP
          clear ho MD g4
          go_wp2_with fail
          refine OP.out.mono ?_
          rintro e wf ⟨v, rfl, _, hgood⟩
          obtain ⟨lb2, rfl, hb⟩ := hgood (by trivial)
          have IM2 := image_both hb HI4.out.n HI4.out.down HI4.out.c
          rw [HS4.out] at IM2
          have IM2 := Aside0.mk IM2
          have HBF := Aside0.mk hb
          clear hb hgood OP
          go_wp2_with fail
          refine IM2.out.mono ?_
          rintro e wh ⟨rfl, fh⟩
          have HJ2 : Aside0 (JR w1 wh g (.pointer (some ⟨lb2, 0, none⟩)) (.string S4) (k + 1)) := ⟨lb2, D4, S4, rfl, rfl, by
            have h := (HBF.out.quiet fh).back (fun k h => .inr (HBS.out k h)) HFA.out
            exact ⟨h.1.mono (by omega), h.2⟩, HI4.out, HS4.out⟩
          clear fh IM2
          by_cases hs : S4 = S
          · subst hs
            go_wp2_with fail
            go_roundg k1
            case measure => omega
            case rel => exact ⟨k + 1, by go_num, HI3, HJ2⟩
          · have hs2 : S4 = Sn := HFIN.out.resolve_left hs
            subst hs2
            go_wp2_with fail
            all_goals (
              go_roundg k1
              case measure => omega
              case rel => exact ⟨k + 1, by go_num, HI3, HJ2⟩)
end Go.Proofs.Ytppgbfkhiofjiaa.X
