/-
  The contracts of the reference's Flush and Mend.
-/
import Derived.Test.YtppgbfkhiofjiaaER2
namespace Go.Proofs.Ytppgbfkhiofjiaa.X
open Go.RowKit Go.Proofs.YtppgbfkhiofjiaaW.PrintWords Go.Proofs.YtppgbfkhiofjiaaW.PrintLast Go.Proofs.YtppgbfkhiofjiaaW.PrintMore
set_option linter.unusedVariables false
set_option linter.unusedSimpArgs false

/-- One pending write in the cells. -/
theorem RefAt.pend {w : World} {R : Nat → Prop} {r : Nat} {D : DS} {lv pv : Value} {qs : List (Int × Value)} {n : Nat} (h : RefAt w R r D lv pv qs n) {i : Nat} (hi : i < D.c.length) :
    ∃ p q gb cap, D.c[i]? = some p ∧ qs[i]? = some q ∧ q.1 = p.1 ∧ pv = .slice (some ⟨gb, 0, none⟩) D.c.length cap ∧ w.cell? ⟨gb, i * 2, none⟩ = some (.int .i64 q.1) ∧ w.cell? ⟨gb, i * 2 + 1, none⟩ = some q.2 := by
  obtain ⟨lb, h1, h2, h3, h4, h5, h6, h7, h8, h9, h10, h11, h12, h13⟩ := h
  obtain ⟨p, hp⟩ : ∃ p, D.c[i]? = some p := ⟨_, List.getElem?_eq_getElem hi⟩
  obtain ⟨q, hq⟩ : ∃ q, qs[i]? = some q := ⟨_, List.getElem?_eq_getElem (by rw [h11.1]; exact hi)⟩
  rcases h10.2 with ⟨_, hz⟩ | ⟨gb, cap, cur, e, _⟩
  · omega
  · have hc := h10.cells (g := gb) (by rw [e]; rfl)
    obtain ⟨a1, a2⟩ := encW_at qs i q hq
    refine ⟨p, q, gb, cap, hp, hq, (h11.2 i p q hp hq).1, e, ?_, ?_⟩
    · have := hc _ _ a1
      rwa [Addr.add_mid, Nat.zero_add] at this
    · have := hc _ _ a2
      rwa [Addr.add_mid, Nat.zero_add] at this
theorem RefAt.pv {w : World} {R : Nat → Prop} {r : Nat} {D : DS} {lv pv : Value} {qs : List (Int × Value)} {n : Nat} (h : RefAt w R r D lv pv qs n) : (∃ A cap, pv = .slice A D.c.length cap) ∧ w.cell? ⟨r, 1, none⟩ = some pv ∧ w.frozen? ⟨r, 1, none⟩ = false ∧ r < w.heap.size := by
  have hlt := h.is.lt
  obtain ⟨lb, h1, h2, h3, h4, h5, h6, h7, h8, h9, h10, h11, h12, h13⟩ := h
  obtain ⟨A, c, e, _⟩ := q_slice (q_of_own h10)
  exact ⟨⟨A, c, e⟩, by rw [cell_of_row w r _ _ 81 (0, 0) h1]; rfl, frozen_of_row w r _ _ 81 h1, hlt r h2⟩
theorem settleF_false (kp : Nat → Bool) : ∀ (c : List (Int × List Int)) (i : Nat) (f : Int → List Int), (∀ j, i ≤ j → kp j = false) → settleF kp i c f = f
  | [], i, f, _ => rfl
  | p :: c, i, f, h => by
    rw [settleF, if_neg (by rw [h i (Nat.le_refl _)]; decide), settleF_false kp c (i + 1) f (fun j hj => h j (by omega))]

set_option maxHeartbeats 4000000 in
set_option maxRecDepth 100000 in
theorem rflush_calls (r : Nat) (R : Nat → Prop) (D : DS) (w : World) (h : IsRef w R r D) (hs : -1 ≤ D.steps ∧ D.steps < 9223372036854775807) (hl : D.left ≤ 9223372036854775807) (hc : D.c.length ≤ 1000000) :
    Calls Try.prog 51 #[.pointer (some ⟨r, 0, none⟩)] w fun e w' => e = .returned (.int .i64 (flushD D).1) ∧ IsRef w' R r (flushD D).2 ∧ Fr R w w' := by
  have H := Aside0.mk h
  obtain ⟨lv, pv, c0, c1, c2, c3, c4, cf, hlt⟩ := h.cells
  obtain ⟨dd, hdd⟩ : ∃ dd, D.down = dd := ⟨_, rfl⟩
  have HDD := Aside0.mk hdd
  rw [hdd] at c3
  have ST := Aside0.mk (fails_calls r R D w h hs hl)
  clear c0 c1 c2 c4 cf h hdd hs hl
  cases dd with
  | true =>
    have RR : Aside0 (flushD D = (230, D)) := ⟨by unfold flushD; rw [if_pos HDD.out]⟩
    go_enter Try.func51, Try.ntmps51
    go_wp2
    go_ret
    rw [RR.out]
    exact ⟨rfl, H.out, Fr.refl _ _⟩
  | false =>
    obtain ⟨ok, hok⟩ : ∃ ok, (stepD D).1 = ok := ⟨_, rfl⟩
    have RR : Aside0 (flushD D = if ok = true then (0, settleD (fun _ => true) (stepD D).2) else (230, (stepD D).2)) := ⟨by unfold flushD; rw [HDD.out, hok]; rfl⟩
    rw [hok] at ST
    have hc2 : (stepD D).2.c.length ≤ 1000000 := by rw [(stepD_c D).1]; exact hc
    generalize (stepD D).2 = D2 at *
    clear hok hc
    cases ok with
    | false =>
      go_enter Try.func51, Try.ntmps51
      go_wp2_with fail
      refine ST.out.mono ?_
      rintro e w2 ⟨rfl, hd2, hf2⟩
      have HD2 := Aside0.mk hd2
      have HF2 := Aside0.mk hf2
      clear hd2 hf2
      go_wp2
      go_ret
      rw [RR.out]
      exact ⟨rfl, HD2.out, HF2.out⟩
    | true =>
      go_enter Try.func51, Try.ntmps51
      go_wp2_with fail
      refine ST.out.mono ?_
      rintro e w2 ⟨rfl, hd2, hf2⟩
      obtain ⟨lv2, pv2, qs, n, hat⟩ := hd2.at
      obtain ⟨⟨A, cap, hpv⟩, _⟩ := hat.pv
      obtain ⟨N, hN⟩ : ∃ N, D2.c.length = N := ⟨_, rfl⟩
      have HN := Aside0.mk hN
      rw [hN] at hpv
      subst hpv
      have HAT := Aside0.mk hat
      have HF2 := Aside0.mk hf2
      rw [hN] at hc2
      clear hd2 hf2 hat hN
      go_wp2_with fail
      go_loopg [3] N (fun kq v3 w' => ∃ (i : Nat) (f : Int → List Int), v3 = .int .i64 (i : Int) ∧ Aside0 (i + kq = N) ∧ Aside0 (settleF (fun _ => true) i (D2.c.drop i) f = settleF (fun _ => true) 0 D2.c D2.f) ∧ Aside0 (RefAt w' R r { D2 with f := f } lv2 (.slice A N cap) qs n) ∧ Aside0 (Fr R w w'))
      case atStart => exact ⟨0, D2.f, rfl, ⟨by omega⟩, ⟨by rw [List.drop_zero]⟩, HAT, HF2⟩
      case round =>
        clear HAT HF2
        obtain ⟨i, f, rfl, HI, HS, HAT, HF2⟩ := hrel
        obtain ⟨_, c1, f1, hlt2⟩ := HAT.out.pv
        cases gk with
        | zero =>
          have hi : i = N := by have := HI.out; omega
          subst hi
          have P := HAT.out.is.putNil
          have HP := Aside0.mk P
          clear P
          go_wp2_with fail
          go_ret
          rw [RR.out]
          have hs := HS.out
          rw [List.drop_of_length_le (by rw [HN.out]; exact Nat.le_refl _)] at hs
          have hs : f = settleF (fun _ => true) 0 D2.c D2.f := hs
          refine ⟨rfl, ?_, HF2.out.trans HP.out.2 (fun k h => .inl h)⟩
          show IsRef _ R r (settleD (fun _ => true) D2)
          have := HP.out.1
          unfold settleD
          rw [← hs]
          exact this
        | succ k1 =>
          have hi : i < N := by have := HI.out; omega
          have hi0 : (0 : Int) ≤ (i : Int) := by omega
          have hi1 : (i : Int) < (N : Int) := by omega
          obtain ⟨p, q, gb, cap', hp, hq, hpq, epv, d1, d2⟩ := HAT.out.pend (i := i) (by show i < D2.c.length; rw [HN.out]; exact hi)
          injection epv with e1 e2 e3
          subst e1
          have HPQ := Aside0.mk hpq
          have HP := Aside0.mk hp
          have LS := Aside0.mk (lasts_calls' r R { D2 with f := f } lv2 (.slice (some ⟨gb, 0, none⟩) N cap) qs n wr HAT.out i p q hp hq)
          have hpd : D2.c[i]? = some p := hp
          have HS3 : Aside0 (settleF (fun _ => true) (i + 1) (D2.c.drop (i + 1)) (upd f p.1 p.2) = settleF (fun _ => true) 0 D2.c D2.f) := ⟨by rw [← HS.out, settleF_drop _ _ _ _ hpd, if_pos rfl]⟩
          have HI3 : Aside0 (i + 1 + k1 = N) := ⟨by have := HI.out; omega⟩
          clear hp hq hpq e2 e3 hpd
          go_wp2_with fail
          refine LS.out.mono ?_
          rintro e w3 ⟨rfl, ha3, hf3⟩
          have HA3 := Aside0.mk ha3
          have HF3 : Aside0 (Fr R w w3) := ⟨HF2.out.trans hf3 (fun k h => .inl h)⟩
          clear ha3 hf3
          go_wp2_with fail
          go_roundg k1
          case measure => omega
          case rel => exact ⟨i + 1, upd f p.1 p.2, by go_num, HI3, HS3, HA3, HF3⟩

set_option maxHeartbeats 4000000 in
set_option maxRecDepth 100000 in
theorem rmend_calls (r : Nat) (R : Nat → Prop) (D : DS) (B : Option Addr) (cp : Nat) (l : List Bool) (w : World) (h : IsRef w R r D) (hc : D.c.length ≤ 1000000) (hl : Kd.C Kd.bool w B l.length l) (hdis : ∀ ad, B = some ad → 0 < l.length → ¬ R ad.block) :
    Calls Try.prog 24 #[.pointer (some ⟨r, 0, none⟩), .slice B l.length cp] w fun e w' => e = .returned (.tuple #[]) ∧ IsRef w' R r (mendD l D) ∧ Fr R w w' := by
  have HL := Aside0.mk hl
  have HDI := Aside0.mk hdis
  obtain ⟨lv2, pv2, qs, n, hat⟩ := h.at
  obtain ⟨⟨A, cap, hpv⟩, _⟩ := hat.pv
  obtain ⟨N, hN⟩ : ∃ N, D.c.length = N := ⟨_, rfl⟩
  have HN := Aside0.mk hN
  rw [hN] at hpv
  subst hpv
  have HAT := Aside0.mk hat
  have HF2 := Aside0.mk (Fr.refl R w)
  rw [hN] at hc
  obtain ⟨M, hM⟩ : ∃ M, min N l.length = M := ⟨_, rfl⟩
  clear hat hN h hl hdis
  go_enter Try.func24, Try.ntmps24
  go_wp2_with fail
  go_loopg [4] M (fun kq v4 w' => ∃ (i : Nat) (f : Int → List Int), v4 = .int .i64 (i : Int) ∧ Aside0 (i + kq = M) ∧ Aside0 (settleF (keepB l) i (D.c.drop i) f = settleF (keepB l) 0 D.c D.f) ∧ Aside0 (RefAt w' R r { D with f := f } lv2 (.slice A N cap) qs n) ∧ Aside0 (Fr R w w'))
  case atStart => exact ⟨0, D.f, rfl, ⟨by omega⟩, ⟨by rw [List.drop_zero]⟩, HAT, HF2⟩
  case round =>
    clear HAT HF2
    obtain ⟨i, f, rfl, HI, HS, HAT, HF2⟩ := hrel
    obtain ⟨_, c1, f1, hlt2⟩ := HAT.out.pv
    have hi0 : (0 : Int) ≤ (i : Int) := by omega
    cases gk with
    | zero =>
      have hor : N ≤ i ∨ (i < N ∧ l.length ≤ i) := by have := HI.out; omega
      have hs : f = settleF (keepB l) 0 D.c D.f := by
        rw [← HS.out]
        rcases hor with h | ⟨_, h⟩
        · rw [List.drop_of_length_le (by rw [HN.out]; exact h)]
          rfl
        · exact (settleF_false _ _ _ _ (fun j hj => by unfold keepB; rw [decide_eq_false (by omega)]; rfl)).symm
      have HSS := Aside0.mk hs
      have P := HAT.out.is.putNil
      have P2 := P.1.putLeft (-1)
      have P3 := P2.1.putDown false
      have HP := Aside0.mk P
      have HP2 := Aside0.mk P2
      have HP3 := Aside0.mk P3
      obtain ⟨_, _, _, _, x2, x3, _, xf, _⟩ := HAT.out.is.cells
      have xf2 := xf 2
      have xf3 := xf 3
      clear P P2 P3 hs xf
      rcases hor with hor | ⟨hor, hor2⟩
      all_goals (
        go_wp2_with fail
        go_end0
        refine ⟨rfl, ?_, ((HF2.out.trans HP.out.2 (fun k h => .inl h)).trans HP2.out.2 (fun k h => .inl h)).trans HP3.out.2 (fun k h => .inl h)⟩
        show IsRef _ R r (mendD l D)
        have := HP3.out.1
        unfold mendD settleD
        rw [← HSS.out]
        exact this)
    | succ k1 =>
      have hi : i < N := by have := HI.out; omega
      have hi2 : i < l.length := by have := HI.out; omega
      have hi1 : (i : Int) < (N : Int) := by omega
      have hi3 : (i : Int) < (l.length : Int) := by omega
      obtain ⟨p, q, gb, cap', hp, hq, hpq, epv, d1, d2⟩ := HAT.out.pend (i := i) (by show i < D.c.length; rw [HN.out]; exact hi)
      injection epv with e1 e2 e3
      subst e1
      obtain ⟨ad, rfl, hx⟩ := Kd.at_bool (C_fr false HL.out HF2.out HDI.out) (i : Int) hi0 hi3
      rw [Int.toNat_natCast] at hx
      have HPQ := Aside0.mk hpq
      have LS := Aside0.mk (lasts_calls' r R { D with f := f } lv2 (.slice (some ⟨gb, 0, none⟩) N cap) qs n wr HAT.out i p q hp hq)
      have hpd : D.c[i]? = some p := hp
      have hkb : keepB l i = rdOf false l (i : Int) := by unfold keepB rdOf; rw [decide_eq_true hi2, Int.toNat_natCast]; rfl
      have HS3 : Aside0 (settleF (keepB l) (i + 1) (D.c.drop (i + 1)) (if rdOf false l (i : Int) = true then upd f p.1 p.2 else f) = settleF (keepB l) 0 D.c D.f) := ⟨by rw [← HS.out, settleF_drop _ _ _ _ hpd, hkb]⟩
      have HI3 : Aside0 (i + 1 + k1 = M) := ⟨by have := HI.out; omega⟩
      clear hp hq hpq e2 e3 hpd hkb
      generalize rdOf false l (i : Int) = kv at hx HS3
      cases kv with
      | true =>
        rw [if_pos rfl] at HS3
        go_wp2_with fail
        refine LS.out.mono ?_
        rintro e w3 ⟨rfl, ha3, hf3⟩
        have HA3 := Aside0.mk ha3
        have HF3 : Aside0 (Fr R w w3) := ⟨HF2.out.trans hf3 (fun k h => .inl h)⟩
        clear ha3 hf3
        go_wp2_with fail
        go_roundg k1
        case measure => omega
        case rel => exact ⟨i + 1, upd f p.1 p.2, by go_num, HI3, HS3, HA3, HF3⟩
      | false =>
        rw [if_neg (by decide)] at HS3
        go_wp2_with fail
        go_roundg k1
        case measure => omega
        case rel => exact ⟨i + 1, f, by go_num, HI3, HS3, HAT, HF2⟩
end Go.Proofs.Ytppgbfkhiofjiaa.X
