/-
  The contract of edits.Compose: what two scripts do, one behind the other.
-/
import Derived.Test.YtpkhfeeelkhkaaaEMake
import Derived.Test.YtpkhfeeelkhkaaaEKeep
namespace Go.Proofs.Ytpkhfeeelkhkaaa.X
open Go.RowKit Go.Proofs.YtpkhfeeelkhkaaaW.PrintWords Go.Proofs.YtpkhfeeelkhkaaaW.PrintLast Go.Proofs.YtpkhfeeelkhkaaaW.PrintMore
attribute [local go_sem] Oper.semAt_some
set_option linter.unusedVariables false
set_option linter.unusedSimpArgs false

def thenL (q : List Int) (t : Int) : Int := if 0 ≤ t then rd q t else t
def edits_Compose.f (l0 l1 : List S54) (a2 a3 a4 : Int) : Option (List S54 × Int) :=
  (edits_Keep.f l0 a2 a3).bind fun p => if p.2 = 0 then
    ((edits_Keep.f l1 a3 a4).bind fun q => if q.2 = 0 then (if ∀ t ∈ p.1, t < q.1.length then edits_Make.f (p.1.map (thenL q.1)) a4 else none) else some ([], q.2))
  else some ([], p.2)

/-- What has been put through so far. -/
def thenTo (p q : List Int) (i : Nat) : List Int := (p.take i).map (thenL q) ++ p.drop i
theorem thenTo_length (p q : List Int) (i : Nat) : (thenTo p q i).length = p.length := by simp [thenTo]; omega
theorem thenTo_get (p q : List Int) (i : Nat) (h : i < p.length) : (thenTo p q i)[i]? = some p[i] := by
  unfold thenTo
  rw [List.getElem?_append_right (by simp; omega)]
  simp [show i - min i p.length = 0 by omega, List.getElem?_eq_getElem h]
theorem thenTo_set (p q : List Int) (i : Nat) (h : i < p.length) : (thenTo p q i).set i (thenL q p[i]) = thenTo p q (i + 1) := by
  unfold thenTo
  rw [List.set_append_right _ _ (by simp; omega), List.length_map, List.length_take, show i - min i p.length = 0 by omega, List.drop_eq_getElem_cons h, List.set_cons_zero, List.take_add_one, List.getElem?_eq_getElem h, List.map_append, List.append_assoc]
  rfl
theorem thenTo_keep (p q : List Int) (i : Nat) (h : i < p.length) (hn : ¬ 0 ≤ p[i]) : thenTo p q i = thenTo p q (i + 1) := by
  rw [← thenTo_set p q i h]
  have hl : i < (thenTo p q i).length := by rw [thenTo_length]; exact h
  have hg : (thenTo p q i)[i] = thenL q p[i] := by
    have := thenTo_get p q i h
    rw [List.getElem?_eq_getElem hl] at this
    injection this with this
    rw [this]
    unfold thenL
    rw [if_neg hn]
  rw [← hg, List.set_getElem_self]

/-- Numbers that were read are read still, where another block is set. -/
theorem readsI_set {A : World} {A1 : Option Addr} {xs : List Int} (hC : Kd.C (Kd.int .i64) A A1 xs.length xs) {pp : Addr} (u : Value) (hA : ∀ ad, A1 = some ad → 0 < xs.length → ad.block ≠ pp.block) : Kd.C (Kd.int .i64) (A.setCell pp u) A1 xs.length xs := by
  refine ⟨hC.1, hC.2.1, fun hn => ?_⟩
  obtain ⟨ad, e, hc⟩ := hC.2.2 hn
  have h1 := hA ad e hn
  refine ⟨ad, e, fun j p hj => ?_⟩
  obtain ⟨c, hs, hr, hcell⟩ := hc j p hj
  refine ⟨c, hs, hr, fun i u' hu => (cell_of_heap (p := ad.add (j * 1 + i)) (Below.heap_setCell _ _ _ _ ?_)).trans (hcell i u' hu)⟩
  rw [show (ad.add (j * 1 + i)).block = ad.block from by unfold Addr.add; split <;> rfl]
  exact h1

set_option maxHeartbeats 2000000 in
set_option maxRecDepth 100000 in
theorem edits_Compose.calls (A0 : Option Addr) (c0 : Nat) (l0 : List S54) (A1 : Option Addr) (c1 : Nat) (l1 : List S54) (a2 a3 a4 : Int) (r1 : List S54) (r2 : Int) (w : World) (hr0 : Kd.C k54 w A0 l0.length l0) (hc0 : l0.length ≤ c0)
    (hr1 : Kd.C k54 w A1 l1.length l1) (hc1 : l1.length ≤ c1) (h : edits_Compose.f l0 l1 a2 a3 a4 = some (r1, r2)) :
    Calls Try.prog 23 #[.slice A0 l0.length c0, .slice A1 l1.length c1, .int .i64 a2, .int .i64 a3, .int .i64 a4] w fun e w' => ∃ v0_ : Value, e = .returned (.tuple #[v0_, .int .i64 r2]) ∧ Kd.R k54 54 w' w.heap.size (fun _ => True) v0_ r1 ∧ Below w.heap.size w w' := by
  have hu54 := Try.underlying54
  have HR0 := Aside0.mk hr0
  have HC0 := Aside0.mk hc0
  have HR1 := Aside0.mk hr1
  have HC1 := Aside0.mk hc1
  clear hr0 hc0 hr1 hc1
  unfold edits_Compose.f at h
  rw [Option.bind_eq_some_iff] at h
  obtain ⟨⟨p, e1⟩, hp, h⟩ := h
  dsimp only at h
  have HP := Aside0.mk hp
  clear hp
  go_enter Try.func23, Try.ntmps23
  go_wp2_with fail
  refine (edits_Keep.calls A0 c0 l0 a2 a3 p e1 w HR0.out HC0.out HP.out).mono ?_
  rintro e w1 ⟨vp, rfl, hRp, hBp⟩
  have HRP := Aside0.mk hRp
  have HBP := Aside0.mk hBp
  clear hRp hBp
  by_cases he1 : e1 = 0
  rotate_left
  · rw [if_neg he1] at h
    injection h with h
    injection h with h1 h2
    subst h1
    subst h2
    have q1 : (e1 == 0) = false := by simpa using he1
    have q2 : (e1 != 0) = true := by simpa using he1
    go_wp2
    go_ret2
    exact ⟨_, rfl, Kd.R_nil _ _ _ _ _, HBP.out⟩
  rw [if_pos he1] at h
  subst he1
  rw [Option.bind_eq_some_iff] at h
  obtain ⟨⟨q, e2⟩, hq, h⟩ := h
  dsimp only at h
  have HQ := Aside0.mk hq
  clear hq
  go_wp2_with fail
  refine (edits_Keep.calls A1 c1 l1 a3 a4 q e2 w1 (Kd.C_below HR1.out HBP.out) HC1.out HQ.out).mono ?_
  rintro e w2 ⟨vq, rfl, hRq, hBq⟩
  have HRQ := Aside0.mk hRq
  have HBQ := Aside0.mk hBq
  clear hRq hBq
  by_cases he2 : e2 = 0
  rotate_left
  · rw [if_neg he2] at h
    injection h with h
    injection h with h1 h2
    subst h1
    subst h2
    have q1 : (e2 == 0) = false := by simpa using he2
    have q2 : (e2 != 0) = true := by simpa using he2
    go_wp2
    go_ret2
    exact ⟨_, rfl, Kd.R_nil _ _ _ _ _, HBP.out.trans (HBQ.out.mono HBP.out.size)⟩
  rw [if_pos he2] at h
  subst he2
  split at h
  rotate_left
  · cases h
  rename_i hin
  have HIN := Aside0.mk hin
  have HM := Aside0.mk h
  clear h hin
  obtain ⟨np, hnp⟩ : ∃ np, p.length = np := ⟨_, rfl⟩
  have HNP := Aside0.mk hnp
  obtain ⟨Ap, cp, rfl⟩ := Kd.R_slice HRP.out
  obtain ⟨Aq, cq, rfl, hcq, hCq⟩ := Kd.R_reads HRQ.out
  have hpl : (np : Int) ≤ 9223372036854775807 := by have := (Kd.R_reads' HRP.out).2.2.2.1; omega
  have HGL : Aside0 (∀ g, Ap = some ⟨g, 0, none⟩ → g < w1.heap.size) := ⟨fun g e => Kd.R_lt HRP.out g (by subst e; rfl)⟩
  have HQF : Aside0 (∀ ad, Aq = some ad → w1.heap.size ≤ ad.block) := ⟨fun ad e => by
    rcases (own_base (Kd.own_of_R HRQ.out)) with h
    subst e
    rcases (Kd.own_of_R HRQ.out).2 with ⟨h', _⟩ | ⟨g', cap', cur, h', hb, _⟩
    · cases h'
    · injection h' with h'
      injection h' with h'
      subst h'
      exact hb⟩
  have HO : Aside0 (Kd.R (Kd.int .i64) 3 w2 w.heap.size (fun _ => True) (.slice Ap np cp) (thenTo p q (0 : Int).toNat)) := ⟨by have := Kd.R_below HRP.out HBQ.out; rw [hnp] at this; simpa [thenTo] using this⟩
  have HCQ := Aside0.mk hCq
  have HB2 := Aside0.mk (HBP.out.trans (HBQ.out.mono HBP.out.size))
  rw [hnp]
  obtain ⟨nq, hnq⟩ : ∃ nq, q.length = nq := ⟨_, rfl⟩
  have HNQ := Aside0.mk hnq
  rw [hnq] at hcq ⊢
  clear hnp hnq hCq HRP HRQ HBP HBQ HR0 HR1 HC0 HC1 HP HQ
  go_wp2
  go_loopg [15, 16, 39] np (fun kq v15 v16 v39 w' => ∃ x : Int, v39 = .int .i64 x ∧ Aside0 (0 ≤ x ∧ x + kq = np) ∧ Aside0 (Kd.R (Kd.int .i64) 3 w' w.heap.size (fun _ => True) (.slice Ap np cp) (thenTo p q x.toNat)) ∧
    Aside0 (Kd.C (Kd.int .i64) w' Aq q.length q) ∧ Aside0 (Below w.heap.size w w'))
  case atStart => exact ⟨0, rfl, ⟨by omega⟩, HO, HCQ, HB2⟩
  case round =>
    clear HO HCQ HB2
    obtain ⟨x, rfl, HX, HO, HCQ, HB⟩ := hrel
    cases gk with
    | zero =>
      have hx : x = np := by have := HX.out; omega
      subst hx
      have q1 : decide ((np : Int) < (np : Int)) = false := by simp
      have he : thenTo p q ((np : Nat) : Int).toNat = p.map (thenL q) := by
        rw [Int.toNat_natCast]
        unfold thenTo
        rw [← HNP.out, List.take_length, List.drop_length, List.append_nil]
      have ho := HO.out
      rw [he] at ho
      have hl : (p.map (thenL q)).length = np := by rw [List.length_map]; exact HNP.out
      obtain ⟨A', c', e', hle, hCc⟩ := Kd.R_reads ho
      injection e' with e1 e2 e3
      subst e1
      subst e3
      rw [hl] at hle hCc
      have HCC := Aside0.mk hCc
      clear ho he hCc e2
      go_wp2_with fail
      have hmk := edits_Make.calls Ap cp (p.map (thenL q)) a4 r1 r2 wr (by rw [hl]; exact HCC.out) (by rw [hl]; exact hle) HM.out
      rw [hl] at hmk
      refine hmk.mono ?_
      rintro e w3 ⟨v3, rfl, hR3, hB3⟩
      have HR3 := Aside0.mk hR3
      have HB3 := Aside0.mk hB3
      clear hmk hR3 hB3
      go_wp2
      go_ret2
      exact ⟨_, rfl, Kd.R_lower HR3.out HB.out.size, HB.out.trans (HB3.out.mono HB.out.size)⟩
    | succ k1 =>
      have p0 := HX.out.1
      have q0 : x < np := by have := HX.out; omega
      have q1 : decide (x < (np : Int)) = true := by simpa using q0
      have hil : x.toNat < p.length := by have := HNP.out; omega
      obtain ⟨t, ht⟩ : ∃ t, p[x.toNat] = t := ⟨_, rfl⟩
      have HT := Aside0.mk ht
      have hget := thenTo_get p q x.toNat hil
      rw [ht] at hget
      have W1 : Aside0 (wrap64 (x + 1) = x + 1) := ⟨by unfold wrap64; omega⟩
      have HX2 : Aside0 (0 ≤ x + 1 ∧ x + 1 + (k1 : Int) = np) := ⟨by have := HX.out; omega⟩
      have htn : (x + 1).toNat = x.toNat + 1 := by omega
      have HTN := Aside0.mk htn
      have HIL := Aside0.mk hil
      obtain ⟨ad, rfl, had, b0, f0⟩ : ∃ ad : Addr, Ap = some ad ∧ (∃ g, ad = ⟨g, 0, none⟩) ∧ wr.cell? (ad.add x.toNat) = some (.int .i64 t) ∧ wr.frozen? (ad.add x.toNat) = false := by
        have hpos : 0 < (thenTo p q x.toNat).length := by rw [thenTo_length]; omega
        obtain ⟨g, cap, e, _⟩ := Kd.R_form HO.out hpos
        injection e with e1 e2 e3
        subst e1
        refine ⟨⟨g, 0, none⟩, rfl, ⟨g, rfl⟩, ?_⟩
        obtain ⟨h1, h2⟩ := Kd.R_celln (0 : Int) HO.out x p0 q0
        rw [add_plain]
        refine ⟨h1.trans ?_, h2⟩
        unfold rdOf
        rw [List.getD_eq_getElem?_getD, hget]
        rfl
      have HAD := Aside0.mk had
      clear hget ht had HX htn
      by_cases hneg : 0 ≤ t
      · have q2 : decide (t ≥ 0) = true := by simpa using hneg
        have htq : t < nq := by have := HIN.out t (by rw [← HT.out]; exact List.getElem_mem _); have := HNQ.out; omega
        obtain ⟨aq, e, c0⟩ := Kd.at_int HCQ.out t hneg (by have := HNQ.out; omega)
        cases e
        have HS : Aside0 ((thenTo p q x.toNat).set x.toNat (rd q t) = thenTo p q (x.toNat + 1)) := ⟨by
          rw [← thenTo_set p q x.toNat HIL.out, HT.out]
          unfold thenL
          rw [if_pos hneg]⟩
        have HNEG := Aside0.mk hneg
        replace p0 := eq_true p0
        replace q0 := eq_true q0
        have p2 := eq_true hneg
        have q3 := eq_true htq
        clear htq
        generalize rd q t = z at c0 HS
        go_wp2
        go_roundg k1
        case measure => omega
        case rel =>
          obtain ⟨g, rfl⟩ := HAD.out
          obtain ⟨hput, hgr⟩ := Kd.R_putg HO.out x z
          rw [add_plain]
          refine ⟨_, rfl, ⟨by rw [W1.out]; exact HX2.out⟩, ⟨by rw [W1.out, HTN.out, ← HS.out]; exact hput⟩, ⟨readsI_set HCQ.out _ (fun ad e _ => ?_)⟩, ⟨?_⟩⟩
          · have h1 := HQF.out ad e
            have h2 := HGL.out g rfl
            show ad.block ≠ g
            omega
          · have hgb := Kd.R_base HO.out g rfl
            exact HB.out.trans ⟨hgr.os, hgr.tape, hgr.output, hgr.size, fun i hi => hgr.block i (by have := HB.out.size; omega) (fun e => by injection e with e; omega)⟩
      · have q2 : decide (t ≥ 0) = false := by simpa using hneg
        have HS : Aside0 (thenTo p q x.toNat = thenTo p q (x.toNat + 1)) := ⟨thenTo_keep p q x.toNat HIL.out (by rw [HT.out]; exact hneg)⟩
        replace p0 := eq_true p0
        replace q0 := eq_true q0
        go_wp2
        go_roundg k1
        case measure => omega
        case rel => exact ⟨_, rfl, ⟨by rw [W1.out]; exact HX2.out⟩, ⟨by rw [W1.out, HTN.out, ← HS.out]; exact HO.out⟩, HCQ, HB⟩
end Go.Proofs.Ytpkhfeeelkhkaaa.X
