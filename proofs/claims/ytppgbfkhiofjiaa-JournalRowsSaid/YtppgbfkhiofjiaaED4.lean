/-
  The contracts of Flush and Mend.
-/
import Derived.Test.YtppgbfkhiofjiaaED3
namespace Go.Proofs.Ytppgbfkhiofjiaa.X
open Go.RowKit Go.Proofs.YtppgbfkhiofjiaaW.PrintWords Go.Proofs.YtppgbfkhiofjiaaW.PrintLast Go.Proofs.YtppgbfkhiofjiaaW.PrintMore
set_option linter.unusedVariables false
set_option linter.unusedSimpArgs false

def flushD (D : DS) : Int × DS := if D.down = true then (230, D) else if (stepD D).1 = true then (0, settleD (fun _ => true) (stepD D).2) else (230, (stepD D).2)
theorem stepD_c (D : DS) : (stepD D).2.c = D.c ∧ (stepD D).2.u = D.u ∧ (stepD D).2.f = D.f ∧ (stepD D).2.n = D.n := by unfold stepD; split <;> exact ⟨rfl, rfl, rfl, rfl⟩

set_option maxHeartbeats 1000000 in
theorem flush_calls (g : Nat) (B : Nat → Prop) (D : DS) (w : World) (h : IsDisk w B g D) (hs : -1 ≤ D.steps ∧ D.steps < 9223372036854775807) (hl : D.left ≤ 9223372036854775807) (hc : D.c.length ≤ 1000000) (hu : D.u ≤ 1000000) :
    Calls Try.prog 15 #[.pointer (some ⟨g, 0, none⟩)] w fun e w' => e = .returned (.int .i64 (flushD D).1) ∧ IsDisk w' B g (flushD D).2 ∧ Fr B w w' := by
  have H := Aside0.mk h
  obtain ⟨m, cv, c0, c1, c2, c3, c4, c5, cf, hlt, im, own, ob, bm, bg⟩ := h.cells
  obtain ⟨dd, hdd⟩ : ∃ dd, D.down = dd := ⟨_, rfl⟩
  have HDD := Aside0.mk hdd
  rw [hdd] at c4
  have ST := Aside0.mk (fun (w' : World) (h' : IsDisk w' B g D) => step_calls g B D w' h' hs hl)
  clear c0 c1 c2 c3 c5 cf im own ob bm bg h hdd hs hl
  cases dd with
  | true =>
    have R : Aside0 (flushD D = (230, D)) := ⟨by unfold flushD; rw [if_pos HDD.out]⟩
    go_enter Try.func15, Try.ntmps15
    go_wp2
    go_ret
    rw [R.out]
    exact ⟨rfl, H.out, Fr.refl _ _⟩
  | false =>
    obtain ⟨ok, hok⟩ : ∃ ok, (stepD D).1 = ok := ⟨_, rfl⟩
    have R : Aside0 (flushD D = if ok = true then (0, settleD (fun _ => true) (stepD D).2) else (230, (stepD D).2)) := ⟨by unfold flushD; rw [HDD.out, hok]; rfl⟩
    rw [hok] at ST
    have hc2 : (stepD D).2.c.length ≤ 1000000 := by rw [(stepD_c D).1]; exact hc
    have hu2 : (stepD D).2.u ≤ 1000000 := by rw [(stepD_c D).2.1]; exact hu
    generalize (stepD D).2 = D2 at *
    clear hok hc hu
    cases ok with
    | false =>
      go_enter Try.func15, Try.ntmps15
      go_wp2_with fail
      refine (ST.out _ H.out).mono ?_
      rintro e w2 ⟨rfl, hd2, hf2⟩
      have HD2 := Aside0.mk hd2
      have HF2 := Aside0.mk hf2
      clear hd2 hf2
      go_wp2
      go_ret
      rw [R.out]
      exact ⟨rfl, HD2.out, HF2.out⟩
    | true =>
      go_enter Try.func15, Try.ntmps15
      go_wp2_with fail
      refine (ST.out _ H.out).mono ?_
      rintro e w2 ⟨rfl, hd2, hf2⟩
      have HD2 := Aside0.mk hd2
      have HF2 := Aside0.mk hf2
      clear hd2 hf2
      go_wp2_with fail
      refine (settle46 g B D2 (fun _ => true) _ HD2.out hc2 hu2 (fun w' i _ _ => all_calls i w')).mono ?_
      rintro e w3 ⟨rfl, hd3, hf3⟩
      have HD3 := Aside0.mk hd3
      have HF3 := Aside0.mk hf3
      clear hd3 hf3
      go_wp2
      go_ret
      rw [R.out]
      exact ⟨rfl, HD3.out, HF2.out.trans HF3.out (fun k h => .inl h)⟩

/-- Which pending writes a list keeps. -/
def keepB (l : List Bool) (i : Nat) : Bool := decide (i < l.length) && l.getD i false
set_option maxHeartbeats 1000000 in
theorem kept_calls (kb i : Nat) (A : Option Addr) (cp : Nat) (l : List Bool) (w : World) (hcell : w.cell? ⟨kb, 0, none⟩ = some (.slice A l.length cp)) (hl : Kd.C Kd.bool w A l.length l) (hi : i ≤ 1000000) :
    Calls Try.prog 47 #[.int .i64 (i : Int), .pointer (some ⟨kb, 0, none⟩)] w fun e w' => e = .returned (.bool (keepB l i)) ∧ Drawn0 w w' := by
  have HL := Aside0.mk hl
  have hlen := hl.2.1
  clear hl
  by_cases hc : i < l.length
  · have h0 : (0 : Int) ≤ (i : Int) := by omega
    have h1 : (i : Int) < (l.length : Int) := by omega
    obtain ⟨ad, rfl, hx⟩ := Kd.at_bool HL.out (i : Int) h0 h1
    have R : Aside0 (keepB l i = rdOf false l (i : Int)) := ⟨by unfold keepB rdOf; rw [decide_eq_true hc, Int.toNat_natCast]; rfl⟩
    rw [Int.toNat_natCast] at hx
    generalize rdOf false l (i : Int) = b at *
    clear hc
    go_enter Try.func47, Try.ntmps47
    go_wp2
    go_ret
    rw [R.out]
    exact ⟨rfl, Drawn0.refl _⟩
  · have R : Aside0 (keepB l i = false) := ⟨by unfold keepB; rw [decide_eq_false hc]; rfl⟩
    have h1 : (l.length : Int) ≤ (i : Int) := by omega
    have h2 : decide ((i : Int) < (l.length : Int)) = false := by simp; omega
    clear hc
    go_enter Try.func47, Try.ntmps47
    go_wp2
    go_ret
    rw [R.out]
    exact ⟨rfl, Drawn0.refl _⟩

theorem C_fr {α : Type} {enc : α → Value} {h1 : ∀ x, (enc x).oneCell' = true} (d : α) {B : Nat → Prop} {w w' : World} {A : Option Addr} {n : Nat} {xs : List α} (h : (Kd.scalar enc h1).C w A n xs) (hf : Fr B w w') (hd : ∀ ad, A = some ad → 0 < n → ¬ B ad.block) : (Kd.scalar enc h1).C w' A n xs := by
  have r := Kd.reads_of_C (d := d) h
  refine Kd.C_of_reads (d := d) ⟨r.1, r.2.1, fun hn => ?_⟩
  obtain ⟨ad, e, hc⟩ := r.2.2 hn
  refine ⟨ad, e, fun j hj => ?_⟩
  have q := hc j hj
  have hb : (ad.add j).block = ad.block := by unfold Addr.add; split <;> rfl
  exact (World.cell?_of_block (w := w) (hf.keep _ (World.block_lt_of_cell? w _ q) (by rw [hb]; exact hd ad e hn))).trans q
def mendD (l : List Bool) (D : DS) : DS := { settleD (keepB l) D with left := -1, down := false }
set_option maxHeartbeats 2000000 in
theorem mend_calls (g : Nat) (B : Nat → Prop) (D : DS) (A : Option Addr) (cp : Nat) (l : List Bool) (w : World) (h : IsDisk w B g D) (hc : D.c.length ≤ 1000000) (hu : D.u ≤ 1000000) (hl : Kd.C Kd.bool w A l.length l)
    (hdis : ∀ ad, A = some ad → 0 < l.length → ¬ B ad.block) :
    Calls Try.prog 17 #[.pointer (some ⟨g, 0, none⟩), .slice A l.length cp] w fun e w' => e = .returned (.tuple #[]) ∧ IsDisk w' B g (mendD l D) ∧ Fr B w w' := by
  have H := Aside0.mk h
  have HL := Aside0.mk hl
  have HDI := Aside0.mk hdis
  have HLT := Aside0.mk h.lt
  clear h hl hdis
  go_enter Try.func17, Try.ntmps17
  go_wp2_with fail
  have HD1 : Aside0 (IsDisk (w.alloc (.cells #[.slice A l.length cp] 27)) B g D) := ⟨H.out.alloc _⟩
  have HK : Aside0 (∀ (w' : World) (i : Nat), i < D.c.length → Fr B (w.alloc (.cells #[.slice A l.length cp] 27)) w' → Calls Try.prog 47 #[.int .i64 (i : Int), .pointer (some ⟨w.heap.size, 0, none⟩)] w' fun e w'' => e = .returned (.bool (keepB l i)) ∧ Drawn0 w' w'') := ⟨fun w' i hi hf => by
    have hcell : w'.cell? ⟨w.heap.size, 0, none⟩ = some (.slice A l.length cp) := by
      have hb := (hf.keep w.heap.size (by simp) (fun hb => by have := HLT.out _ hb; omega)).trans (heap_alloc_new w (.cells #[.slice A l.length cp] 27))
      rw [cell_of_row w' _ _ _ 27 (0, 0) hb]
      rfl
    exact kept_calls w.heap.size i A cp l w' hcell (C_fr (B := B) false HL.out (((Fr.refl B w).alloc _).trans hf (fun k h => .inl h)) HDI.out) (by omega)⟩
  refine (settle47 g B D (keepB l) w.heap.size _ HD1.out hc hu HK.out).mono ?_
  rintro e w1 ⟨rfl, hd1, hf1⟩
  have HD2 := Aside0.mk hd1
  have HF2 := Aside0.mk hf1
  obtain ⟨m, cv, c0, c1, c2, c3, c4, c5, cf, hlt, im, own, ob, bm, bg⟩ := hd1.cells
  have f3 := cf 3
  have f4 := cf 4
  clear c0 c1 c2 c5 cf im own ob bm bg hd1 hf1
  go_wp2
  go_end0
  have p := HD2.out.put3 (-1)
  have q := p.1.put4 false
  exact ⟨rfl, q.1, (((Fr.refl B w).alloc _).trans HF2.out (fun k h => .inl h)).trans (p.2.trans q.2 (fun k h => .inl h)) (fun k h => .inl h)⟩
end Go.Proofs.Ytppgbfkhiofjiaa.X
