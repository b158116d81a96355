/-
  The journal: the contract of Commit.
-/
import Derived.Test.YtppgbfkhiofjiaaEJ7
import Derived.Test.YtppgbfkhiofjiaaEJ8
namespace Go.Proofs.Ytppgbfkhiofjiaa.X
open Go.RowKit Go.Proofs.YtppgbfkhiofjiaaW.PrintWords Go.Proofs.YtppgbfkhiofjiaaW.PrintLast Go.Proofs.YtppgbfkhiofjiaaW.PrintMore Go.Proofs.Ytppgbfkhiofjiaa.Y
set_option linter.unusedVariables false
set_option linter.unusedSimpArgs false

def wrongL (D : DS) : List S102 → Int
  | [] => 0
  | x :: l => if hasB D x.f0 = false then 2 else if x.f1.length ≠ 64 then 6 else wrongL D l
theorem wrongL_ok {D : DS} : ∀ {l : List S102}, wrongL D l = 0 → ∀ x ∈ l, hasB D x.f0 = true ∧ x.f1.length = 64
  | [], _, x, hx => by simp at hx
  | y :: l, h, x, hx => by
    rw [wrongL] at h
    split at h
    · cases h
    · split at h
      · cases h
      · rename_i h1 h2
        rcases List.mem_cons.1 hx with rfl | hx
        · exact ⟨by simpa using h1, by simpa using h2⟩
        · exact wrongL_ok h x hx
/-- What a Commit comes to. -/
def logC (l : List S102) (D : DS) (dn : Bool) : Int × DS × Bool :=
  if dn = true then (230, D, true) else if 64 < l.length then (9, D, false) else if wrongL D l ≠ 0 then (wrongL D l, D, false) else if l.length = 0 then (0, D, false)
  else ((commitD l D).1, (commitD l D).2, (commitD l D).1 != 0)
theorem JOk.logC {i : Nat} {D : DS} (h : JOk i D) (l : List S102) (dn : Bool) : JOk (i + 150) (logC l D dn).2.1 := by
  have hm : JOk (i + 150) D := h.mono (by omega)
  unfold X.logC
  split
  · exact hm
  · split
    · exact hm
    · rename_i h1 h2
      split
      · exact hm
      · split
        · exact hm
        · exact h.commit l (by omega)
/-- What Commit's end says. -/
def ComEnd (lb : Nat) (B : Nat → Prop) (g : Nat) (r : Int × DS × Bool) (w : World) (e : Ending) (w' : World) : Prop :=
  e = .returned (.int .i64 r.1) ∧ (∃ B', IsDisk w' B' g r.2.1 ∧ (∀ k, B' k → B k ∨ w.heap.size ≤ k)) ∧ Fr (fun k => B k ∨ k = lb) w w' ∧ IsLog w' lb g r.2.2
theorem IsLog.put {w : World} {lb g : Nat} {dn : Bool} (h : IsLog w lb g dn) (x : Bool) : IsLog (w.setCell ⟨lb, 1, none⟩ (.bool x)) lb g x := by
  unfold IsLog
  rw [heap_setCell_same w lb 1 _ 104 _ h]
  rfl
theorem ComEnd.stay {lb : Nat} {B : Nat → Prop} {g : Nat} {x : Int} {D : DS} {dn : Bool} {w W : World} (h : IsDisk w B g D) (hlog : IsLog w lb g dn) (f : Fr (fun _ => False) w W) : ComEnd lb B g (x, D, dn) w (.returned (.int .i64 x)) W :=
  ⟨rfl, ⟨B, h.fr f (fun _ _ h => h), fun k h => .inl h⟩, f.mono (fun _ h => h.elim), hlog.kept (f.keep _ hlog.lt (fun h => h))⟩

set_option maxHeartbeats 8000000 in
set_option maxRecDepth 100000 in
theorem com_calls (lb g : Nat) (dn : Bool) (B : Nat → Prop) (D : DS) (A : Option Addr) (cp n : Nat) (l : List S102) (w : World) (i : Nat) (h : IsDisk w B g D) (ho : JOk i D) (hi : i ≤ 100000) (hlog : IsLog w lb g dn) (hlb : ¬ B lb) (hD : 0 ≤ D.n ∧ D.n ≤ 4096)
    (hn : l.length = n) (hn9 : n ≤ 9223372036854775807) (hl : ∀ W', Fr B w W' → Kd.C k102 W' A n l) :
    Calls Try.prog 28 #[.pointer (some ⟨lb, 0, none⟩), .slice A n cp] w (ComEnd lb B g (logC l D dn) w) := by
  obtain ⟨c0, c1, c2⟩ := hlog.cells
  have H := Aside0.mk h
  have HLG := Aside0.mk hlog
  have hlt := hlog.lt
  cases dn with
  | true =>
    have HE : Aside0 (logC l D true = (230, D, true)) := ⟨by unfold logC; rw [if_pos rfl]⟩
    clear h ho hlog hn hl
    go_enter Try.func28, Try.ntmps28
    go_wp2_with fail
    go_ret
    rw [HE.out]
    exact ComEnd.stay H.out HLG.out (Fr.refl _ _)
  | false =>
    by_cases hn64 : 64 < n
    · have HE : Aside0 (logC l D false = (9, D, false)) := ⟨by unfold logC; rw [if_neg (by decide), if_pos (by omega)]⟩
      have hn' : (64 : Int) < (n : Int) := by omega
      clear h ho hlog hn hl
      go_enter Try.func28, Try.ntmps28
      go_wp2_with fail
      go_ret
      rw [HE.out]
      exact ComEnd.stay H.out HLG.out (Fr.refl _ _)
    · have HN := Aside0.mk hn
      have HL := Aside0.mk hl
      have HO := Aside0.mk ho
      have HDB := Aside0.mk hD
      have HE : Aside0 (logC l D false = if wrongL D l ≠ 0 then (wrongL D l, D, false) else if l.length = 0 then (0, D, false) else ((commitD l D).1, (commitD l D).2, (commitD l D).1 != 0)) := ⟨by unfold logC; rw [if_neg (by decide), if_neg (by omega)]⟩
      have hn' : (n : Int) ≤ 64 := by omega
      have HF0 := Aside0.mk (Fr.refl (fun _ => False) w)
      have HW0 : Aside0 (wrongL D l = wrongL D (l.drop 0)) := ⟨by rw [List.drop_zero]⟩
      clear h ho hlog hn hl hn64 hD
      go_enter Try.func28, Try.ntmps28
      go_wp2_with fail
      go_loopg [17] n (fun kq v17 W => ∃ (k : Nat), v17 = .int .i64 (k : Int) ∧ Aside0 (k + kq = n) ∧ Aside0 (Fr (fun _ => False) w W) ∧ Aside0 (wrongL D l = wrongL D (l.drop k)))
      case atStart => exact ⟨0, rfl, ⟨by omega⟩, HF0, HW0⟩
      case round =>
        clear HF0 HW0
        obtain ⟨k, rfl, HI, HF, HW⟩ := hrel
        have hk0 : (0 : Int) ≤ (k : Int) := by omega
        cases gk with
        | zero =>
          have hk : k = n := by have := HI.out; omega
          subst hk
          have hw0 : wrongL D l = 0 := by rw [HW.out, List.drop_eq_nil_of_le (by rw [HN.out]; omega)]; rfl
          have HOK := Aside0.mk (wrongL_ok hw0)
          have HE2 := Aside0.mk (HE.out.trans (if_neg (by rw [hw0]; simp)))
          clear hw0
          have g0 := cellK HF.out c0
          have g1 := cellK HF.out c1
          have glt : lb < wr.heap.size := Nat.lt_of_lt_of_le hlt HF.out.size
          by_cases hk1 : k = 0
          · subst hk1
            have HE3 : Aside0 (logC l D false = (0, D, false)) := ⟨HE2.out.trans (if_pos HN.out)⟩
            go_wp2_with fail
            go_ret
            rw [HE3.out]
            exact ComEnd.stay H.out HLG.out HF.out
          · have HE3 := Aside0.mk (HE2.out.trans (if_neg (by rw [HN.out]; exact hk1)))
            have e0 : ((k : Int) == 0) = false := by simpa using hk1
            have CC := Aside0.mk (commit_calls lb g false B D A cp k l wr i (H.out.fr HF.out (fun _ _ h => h)) HO.out (by omega) (HLG.out.kept (HF.out.keep _ hlt (fun h => h))) hlb HN.out (by omega) (by omega)
              (fun W' f' => HL.out W' ((HF.out.mono (fun _ h => h.elim)).trans f' (fun _ h => .inl h))) (fun x hx => by have := of_decide_eq_true (HOK.out x hx).1; have := HDB.out; omega) (fun x hx => (HOK.out x hx).2))
            clear HE HE2
            go_wp2_with fail
            refine CC.out.mono ?_
            rintro e w2 ⟨rfl, m⟩
            obtain ⟨B2, q1, q2, q3⟩ := m
            have HLG2 : Aside0 (IsLog w2 lb g false) := ⟨(HLG.out.kept (HF.out.keep _ hlt (fun h => h))).kept (q3.keep _ glt hlb)⟩
            obtain ⟨c0', c1', c2'⟩ := HLG2.out.cells
            have glt2 : lb < w2.heap.size := HLG2.out.lt
            have Q1 := Aside0.mk q1
            have Q2 := Aside0.mk q2
            have Q3 : Aside0 (Fr B w w2) := ⟨(HF.out.mono (fun _ h => h.elim)).trans q3 (fun _ h => .inl h)⟩
            obtain ⟨⟨ce, cD⟩, hcr⟩ : ∃ r, commitD l D = r := ⟨_, rfl⟩
            rw [hcr] at Q1 HE3 ⊢
            clear hcr q1 q2 q3 CC g0 g1
            dsimp only at Q1 HE3 ⊢
            go_wp2_with fail
            go_ret
            rw [HE3.out]
            have hnb : ¬ B2 lb := fun hb => (Q2.out lb hb).elim hlb (fun h => by omega)
            refine ⟨rfl, ⟨B2, Q1.out.fr ((Fr.refl (fun k => k = lb) w2).setCell (.inl rfl) _) (fun k hk e => hnb (e ▸ hk)), fun k hk => (Q2.out k hk).imp id (fun h => Nat.le_trans HF.out.size h)⟩, (Q3.out.mono (fun k h => .inl (.inl h))).setCell (.inl (.inr rfl)) _, HLG2.out.put _⟩
        | succ k1 =>
          have hk1 : (k : Int) < (n : Int) := by have := HI.out; omega
          have HI3 : Aside0 (k + 1 + k1 = n) := ⟨by have := HI.out; omega⟩
          obtain ⟨x, hx⟩ : ∃ x, l[k]? = some x := ⟨_, List.getElem?_eq_getElem (by rw [HN.out]; omega)⟩
          obtain ⟨ad, A1, cap1, rfl, g1, g2, g3, g4⟩ := stab_102 (B' := B) HN.out HL.out (Fr.refl B w) (fun _ h => .inl h) hx
          replace g1 := cellK HF.out g1
          replace g2 := cellK HF.out g2
          have hdr : wrongL D (l.drop k) = if hasB D x.f0 = false then 2 else if x.f1.length ≠ 64 then 6 else wrongL D (l.drop (k + 1)) := by
            obtain ⟨hlt, hget⟩ := List.getElem?_eq_some_iff.1 hx
            rw [List.drop_eq_getElem_cons hlt, hget, wrongL]
          have HW2 := Aside0.mk (HW.out.trans hdr)
          have fa : Fr (fun _ => False) wr (wr.alloc (.cells #[.int .i64 x.f0, .slice A1 x.f1.length cap1] 102)) := (Fr.refl _ _).alloc _
          have HF2 : Aside0 (Fr (fun _ => False) w (wr.alloc (.cells #[.int .i64 x.f0, .slice A1 x.f1.length cap1] 102))) := ⟨HF.out.trans fa (fun _ h => h.elim)⟩
          have HC := has_calls lb g false B D x.f0 _ (H.out.fr HF2.out (fun _ _ h => h)) (HLG.out.kept (HF2.out.keep _ hlt (fun h => h))) HDB.out
          obtain ⟨hb, hhb⟩ : ∃ hb, hasB D x.f0 = hb := ⟨_, rfl⟩
          rw [hhb] at HC HW2
          have HC := Aside0.mk HC
          obtain ⟨m, hm⟩ : ∃ m, x.f1.length = m := ⟨_, rfl⟩
          rw [hm] at HC HW2 HF2 g2
          have hm9 : m ≤ 9223372036854775807 := by rw [← hm]; exact (g4 w (Fr.refl _ _)).2.1
          clear hdr fa hx g3 g4 HW hhb hm HF
          cases hb with
          | false =>
            have HE3 : Aside0 (logC l D false = (2, D, false)) := ⟨by rw [HE.out, HW2.out]; rfl⟩
            go_wp2_with fail
            refine HC.out.mono ?_
            rintro e w2 ⟨rfl, rfl⟩
            go_wp2_with fail
            go_ret
            rw [HE3.out]
            exact ComEnd.stay H.out HLG.out HF2.out
          | true =>
            by_cases hm64 : m = 64
            · subst hm64
              have HW3 : Aside0 (wrongL D l = wrongL D (l.drop (k + 1))) := ⟨by rw [HW2.out]; rfl⟩
              go_wp2_with fail
              refine HC.out.mono ?_
              rintro e w2 ⟨rfl, rfl⟩
              go_wp2_with fail
              go_roundg k1
              case measure => omega
              case rel => exact ⟨k + 1, by go_num, HI3, HF2, HW3⟩
            · have HE3 : Aside0 (logC l D false = (6, D, false)) := ⟨by
                have hw : wrongL D l = 6 := by rw [HW2.out, if_neg (by simp), if_pos hm64]
                rw [HE.out, hw]
                rfl⟩
              have e1 : ((m : Int) != 64) = true := by simp; omega
              go_wp2_with fail
              refine HC.out.mono ?_
              rintro e w2 ⟨rfl, rfl⟩
              go_wp2_with fail
              go_ret
              rw [HE3.out]
              exact ComEnd.stay H.out HLG.out HF2.out
end Go.Proofs.Ytppgbfkhiofjiaa.X
