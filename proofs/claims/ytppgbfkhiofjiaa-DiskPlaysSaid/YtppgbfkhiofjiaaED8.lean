/-
  DiskLasts: the walk.
-/
import Derived.Test.YtppgbfkhiofjiaaED7
import Derived.Deep.CutRange
import Derived.Deep.QuietTactic
import Derived.BigQuiet
namespace Go.Proofs.Ytppgbfkhiofjiaa.X
open Go.RowKit Go.Proofs.YtppgbfkhiofjiaaW.PrintWords Go.Proofs.YtppgbfkhiofjiaaW.PrintLast Go.Proofs.YtppgbfkhiofjiaaW.PrintMore
set_option linter.unusedVariables false
set_option linter.unusedSimpArgs false

def zeroV : Nat → Value := fun _ => .slice none 0 0
def start (i : Nat) : Nat → List Int := fun k => if k < i then [0] else []
theorem start_succ (i : Nat) : updM (start i) i [0] = start (i + 1) := by
  funext k
  unfold updM start
  by_cases h : k = i
  · subst h; simp
  · rw [if_neg h]
    by_cases h2 : k < i
    · rw [if_pos h2, if_pos (by omega)]
    · rw [if_neg h2, if_neg (by omega)]
theorem IsMay.new (w : World) : IsMay (w.alloc (.cells #[.slice none 0 0, .slice none 0 0, .slice none 0 0] 33)) (fun b => b = w.heap.size) w.heap.size zeroV (start 0) := by
  refine ⟨heap_alloc_new _ _, rfl, fun k hk => ⟨rfl, .inl ⟨rfl, none, rfl, fun a ha => by cases ha⟩⟩, (fun k hk b e => by cases e), (fun j k hj hk hjk b e => by cases e), fun b hb => ?_⟩
  subst hb
  simp
theorem q_new (w : World) (x : Int) : QRow (w.alloc (.cells #[.int .u8 x] 5)) 0 5 1 (.slice (some ⟨w.heap.size, 0, none⟩) 1 1) [x].length (nums .u8 [x]) :=
  q_of_own ⟨rfl, .inr ⟨w.heap.size, 1, #[.int .u8 x], rfl, Nat.zero_le _, heap_alloc_new _ _, Nat.le_refl _, by decide, rfl, rfl⟩⟩
theorem inv_start : Inv 0 (newD 3) (start 3) := by
  have e : ∀ k, k < 3 → start 3 k = [0] := fun k hk => by unfold start; rw [if_pos hk]
  refine ⟨rfl, ⟨by decide, by decide⟩, by decide, by decide, fun k hk => by rw [e k hk]; simp, fun k hk => by rw [e k hk]; rfl, fun k hk => ?_, fun p hp => by cases hp⟩
  rw [e k hk]
  show hd zeros64 ∈ [0]
  decide
theorem rest3 (x : Int) : ∃ m : Nat, m < 3 ∧ wrap64 ((IntKind.u64.wrap x).tmod 3) = (m : Int) := by
  have h0 : 0 ≤ IntKind.u64.wrap x := by
    show 0 ≤ x % 18446744073709551616
    omega
  refine ⟨((IntKind.u64.wrap x) % 3).toNat, by omega, ?_⟩
  rw [Int.tmod_eq_emod_of_nonneg h0]
  unfold wrap64
  omega
theorem IsMay.app {W w3 : World} {M : Nat → Prop} {mb : Nat} {v : Nat → Value} {may : Nat → List Int} (h : IsMay W M mb v may) {k : Nat} (hk : k < 3) (x : Int) {A' : Option Addr} {c' : Nat}
    (hq : QRow w3 0 5 1 (.slice A' ((may k).length + 1) c') ((may k).length + 1) (nums .u8 (may k) ++ [.int .u8 x])) (hf : Fr (fun b => (v k).ownBlock = some b) W w3)
    (hat : (Value.slice A' ((may k).length + 1) c').ownBlock = (v k).ownBlock ∨ ∃ b, (Value.slice A' ((may k).length + 1) c').ownBlock = some b ∧ W.heap.size ≤ b) :
    (∃ M', IsMay (w3.setCell ⟨mb, k, none⟩ (.slice A' ((may k).length + 1) c')) M' mb (updV v k (.slice A' ((may k).length + 1) c')) (updM may k (may k ++ [x])) ∧ ∀ b, M' b → M b ∨ W.heap.size ≤ b) ∧ Fr M W (w3.setCell ⟨mb, k, none⟩ (.slice A' ((may k).length + 1) c')) := by
  refine h.put hk hf ?_ hat
  rw [show (may k ++ [x]).length = (may k).length + 1 by simp, show nums .u8 (may k ++ [x]) = nums .u8 (may k) ++ [.int .u8 x] by simp [nums]]
  exact hq
theorem wf_le {n : Int} (h : (Lit.int .i64 n).wf = true) : n ≤ 9223372036854775807 := by
  have h : IntKind.i64.min ≤ n ∧ n ≤ 9223372036854775807 := by simpa [Lit.wf] using h
  exact h.2
def rowN (i : Nat) : List Int := zeros64.set 0 (1 + (i : Int))
theorem rowN_length (i : Nat) : (rowN i).length = 64 := by simp [rowN, zeros64]
theorem rowN_hd (i : Nat) : hd (rowN i) = 1 + (i : Int) := rfl
theorem rowN_cells (i : Nat) : ((nums .u8 zeros64).set 0 (Value.int .u8 (1 + (i : Int)))).toArray = (nums .u8 (rowN i)).toArray := by
  unfold rowN nums
  rw [List.map_set]
theorem IsMay.congr {w : World} {M : Nat → Prop} {mb : Nat} {v : Nat → Value} {may may' : Nat → List Int} (h : IsMay w M mb v may) (he : ∀ k, k < 3 → may' k = may k) : IsMay w M mb v may' :=
  ⟨h.blk, h.own, fun k hk => by rw [he k hk]; exact h.row k hk, h.mem, h.apart, h.lt⟩
def cutM (may : Nat → List Int) (i : Nat) : Nat → List Int := fun j => if j < i then tail1 (may j) else may j
theorem cut_own (A : Option Addr) (q n c n' c' : Nat) : (Value.slice (A.map (fun x => x.add q)) n' c').ownBlock = (Value.slice A n c).ownBlock := by
  cases A with
  | none => rfl
  | some a =>
    show some (a.add q).block = some a.block
    unfold Addr.add
    split <;> rfl
/-- A row is cut to its last byte. -/
theorem IsMay.cut {w : World} {M : Nat → Prop} {mb : Nat} {v : Nat → Value} {may : Nat → List Int} {k : Nat} (h : IsMay w M mb v (cutM may k)) (hk : k < 3) {A : Option Addr} {q c : Nat} (hv : v k = .slice A (q + 1) c) (hq : (may k).length = q + 1) (hc : q + 1 ≤ c) :
    (∃ M', IsMay (w.setCell ⟨mb, k, none⟩ (.slice (A.map (fun x => x.add q)) 1 (c - q))).drew M' mb (updV v k (.slice (A.map (fun x => x.add q)) 1 (c - q))) (cutM may (k + 1)) ∧ ∀ b, M' b → M b ∨ w.heap.size ≤ b) ∧
      Fr M w (w.setCell ⟨mb, k, none⟩ (.slice (A.map (fun x => x.add q)) 1 (c - q))).drew := by
  have hr := h.row k hk
  have e : cutM may k k = may k := by unfold cutM; rw [if_neg (Nat.lt_irrefl k)]
  rw [e, hv, hq] at hr
  have hd := q_drop hr (k := q) (by omega)
  rw [show q + 1 - q = 1 by omega, if_neg (show ¬ c = q by omega)] at hd
  have e2 : (tail1 (may k)).length = 1 := by unfold tail1; rw [List.length_drop, hq]; omega
  have e3 : nums .u8 (tail1 (may k)) = (nums .u8 (may k)).drop (q * 1) := by unfold tail1 nums; rw [hq, List.map_drop]; simp
  have P := h.put hk (u := .slice (A.map (fun x => x.add q)) 1 (c - q)) (l := tail1 (may k)) (Fr.refl _ _) (by rw [e2, e3]; simpa using hd) (.inl (by rw [hv]; exact cut_own A q (q + 1) c 1 (c - q)))
  obtain ⟨⟨M', h1, h2⟩, h3⟩ := P
  refine ⟨⟨M', ⟨h1.blk, h1.own, fun j hj => ?_, h1.mem, h1.apart, h1.lt⟩, h2⟩, h3.drew⟩
  have e5 : cutM may (k + 1) j = updM (cutM may k) k (tail1 (may k)) j := by
    unfold cutM updM
    by_cases e4 : j = k
    · rw [if_pos e4, if_pos (by omega), e4]
    · rw [if_neg e4]
      by_cases e5 : j < k
      · rw [if_pos (by omega)]
        simp [e5]
      · rw [if_neg (by omega)]
        simp [e5]
  rw [e5]
  exact h1.row j hj
/-- What holds in each round. -/
def St (w w' : World) (g mb i : Nat) : Prop := ∃ (D : DS) (may : Nat → List Int) (v : Nat → Value) (B M : Nat → Prop), IsDisk w' B g D ∧ IsMay w' M mb v may ∧ Inv i D may ∧ (∀ k, M k → ¬ B k) ∧ (∀ k, B k → w.heap.size ≤ k) ∧ (∀ k, M k → w.heap.size ≤ k) ∧ Fr (fun _ => False) w w'
set_option maxHeartbeats 8000000 in
set_option maxRecDepth 100000 in
theorem lasts_calls (A0 : Option Addr) (cap0 : Nat) (l : List OpV) (A1 : Option Addr) (cap1 : Nat) (kl : List Bool) (w : World) (hl : Ops w A0 l) (hk : Kd.C Kd.bool w A1 kl.length kl) (hl63 : l.length ≤ 9223372036854775807) :
    Calls Try.prog 4 #[.slice A0 l.length cap0, .slice A1 kl.length cap1] w fun e w' => e = .returned (.bool true) ∧ Fr (fun _ => False) w w' := by
  have hmk := make64
  have HL := Aside0.mk hl
  have HK := Aside0.mk hk
  clear hl hk
  go_enter Try.func4, Try.ntmps4
  go_wp2_with fail
  refine (works_calls w).mono ?_
  rintro e w1 ⟨rfl, hf1⟩
  have HF1 := Aside0.mk hf1
  clear hf1
  go_wp2_with fail
  refine (new_calls 3 w1 (by omega) (by omega)).mono ?_
  rintro e w2 ⟨g, rfl, ⟨B, hd, hB⟩, hb⟩
  have HD := Aside0.mk hd
  have HB : Aside0 (∀ k, B k → w.heap.size ≤ k) := ⟨fun k h => Nat.le_trans HF1.out.size (hB k h)⟩
  have HF2 : Aside0 (Fr (fun _ => False) w w2) := ⟨HF1.out.trans (Fr.of_below hb (fun _ => False)) (fun k h => .inl h)⟩
  clear hd hB hb HF1
  go_wp2_with fail
  have HM : Aside0 (IsMay (w2.alloc (.cells #[.slice none 0 0, .slice none 0 0, .slice none 0 0] 33)) (fun b => b = w2.heap.size) w2.heap.size zeroV (start 0)) := ⟨IsMay.new w2⟩
  have HF3 : Aside0 (Fr (fun _ => False) w2 (w2.alloc (.cells #[.slice none 0 0, .slice none 0 0, .slice none 0 0] 33))) := ⟨(Fr.refl _ _).alloc _⟩
  go_loopg [8] 3 (fun kq v8 w' => ∃ (i : Nat) (v : Nat → Value) (M : Nat → Prop), v8 = .int .i64 (i : Int) ∧ Aside0 (i + kq = 3) ∧ Aside0 (IsMay w' M w2.heap.size v (start i)) ∧ Aside0 (∀ b, M b → w2.heap.size ≤ b) ∧ Aside0 (Fr (fun _ => False) w2 w'))
  case atStart => exact ⟨0, zeroV, _, rfl, ⟨rfl⟩, HM, ⟨fun b hb => by rw [hb]; exact Nat.le_refl _⟩, HF3⟩
  case round =>
    clear HM HF3
    obtain ⟨i, v, M, rfl, HI, HM, HMb, HF3⟩ := hrel
    cases gk with
    | zero =>
      have hi : i = 3 := by have := HI.out; omega
      subst hi
      obtain ⟨mb, hmb⟩ : ∃ mb, w2.heap.size = mb := ⟨_, rfl⟩
      have HS : Aside0 (St w wr g mb 0) := ⟨newD 3, start 3, v, B, M, HD.out.fr HF3.out (fun _ _ h => h), hmb ▸ HM.out, inv_start, fun k hM hB => by have := HD.out.lt k hB; have := HMb.out k hM; omega, HB.out, fun k hM => by have := HMb.out k hM; have := HF2.out.size; omega, HF2.out.trans HF3.out (fun k h => .inl h)⟩
      clear HD HB HF2 HM HMb HF3 HI
      rw [hmb]
      clear hmb
      go_wp2_with fail
      obtain ⟨N, hN⟩ : ∃ N, min l.length 150 = N := ⟨_, rfl⟩
      go_loopg [9] N (fun kq v9 w' => ∃ (i : Nat), v9 = .int .i64 (i : Int) ∧ Aside0 (i + kq = N) ∧ Aside0 (St w w' g mb i))
      case atStart => exact ⟨0, rfl, ⟨by omega⟩, HS⟩
      case round =>
        clear HS
        obtain ⟨i, rfl, HI, HS⟩ := hrel
        cases gk with
        | zero =>
          obtain ⟨D, may, v, B, M, hD, hM, hInv, hMB, hB, hMs, hF⟩ := HS.out
          have HK2 := C_fr (B := fun _ => False) false HK.out hF (fun _ _ _ h => h)
          have MD := Aside0.mk (mend_calls g B D A1 cap1 kl wr hD (by have := hInv.u; have := HI.out; omega) (by have := hInv.u; have := HI.out; omega) HK2 (fun ad e h0 h => Kd.far_C false HK.out (hB _ h) ad e h0 rfl))
          have INV := Aside0.mk (fun k (hk : k < 3) => inv_mend hInv kl hk)
          have HMD : Aside0 ((mendD kl D).c = []) := ⟨rfl⟩
          have HLEN := Aside0.mk hInv.len
          have HM := Aside0.mk hM
          have HMB := Aside0.mk hMB
          have HB := Aside0.mk hB
          have HF := Aside0.mk hF
          have hi5 : i ≤ 150 := by have := HI.out; omega
          have hor : l.length ≤ i ∨ (i < l.length ∧ i = 150) := by have := HI.out; omega
          clear hD hM hInv hMB hB hMs hF HK2 HL HS HI hmk
          have hi0 : (0 : Int) ≤ (i : Int) := by omega
          rcases hor with hor | ⟨hor, hi6⟩
          rotate_left
          subst hi6
          all_goals (
            go_wp2_with fail
            refine MD.out.mono ?_
            rintro e W2 ⟨rfl, hd2, hf2⟩
            have HD2 := Aside0.mk hd2
            have HM2 : Aside0 (IsMay W2 M mb v may) := ⟨HM.out.fr hf2 HMB.out⟩
            have HF2 : Aside0 (Fr (fun _ => False) w W2) := ⟨HF.out.trans hf2 (fun k h => .inr (HB.out k h))⟩
            have HF0 := Aside0.mk (Fr.refl (fun _ => False) W2)
            clear hd2 hf2 MD HM HF
            go_wp2_with fail
            go_loopg [13] 3 (fun kq v13 w' => ∃ (k : Nat), v13 = .int .i64 (k : Int) ∧ Aside0 (k + kq = 3) ∧ Aside0 (Fr (fun _ => False) W2 w'))
            case atStart => exact ⟨0, rfl, ⟨rfl⟩, HF0⟩
            case round =>
              clear HF0
              obtain ⟨k, rfl, HK3, HF0⟩ := hrel
              cases gk with
              | zero =>
                have hk3 : k = 3 := by have := HK3.out; omega
                subst hk3
                go_wp2_with fail
                go_ret
                exact ⟨rfl, HF2.out.trans HF0.out (fun k h => .inl h)⟩
              | succ k2 =>
                have hk3 : k < 3 := by have := HK3.out; omega
                have hk0 : (0 : Int) ≤ (k : Int) := by omega
                have hk1 : (k : Int) < 3 := by omega
                have HD3 := Aside0.mk (HD2.out.fr HF0.out (fun _ _ h => h))
                have RD := Aside0.mk (read_calls g B (mendD kl D) k wr HD3.out (INV.out k hk3).1 (WalkArith.wf_i64 (by omega)) (by rw [HMD.out]; exact Nat.zero_le _))
                have HME := Aside0.mk (INV.out k hk3).2
                go_wp2_with fail
                refine RD.out.mono ?_
                clear RD
                rintro e W3 ⟨gb, rfl, hgb, har, hf3⟩
                have HF3 : Aside0 (Fr (fun _ => False) W2 W3) := ⟨HF0.out.trans hf3 (fun k h => .inl h)⟩
                have HAR := Aside0.mk har
                have HM3 : Aside0 (IsMay W3 M mb v may) := ⟨HM2.out.fr HF3.out (fun _ _ h => h)⟩
                clear hgb hf3 har HF0 HD3
                obtain ⟨R, hR⟩ : ∃ R, readC (k : Int) (mendD kl D).c ((mendD kl D).f k) = R := ⟨_, rfl⟩
                rw [hR] at HAR HME
                have hR64 : Aside0 (R.length = 64) := ⟨by
                  rw [← hR]
                  exact HD2.out.good.2 k⟩
                clear hR
                obtain ⟨x, hx⟩ : ∃ x, hd R = x := ⟨_, rfl⟩
                rw [hx] at HME
                have CX : Aside0 (W3.cell? ⟨gb, 0, none⟩ = some (.int .u8 x)) := ⟨by
                  have := HAR.out.cell 0 (by rw [hR64.out]; omega)
                  rw [this, ← hx]
                  rfl⟩
                clear hx
                obtain ⟨A, c, hv, hcc⟩ := q_slice (HM3.out.row k hk3)
                obtain ⟨n, hn⟩ : ∃ n, (may k).length = n := ⟨_, rfl⟩
                have HQ := HM3.out.row k hk3
                rw [hv, hn] at HQ
                have hc1 := HM3.out.cell hk3
                rw [hv, hn] at hc1
                have HC1 := Aside0.mk hc1
                have HQ := Aside0.mk HQ
                have HN := Aside0.mk hn
                have hn1 : n ≤ 151 := by have := HLEN.out k hk3; omega
                have HF4 := Aside0.mk (Fr.refl (fun _ => False) W3)
                clear hv hn hcc hc1
                go_wp2_with fail
                go_loopg [16, 17] n (fun kq v16 v17 w' => ∃ (ok : Bool) (j : Nat), v16 = .bool ok ∧ v17 = .int .i64 (j : Int) ∧ Aside0 (j + kq = n) ∧ Aside0 (ok = true ↔ x ∈ (may k).take j) ∧ Aside0 (Fr (fun _ => False) W3 w'))
                case atStart => exact ⟨false, 0, rfl, rfl, ⟨by omega⟩, ⟨by simp⟩, HF4⟩
                case round =>
                  clear HF4
                  obtain ⟨ok, j, rfl, rfl, HJ, HO, HF4⟩ := hrel
                  have hc1 := cell_kept HF4.out HC1.out
                  cases gk with
                  | zero =>
                    have hj : j = n := by have := HJ.out; omega
                    subst hj
                    have hok : ok = true := HO.out.2 (by rw [List.take_of_length_le (by rw [HN.out]; exact Nat.le_refl _)]; exact HME.out)
                    subst hok
                    have HF5 : Aside0 (Fr (fun _ => False) W2 wr) := ⟨HF3.out.trans HF4.out (fun k h => .inl h)⟩
                    have HK4 : Aside0 (k + 1 + k2 = 3) := ⟨by have := HK3.out; omega⟩
                    go_wp2_with fail
                    go_roundg k2
                    case measure => omega
                    case rel => exact ⟨k + 1, by go_num, HK4, HF5⟩
                  | succ k3 =>
                    have hj : j < n := by have := HJ.out; omega
                    have hj0 : (0 : Int) ≤ (j : Int) := by omega
                    have hj1 : (j : Int) < (n : Int) := by omega
                    have cx := cell_kept HF4.out CX.out
                    obtain ⟨ad, rfl, hcs⟩ := q_cells HQ.out (by omega)
                    obtain ⟨y, hy⟩ : ∃ y, (may k)[j]? = some y := ⟨_, List.getElem?_eq_getElem (by rw [HN.out]; exact hj)⟩
                    have cy := cell_kept HF4.out (hcs j (.int .u8 y) (by unfold nums; rw [List.getElem?_map, hy]; rfl))
                    have HO2 : Aside0 ((ok || x == y) = true ↔ x ∈ (may k).take (j + 1)) := ⟨by
                      rw [List.take_add_one, hy, List.mem_append, Bool.or_eq_true, HO.out]
                      simp⟩
                    have HJ2 : Aside0 (j + 1 + k3 = n) := ⟨by have := HJ.out; omega⟩
                    clear hcs hy
                    cases ok with
                    | true =>
                      go_wp2_with fail
                      go_quiet (fail)
                      go_wp2_with fail
                      go_roundg k3
                      case measure => omega
                      case rel => exact ⟨true, j + 1, rfl, by go_num, HJ2, ⟨by simpa using HO2.out⟩, ⟨HF4.out.drewN _⟩⟩
                    | false =>
                      go_wp2_with fail
                      go_quiet (fail)
                      go_wp2_with fail
                      go_roundg k3
                      case measure => omega
                      case rel => exact ⟨_, j + 1, rfl, by go_num, HJ2, ⟨by simpa using HO2.out⟩, ⟨HF4.out.drewN _⟩⟩)
        | succ k1 =>
          have hi1 : i < l.length := by have := HI.out; omega
          have hi2 : i < 150 := by have := HI.out; omega
          obtain ⟨o, ho⟩ : ∃ o, l[i]? = some o := ⟨_, List.getElem?_eq_getElem hi1⟩
          obtain ⟨D, may, v, B, M, hD, hM, hInv, hMB, hB, hMs, hF⟩ := HS.out
          obtain ⟨ad, rfl, hk, hn, hwf, hrest⟩ := (HL.out.kept hF) i o ho
          have hi0 : (0 : Int) ≤ (i : Int) := by omega
          have hi3 : (i : Int) < (l.length : Int) := by omega
          have hi4 : (i : Int) < 150 := by omega
          obtain ⟨m, hm3, hm⟩ := rest3 o.n
          by_cases k1e : o.kind = 1
          · rw [k1e] at hk
            have hrow : IsBytes (wr.alloc (.cells (nums .u8 (rowN i)).toArray 5)) wr.heap.size (rowN i) := IsBytes.new _ _
            have hrc := rowN_cells i
            have hb1 := hrow.C (by rw [rowN_length]; omega)
            rw [rowN_length] at hb1
            have WR := Aside0.mk (write_calls g B D m (some ⟨wr.heap.size, 0, none⟩) 64 (rowN i) (wr.alloc (.cells (nums .u8 (rowN i)).toArray 5)) (hD.alloc _) ⟨by have := hInv.steps; omega, by have := hInv.steps; omega⟩ hInv.left (WalkArith.wf_i64 (by omega)) (by have := hInv.u; omega)
              (hrow.C (by rw [rowN_length]; omega)) (by rw [rowN_length]; exact Nat.le_refl _) (fun ad e _ h => by injection e with e; subst e; have := hD.lt _ h; exact Nat.lt_irrefl _ this))
            have INV := Aside0.mk (inv_write hInv hm3 (rowN i))
            rw [rowN_hd] at INV
            have HROW := Aside0.mk hrow
            have HI2 : Aside0 (i + 1 + k1 = N) := ⟨by have := HI.out; omega⟩
            have HM := Aside0.mk hM
            have HMB := Aside0.mk hMB
            have HB := Aside0.mk hB
            have HMs := Aside0.mk hMs
            have HF := Aside0.mk hF
            have HLEN : Aside0 ((may m).length ≤ 151) := ⟨by have := hInv.len m hm3; omega⟩
            have HLT := Aside0.mk hM.lt
            have HLTB := Aside0.mk hD.lt
            clear hrest hD hM hInv hMB hB hMs hF hb1 hrow
            go_wp2_with fail
            rw [rowN_length] at WR
            refine WR.out.mono ?_
            clear WR
            rintro e W2 ⟨rfl, ⟨B2, hd2, hb2⟩, hf2⟩
            have HM2 : Aside0 (IsMay W2 M mb v may) := ⟨(HM.out.fr ((Fr.refl (fun _ => False) wr).alloc _) (fun _ _ h => h)).fr hf2 HMB.out⟩
            have HMB2 : Aside0 (∀ k, M k → ¬ B2 k) := ⟨fun k hk h => (hb2 k h).elim (HMB.out k hk) (fun h => by have := HLT.out k hk; simp at h; omega)⟩
            have HB2 : Aside0 (∀ k, B2 k → w.heap.size ≤ k) := ⟨fun k h => (hb2 k h).elim (HB.out k) (fun h => by have := HF.out.size; simp at h; omega)⟩
            have HF2 : Aside0 (Fr (fun _ => False) w W2) := ⟨(HF.out.alloc _).trans hf2 (fun k h => .inr (HB.out k h))⟩
            have HROW2 : Aside0 (IsBytes W2 wr.heap.size (rowN i)) := ⟨HROW.out.kept (hf2.keep _ HROW.out.lt (fun h => by have := HLTB.out _ h; omega))⟩
            have HD2 := Aside0.mk hd2
            clear hd2 hb2 hf2 HROW hrc
            generalize hwd : writeD D (m : Int) (rowN i) = wd at *
            obtain ⟨we, D2⟩ := wd
            dsimp only at INV HD2
            clear hwd
            by_cases hwe : we = 0
            · subst hwe
              have HV := Aside0.mk (INV.out.1 rfl)
              obtain ⟨Am, cm, hvm, hcm⟩ := q_slice (HM2.out.row m hm3)
              have hc1 := HM2.out.cell hm3
              rw [hvm] at hc1
              have hQ : Aside0 (QRow W2 0 5 1 (.slice Am (may m).length cm) (may m).length (nums .u8 (may m))) := ⟨hvm ▸ HM2.out.row m hm3⟩
              have hf1 := HM2.out.free m
              have hc2 := HROW2.out.cell 0 (by rw [rowN_length]; omega)
              rw [show (rowN i).getD 0 0 = 1 + (i : Int) from rfl] at hc2
              have hm0 : (0 : Int) ≤ (m : Int) := by omega
              have hm1 : (m : Int) < 3 := by omega
              have HVM := Aside0.mk hvm
              clear hvm
              have hW2 : Aside0 (mb < W2.heap.size) := ⟨HM2.out.lt _ HM2.out.own⟩
              have hNE : Aside0 (some mb ≠ (Value.slice Am (may m).length cm).ownBlock) := ⟨fun e => HM2.out.ne hm3 (by rw [HVM.out]; exact e.symm)⟩
              have hC1 := Aside0.mk hc1
              have hF1 := Aside0.mk hf1
              have hW2' := hW2.out
              obtain ⟨x, hx⟩ : ∃ x, 1 + (i : Int) = x := ⟨_, rfl⟩
              rw [hx] at hc2 HV
              clear hx
              go_wp2_with fail
              have hone : ∀ u ∈ [Value.int .u8 x], u.oneCell' = true := fun u hu => by
                rw [List.mem_singleton.1 hu]
                rfl
              go_region_law (refine step_q rfl (.tmp 76) (.tmp 80) 22 rfl 0 5 (.int .u8 0) 1 1 Try.underlying22 info5 rfl (by omega) (.slice Am (may m).length cm) (may m).length (nums .u8 (may m)) (by rfl) (q_move hQ.out (fun b hb => Below.heap_alloc _ _ _ (q_lt hQ.out b hb))) ⟨W2.heap.size, 0, none⟩ 1 1 [.int .u8 x] (by rfl) rfl (World.news_of_block (cs := #[.int .u8 x]) (t := 5) (fr := (0, 0)) (heap_alloc_new _ _)) hone (by omega) (by have := HLEN.out; unfold maxLen; omega) (by have := HLEN.out; omega) (Nat.zero_le _) ?_; intro A' c' w3 hq hg hat; have c3 : w3.cell? ⟨mb, m, none⟩ = some (.slice Am (may m).length cm) := (hg.cell_far _ (by have := hW2.out; simp; omega) hNE.out).trans ((World.cell?_alloc_lt _ _ _ hW2.out).trans hC1.out); have f3 : w3.frozen? ⟨mb, m, none⟩ = false := (hg.frozen_far _ (by have := hW2.out; simp; omega) hNE.out).trans ((World.frozen?_alloc_past _ _ _ hW2.out).trans hF1.out); have HQ := Aside0.mk hq; have HG := Aside0.mk hg; have HAT := Aside0.mk hat; clear hq hg hat)
              all_goals (
                have P := HM2.out.app hm3 x (w3 := w3) HQ.out (by rw [HVM.out]; exact (((Fr.refl _ W2).alloc _).drew).trans (Fr.of_grownBy HG.out) (fun b h => .inl h)) (by rw [HVM.out]; exact HAT.out.imp id (fun ⟨b, h1, h2⟩ => ⟨b, h1, Nat.le_trans (by simp) h2⟩))
                obtain ⟨⟨M3, hm3', hM3⟩, hf3⟩ := P
                have HS2 : Aside0 (St w (w3.setCell ⟨mb, m, none⟩ (.slice A' ((may m).length + 1) c')) g mb (i + 1)) := ⟨D2, _, _, B2, M3, HD2.out.fr hf3 (fun k h h2 => HMB2.out k h2 h), hm3', HV.out, fun k h h2 => (hM3 k h).elim (fun h => HMB2.out k h h2) (fun h => by have := HD2.out.lt k h2; omega), HB2.out, fun k h => (hM3 k h).elim (HMs.out k) (fun h => Nat.le_trans HF2.out.size h), HF2.out.trans hf3 (fun k h => .inr (HMs.out k h))⟩
                clear hm3' hM3 hf3 c3 f3
                go_wp2_with fail
                go_roundg k1
                case measure => omega
                case rel => exact ⟨i + 1, by go_num, HI2, HS2⟩)
            · have hwe2 : (we == 0) = false := by simpa using hwe
              have HS2 : Aside0 (St w W2 g mb (i + 1)) := ⟨D2, may, v, B2, M, HD2.out, HM2.out, INV.out.2 hwe, HMB2.out, HB2.out, HMs.out, HF2.out⟩
              clear hwe
              go_wp2_with fail
              go_roundg k1
              case measure => omega
              case rel => exact ⟨i + 1, by go_num, HI2, HS2⟩
          · by_cases k2e : o.kind = 2
            · rw [k2e] at hk
              have FL := Aside0.mk (flush_calls g B D wr hD ⟨by have := hInv.steps; omega, by have := hInv.steps; omega⟩ hInv.left (by have := hInv.u; omega) (by have := hInv.u; omega))
              have INV := Aside0.mk (inv_flush hInv)
              have HI2 : Aside0 (i + 1 + k1 = N) := ⟨by have := HI.out; omega⟩
              have HM := Aside0.mk hM
              have HMB := Aside0.mk hMB
              have HB := Aside0.mk hB
              have HMs := Aside0.mk hMs
              have HF := Aside0.mk hF
              have HLEN := Aside0.mk hInv.len
              have HNE : Aside0 (∀ k, k < 3 → 1 ≤ (may k).length) := ⟨fun k hk => by
                have h := hInv.last k hk
                cases hl : may k with
                | nil => rw [hl] at h; cases h
                | cons a b => simp⟩
              clear hrest hD hM hInv hMB hB hMs hF
              go_wp2_with fail
              refine FL.out.mono ?_
              clear FL
              rintro e W2 ⟨rfl, hd2, hf2⟩
              have HD2 := Aside0.mk hd2
              have HM2 : Aside0 (IsMay W2 M mb v may) := ⟨HM.out.fr hf2 HMB.out⟩
              have HF2 : Aside0 (Fr (fun _ => False) w W2) := ⟨HF.out.trans hf2 (fun k h => .inr (HB.out k h))⟩
              clear hd2 hf2
              generalize hwd : flushD D = wd at *
              obtain ⟨we, D2⟩ := wd
              dsimp only at INV HD2
              clear hwd
              by_cases hwe : we = 0
              · subst hwe
                have HV := Aside0.mk (INV.out.1 rfl)
                have HM3 : Aside0 (IsMay W2 M mb v (cutM may 0)) := ⟨HM2.out.congr (fun k hk => by unfold cutM; rw [if_neg (by omega)])⟩
                clear HM HM2 INV
                go_wp2_with fail
                go_loopg [12] 3 (fun kq v12 w' => ∃ (k : Nat) (v : Nat → Value) (M : Nat → Prop), v12 = .int .i64 (k : Int) ∧ Aside0 (k + kq = 3) ∧ Aside0 (IsMay w' M mb v (cutM may k)) ∧ Aside0 (∀ b, M b → ¬ B b) ∧ Aside0 (∀ b, M b → w.heap.size ≤ b) ∧ Aside0 (IsDisk w' B g D2) ∧ Aside0 (Fr (fun _ => False) w w'))
                case atStart => exact ⟨0, v, M, rfl, ⟨rfl⟩, HM3, HMB, HMs, HD2, HF2⟩
                case round =>
                  clear HM3 HMB HMs HD2 HF2
                  obtain ⟨k, v, M, rfl, HK3, HM3, HMB, HMs, HD2, HF2⟩ := hrel
                  cases gk with
                  | zero =>
                    have hk3 : k = 3 := by have := HK3.out; omega
                    subst hk3
                    have HS2 : Aside0 (St w wr g mb (i + 1)) := ⟨D2, _, v, B, M, HD2.out, HM3.out.congr (fun k hk => by unfold cutM; rw [if_pos hk]), HV.out, HMB.out, HB.out, HMs.out, HF2.out⟩
                    go_wp2_with fail
                    go_roundg k1
                    case measure => omega
                    case rel => exact ⟨i + 1, by go_num, HI2, HS2⟩
                  | succ k2 =>
                    have hk3 : k < 3 := by have := HK3.out; omega
                    have hk0 : (0 : Int) ≤ (k : Int) := by omega
                    have hk1 : (k : Int) < 3 := by omega
                    obtain ⟨q, hq⟩ : ∃ q, (may k).length = q + 1 := ⟨(may k).length - 1, by have := HNE.out k hk3; omega⟩
                    obtain ⟨A, c, hv, hcc⟩ := q_slice (HM3.out.row k hk3)
                    have hlk : (cutM may k k).length = q + 1 := by unfold cutM; rw [if_neg (Nat.lt_irrefl k), hq]
                    rw [hlk] at hv hcc
                    have hc1 := HM3.out.cell hk3
                    rw [hv] at hc1
                    have hf1 := HM3.out.free k
                    have HP := Aside0.mk (HM3.out.cut hk3 hv hq hcc)
                    have hq2 : q ≤ 151 := by have := HLEN.out k hk3; omega
                    clear hv hlk hq
                    go_wp2_with fail
                    go_region
                    obtain ⟨⟨M2, hm2, hM2⟩, hf2⟩ := HP.out
                    have HM4 := Aside0.mk hm2
                    have HMB4 : Aside0 (∀ b, M2 b → ¬ B b) := ⟨fun b h h2 => (hM2 b h).elim (fun h => HMB.out b h h2) (fun h => by have := HD2.out.lt b h2; omega)⟩
                    have HMs4 : Aside0 (∀ b, M2 b → w.heap.size ≤ b) := ⟨fun b h => (hM2 b h).elim (HMs.out b) (fun h => Nat.le_trans HF2.out.size h)⟩
                    have HD4 : Aside0 (IsDisk (wr.setCell ⟨mb, k, none⟩ (.slice (A.map (fun x => x.add q)) 1 (c - q))).drew B g D2) := ⟨HD2.out.fr hf2 (fun b h h2 => HMB.out b h2 h)⟩
                    have HF4 : Aside0 (Fr (fun _ => False) w (wr.setCell ⟨mb, k, none⟩ (.slice (A.map (fun x => x.add q)) 1 (c - q))).drew) := ⟨HF2.out.trans hf2 (fun b h => .inr (HMs.out b h))⟩
                    clear hm2 hM2 hf2 HP hc1 hf1
                    go_wp2_with fail
                    go_roundg k2
                    case measure => omega
                    case rel => exact ⟨k + 1, _, M2, by go_num, ⟨by have := HK3.out; omega⟩, HM4, HMB4, HMs4, HD4, HF4⟩
              · have hwe2 : (we == 0) = false := by simpa using hwe
                have HS2 : Aside0 (St w W2 g mb (i + 1)) := ⟨D2, may, v, B, M, HD2.out, HM2.out, INV.out.2 hwe, HMB.out, HB.out, HMs.out, HF2.out⟩
                clear hwe
                go_wp2_with fail
                go_roundg k1
                case measure => omega
                case rel => exact ⟨i + 1, by go_num, HI2, HS2⟩
            · by_cases k3e : o.kind = 3
              · rw [k3e] at hk
                have hx : (if o.n < -1 then -1 else o.n) ≤ 9223372036854775807 := by
                  have := wf_le hwf
                  split <;> omega
                have HI2 : Aside0 (i + 1 + k1 = N) := ⟨by have := HI.out; omega⟩
                have AR := Aside0.mk (arm_calls g B D o.n wr hD)
                have HM := Aside0.mk hM
                have HV := Aside0.mk hInv
                have HMB := Aside0.mk hMB
                have HB := Aside0.mk hB
                have HMs := Aside0.mk hMs
                have HF := Aside0.mk hF
                have HX := Aside0.mk hx
                clear hrest hD hM hInv hMB hB hMs hF hx
                go_wp2_with fail
                refine AR.out.mono ?_
                rintro e W2 ⟨rfl, hd2, hf2⟩
                have HS2 : Aside0 (St w W2 g mb (i + 1)) := ⟨_, may, v, B, M, hd2, HM.out.fr hf2 HMB.out, inv_arm HV.out HX.out, HMB.out, HB.out, HMs.out, HF.out.trans hf2 (fun k h => .inr (HB.out k h))⟩
                clear hd2 hf2
                go_wp2_with fail
                go_roundg k1
                case measure => omega
                case rel => exact ⟨i + 1, by go_num, HI2, HS2⟩
              · have e1 : (o.kind == 1) = false := by simpa using k1e
                have e2 : (o.kind == 2) = false := by simpa using k2e
                have e3 : (o.kind == 3) = false := by simpa using k3e
                clear hrest
                have HS2 : Aside0 (St w wr g mb (i + 1)) := ⟨D, may, v, B, M, hD, hM, hInv.up, hMB, hB, hMs, hF⟩
                have HI2 : Aside0 (i + 1 + k1 = N) := ⟨by have := HI.out; omega⟩
                clear hD hM hInv hMB hB hMs hF
                go_wp2_with fail
                go_roundg k1
                case measure => omega
                case rel => exact ⟨i + 1, by go_num, HI2, HS2⟩
    | succ k1 =>
      have hi : i < 3 := by have := HI.out; omega
      have hi0 : (0 : Int) ≤ (i : Int) := by omega
      have hi1 : (i : Int) < 3 := by omega
      have c1 := HM.out.cell hi
      have f1 := HM.out.free i
      have hlt := HM.out.lt _ HM.out.own
      have P := HM.out.put (w1 := wr.alloc (.cells #[.int .u8 0] 5)) (u := .slice (some ⟨wr.heap.size, 0, none⟩) 1 1) (l := [0]) hi ((Fr.refl _ _).alloc _) (q_new wr 0) (.inr ⟨wr.heap.size, rfl, Nat.le_refl _⟩)
      rw [World.setCell_alloc_past _ _ _ _ hlt, start_succ] at P
      obtain ⟨⟨M2, hm2, hM2⟩, hf2⟩ := P
      have HM2 := Aside0.mk hm2
      have HMb2 : Aside0 (∀ b, M2 b → w2.heap.size ≤ b) := ⟨fun b hb => (hM2 b hb).elim (HMb.out b) (fun h => Nat.le_trans HF3.out.size h)⟩
      have HF4 : Aside0 (Fr (fun _ => False) w2 ((wr.setCell ⟨w2.heap.size, i, none⟩ (.slice (some ⟨wr.heap.size, 0, none⟩) 1 1)).alloc (.cells #[.int .u8 0] 5))) := ⟨HF3.out.trans hf2 (fun b hb => .inr (HMb.out b hb))⟩
      clear hm2 hM2 hf2
      go_wp2
      go_roundg k1
      case measure => omega
      case rel => exact ⟨i + 1, _, M2, by go_num, ⟨by have := HI.out; omega⟩, HM2, HMb2, HF4⟩
end Go.Proofs.Ytppgbfkhiofjiaa.X
