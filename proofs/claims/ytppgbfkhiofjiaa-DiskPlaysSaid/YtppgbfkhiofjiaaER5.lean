/-
  The contracts of the reference's Read and Pending, and of SameInts.
-/
import Derived.Test.YtppgbfkhiofjiaaER4
namespace Go.Proofs.Ytppgbfkhiofjiaa.X
open Go.RowKit Go.Proofs.YtppgbfkhiofjiaaW.PrintWords Go.Proofs.YtppgbfkhiofjiaaW.PrintLast Go.Proofs.YtppgbfkhiofjiaaW.PrintMore
set_option linter.unusedVariables false
set_option linter.unusedSimpArgs false

set_option maxHeartbeats 2000000 in
theorem rread_bad (r : Nat) (R : Nat → Prop) (D : DS) (n : Int) (w : World) (h : IsRef w R r D) (h1 : lookD D n ≠ 0) :
    Calls Try.prog 42 #[.pointer (some ⟨r, 0, none⟩), .int .i64 n] w fun e w' => e = .returned (.tuple #[.slice none 0 0, .int .i64 (lookD D n)]) ∧ Drawn0 w w' := by
  have SEC := Aside0.mk (rsectors_calls r R D w h)
  obtain ⟨lv, pv, c0, c1, c2, c3, c4, cf, hlt⟩ := h.cells
  obtain ⟨dd, hdd⟩ : ∃ dd, D.down = dd := ⟨_, rfl⟩
  have HDD := Aside0.mk hdd
  rw [hdd] at c3
  clear c0 c1 c2 c4 cf h hdd
  cases dd with
  | true =>
    have RR : Aside0 (lookD D n = 230) := ⟨by unfold lookD; rw [HDD.out, if_pos rfl]⟩
    go_enter Try.func42, Try.ntmps42
    go_wp2
    go_ret2
    rw [RR.out]
    exact ⟨rfl, Drawn0.refl _⟩
  | false =>
    by_cases h2 : n < 0
    · have RR : Aside0 (lookD D n = 2) := ⟨look_neg HDD.out h2⟩
      go_enter Try.func42, Try.ntmps42
      go_wp2
      go_ret2
      rw [RR.out]
      exact ⟨rfl, Drawn0.refl _⟩
    · by_cases h3 : D.n ≤ n
      · have RR : Aside0 (lookD D n = 2) := ⟨look_over HDD.out h2 h3⟩
        go_enter Try.func42, Try.ntmps42
        go_wp2_with fail
        refine SEC.out.mono ?_
        rintro e w' ⟨rfl, ⟨nq, rfl⟩⟩
        go_wp2
        go_ret2
        rw [RR.out]
        exact ⟨rfl, ⟨nq, rfl⟩⟩
      · exact absurd (by unfold lookD; rw [HDD.out, if_neg (by decide), if_neg h2, if_neg h3] : lookD D n = 0) h1

/-- The bytes that last of one sector, in the cells. -/
theorem RefAt.sector {w : World} {R : Nat → Prop} {r : Nat} {D : DS} {lv pv : Value} {qs : List (Int × Value)} {n : Nat} (h : RefAt w R r D lv pv qs n) {k : Nat} (hk : k < n) :
    ∃ gb cap, lv = .slice (some ⟨gb, 0, none⟩) (n * 64) cap ∧ n * 64 ≤ cap ∧ w.cell? ⟨r, 0, none⟩ = some lv ∧ (D.f k).length = 64 ∧ ∀ j u, (nums .u8 (D.f k))[j]? = some u → w.cell? ⟨gb, k * 64 + j, none⟩ = some u := by
  obtain ⟨lb, h1, h2, h3, h4, h5, h6, h7, h8, h9, h10, h11, h12, h13⟩ := h
  have hll : lb.length = n * 64 := by have := h8.1; simpa [nums] using this
  have hc : w.cell? ⟨r, 0, none⟩ = some lv := by rw [cell_of_row w r _ _ 81 (0, 0) h1]; rfl
  rcases h8.2 with ⟨_, hz⟩ | ⟨gb, cap, cur, e, b0, b1, b2, b3, b4, b5⟩
  · omega
  · refine ⟨gb, cap, e, b2, hc, by rw [← h9 k hk, List.length_take, List.length_drop]; omega, fun j u hu => ?_⟩
    have hcs := h8.cells (g := gb) (by rw [e]; rfl)
    have := hcs (k * 64 + j) u (by
      rw [← h9 k hk] at hu
      unfold nums at hu ⊢
      rw [List.getElem?_map, List.getElem?_take] at hu
      rw [List.getElem?_map]
      split at hu
      · rw [List.getElem?_drop] at hu; exact hu
      · cases hu)
    rwa [Addr.add_mid, Nat.zero_add] at this

set_option maxHeartbeats 4000000 in
set_option maxRecDepth 100000 in
theorem rread_calls (r : Nat) (R : Nat → Prop) (D : DS) (n : Int) (w : World) (h : IsRef w R r D) (h1 : lookD D n = 0) (hc : D.c.length ≤ 1000000) :
    Calls Try.prog 42 #[.pointer (some ⟨r, 0, none⟩), .int .i64 n] w fun e w' => ∃ g cap, e = .returned (.tuple #[.slice (some ⟨g, 0, none⟩) 64 cap, .int .i64 0]) ∧ w'.ownsRow 0 5 1 (.slice (some ⟨g, 0, none⟩) 64 cap) 64 (nums .u8 (readC n D.c (D.f n))) ∧ Fr (fun _ => False) w w' := by
  have hdn : D.down = false := by
    cases hd : D.down with
    | false => rfl
    | true => unfold lookD at h1; rw [hd, if_pos rfl] at h1; exact absurd h1 (by decide)
  have hn0 : ¬ n < 0 := fun h2 => by rw [look_neg hdn h2] at h1; exact absurd h1 (by decide)
  have hn1 : ¬ D.n ≤ n := fun h2 => by rw [look_over hdn hn0 h2] at h1; exact absurd h1 (by decide)
  have SEC := Aside0.mk (rsectors_calls r R D w h)
  obtain ⟨lv, pv, qs, m, hat⟩ := h.at
  obtain ⟨k, rfl⟩ := Int.eq_ofNat_of_zero_le (Int.not_lt.1 hn0)
  have hDn : D.n = m := by obtain ⟨lb, _, _, _, _, h5, _⟩ := hat; exact h5
  have hkm : k < m := by omega
  have hm : m ≤ 4096 := by obtain ⟨lb, _, _, _, _, _, _, h7, _⟩ := hat; exact h7
  obtain ⟨gb, cap, rfl, hcap, c0, hl64, hcs⟩ := hat.sector hkm
  obtain ⟨⟨Ap, capp, hpv⟩, c1, f1, hlt⟩ := hat.pv
  obtain ⟨N, hN⟩ : ∃ N, D.c.length = N := ⟨_, rfl⟩
  have HN := Aside0.mk hN
  rw [hN] at hpv hc
  subst hpv
  have c3 : w.cell? ⟨r, 3, none⟩ = some (.bool false) := by
    obtain ⟨_, _, _, _, _, c3, _⟩ := h.cells
    rw [hdn] at c3
    exact c3
  have HAT := Aside0.mk hat
  have HC1 := Aside0.mk c1
  have HL : Aside0 ((D.f (k : Int)).length = 64) := ⟨hl64⟩
  have HCS := Aside0.mk hcs
  have hnk : ¬ ((k : Int) < 0) := by omega
  clear hat hcs f1 hl64 hN h h1 hdn hn0 hn1
  have hk0 : (0 : Int) ≤ (k : Int) * 64 := by omega
  have hne : ¬ cap = k * 64 := by omega
  have hkn : k ≤ m := by omega
  have htn : ((k : Int) * 64).toNat = k * 64 := by omega
  have ht2 : ((k : Int) * 64 + 64).toNat = k * 64 + 64 := by omega
  have hle : (k : Int) * 64 + 64 ≤ (cap : Int) := by omega
  have hDk : ¬ D.n ≤ (k : Int) := by omega
  have hmk : decide (m ≤ k) = false := by simp; omega
  go_enter Try.func42, Try.ntmps42
  go_wp2_with fail
  refine SEC.out.mono ?_
  rintro e w' ⟨rfl, ⟨nq, rfl⟩⟩
  go_wp2_with fail
  clear htn ht2 hle hDk hne hk0 hkn
  go_loopg [6, 7] N (fun kq v6 v7 w' => ∃ (i bk o c : Nat) (cur : List Int), v6 = .slice (some ⟨bk, o, none⟩) 64 c ∧ v7 = .int .i64 (i : Int) ∧ w' = w.drewN nq ∧ Aside0 (i + kq = N) ∧ Aside0 (cur.length = 64) ∧ Aside0 (∀ j u, (nums .u8 cur)[j]? = some u → w.cell? ⟨bk, o + j, none⟩ = some u) ∧
      Aside0 (readC (k : Int) (D.c.drop i) cur = readC (k : Int) D.c (D.f (k : Int))))
  case atStart => exact ⟨0, gb, k * 64, cap - k * 64, D.f (k : Int), rfl, rfl, rfl, ⟨by omega⟩, HL, HCS, ⟨by rw [List.drop_zero]⟩⟩
  case round =>
    obtain ⟨i, bk, o, c, cur, rfl, rfl, rfl, HI, HL2, HCS2, HS⟩ := hrel
    have hi0 : (0 : Int) ≤ (i : Int) := by omega
    cases gk with
    | zero =>
      have hi : i = N := by have := HI.out; omega
      subst hi
      have RR : Aside0 (cur = readC (k : Int) D.c (D.f (k : Int))) := ⟨by
        have hs := HS.out
        rw [List.drop_of_length_le (by rw [HN.out]; exact Nat.le_refl _)] at hs
        exact hs⟩
      obtain ⟨i5, hi5, hz5a, hz5b, hz5c⟩ := info_parts info5
      have HK : Aside0 (∀ W : World, W.heap = (w.alloc (.cells #[] 5)).heap → W.ownsRow 0 5 1 (.slice (some ⟨w.heap.size, 0, none⟩) 0 0) 0 []) := ⟨fun W hW => ⟨rfl, .inr ⟨w.heap.size, 0, #[], rfl, Nat.zero_le _, by rw [hW]; exact heap_alloc_new _ _, Nat.le_refl _, by decide, rfl, rfl⟩⟩⟩
      have HSRC : Aside0 (∀ W : World, W.heap = (w.alloc (.cells #[] 5)).heap → ∀ j u, (nums .u8 cur)[j]? = some u → W.cell? ((⟨bk, o, none⟩ : Addr).add j) = some u) := ⟨fun W hW j u hu => by
        have h := HCS2.out j u hu
        rw [Addr.add_mid, ← h]
        exact World.cell?_of_block (by rw [hW]; exact Below.heap_alloc _ _ _ (World.block_lt_of_cell? w _ h))⟩
      have hone1 : ∀ u ∈ nums .u8 cur, u.oneCell' = true := fun u hu => by
        obtain ⟨x, _, rfl⟩ := List.mem_map.1 hu
        rfl
      have hnl : Aside0 ((nums .u8 cur).length = 64 * 1) := ⟨by rw [nums_length, HL2.out]⟩
      go_wp2_with ((with_reducible refine gate_builtin (b := .append) (xs := #[.tmp 57, .tmp 58]) rfl ?_); at_builtin; refine wpList_append_lies _ rfl (.tmp 57) (.tmp 58) 22 rfl 0 5 i5 _ 1 1 Try.underlying22 hi5 hz5a hz5b hz5c rfl (by omega) (.slice (some ⟨w.heap.size, 0, none⟩) 0 0) 0 [] rfl (HK.out _ rfl) ⟨bk, o, none⟩ 64 c (nums .u8 cur) rfl hnl.out (HSRC.out _ rfl) hone1 (by omega) (by unfold maxLen; omega) (by omega) (Nat.zero_le _) _ rfl ?_; intro g1 cap1 w3 ho1 hg1 hat1 hlt1; have HO1 := Aside0.mk ho1; have HG1 := Aside0.mk hg1; clear ho1 hg1 hat1 hlt1)
      go_ret2
      have ho := HO1.out
      rw [Nat.zero_add, List.nil_append, RR.out] at ho
      refine ⟨g1, cap1, rfl, ho, ?_⟩
      exact (((Fr.refl (fun _ => False) w).drewN nq).alloc _).trans (Fr.of_grownBy HG1.out) (fun b hb => .inr (by
        have e : w.heap.size = b := by simpa [Value.ownBlock] using hb
        omega))
    | succ k1 =>
      have hi : i < N := by have := HI.out; omega
      have hi1 : (i : Int) < (N : Int) := by omega
      obtain ⟨p, q, gp, cap', hp, hq, hpq, epv, d1, d2⟩ := HAT.out.pend (i := i) (by rw [HN.out]; exact hi)
      injection epv with e1 e2 e3
      subst e1
      obtain ⟨lb, _, _, _, _, _, _, _, _, _, _, a11, a12, _⟩ := HAT.out
      obtain ⟨_, g2, _⟩ := a11.2 i p q hp hq
      have hp64 := (a12 p (List.mem_of_getElem? hp)).2.2
      obtain ⟨qn, qv⟩ := q
      dsimp only at d1 d2 hpq g2
      subst hpq
      obtain ⟨qb, qc, rfl⟩ : ∃ qb qc, qv = .slice (some ⟨qb, 0, none⟩) 64 qc := by
        rcases g2.2 with ⟨_, hz⟩ | ⟨qb, qc, cur, e, _⟩
        · omega
        · exact ⟨qb, qc, e⟩
      have HCS3 : Aside0 (∀ j u, (nums .u8 p.2)[j]? = some u → w.cell? ⟨qb, 0 + j, none⟩ = some u) := ⟨fun j u hu => by
        have := g2.cells (g := qb) rfl j u hu
        rwa [Addr.add_mid] at this⟩
      have HL3 : Aside0 (p.2.length = 64) := ⟨hp64⟩
      have HS3 : Aside0 (readC (k : Int) (D.c.drop (i + 1)) (if p.1 = (k : Int) then p.2 else cur) = readC (k : Int) D.c (D.f (k : Int))) := ⟨by rw [← HS.out, readC_drop _ _ _ _ hp]⟩
      have HI3 : Aside0 (i + 1 + k1 = N) := ⟨by have := HI.out; omega⟩
      clear hp hq e2 e3 a11 a12 g2 hp64
      by_cases hpn : p.1 = (k : Int)
      · rw [if_pos hpn] at HS3
        rw [hpn] at d1
        clear hpn
        go_wp2_with fail
        go_roundg k1
        case measure => omega
        case rel => exact ⟨i + 1, qb, 0, qc, p.2, rfl, by go_num, rfl, HI3, HL3, HCS3, HS3⟩
      · rw [if_neg hpn] at HS3
        have hpb : (p.1 == (k : Int)) = false := by simpa using hpn
        clear hpn
        go_wp2_with fail
        go_roundg k1
        case measure => omega
        case rel => exact ⟨i + 1, bk, o, c, cur, rfl, by go_num, rfl, HI3, HL2, HCS2, HS3⟩

set_option maxHeartbeats 4000000 in
set_option maxRecDepth 100000 in
theorem rpending_calls (r : Nat) (R : Nat → Prop) (D : DS) (w : World) (h : IsRef w R r D) (hc : D.c.length ≤ 1000000) :
    Calls Try.prog 41 #[.pointer (some ⟨r, 0, none⟩)] w fun e w' => ∃ v, e = .returned v ∧ w'.ownsRow w.heap.size 3 1 v D.c.length (nums .i64 (keysC D.c)) ∧ Fr (fun _ => False) w w' := by
  obtain ⟨lv, pv, qs, n, hat⟩ := h.at
  obtain ⟨⟨A, cap, hpv⟩, c1, f1, hlt⟩ := hat.pv
  obtain ⟨N, hN⟩ : ∃ N, D.c.length = N := ⟨_, rfl⟩
  have HN := Aside0.mk hN
  rw [hN] at hpv hc
  subst hpv
  have HAT := Aside0.mk hat
  have HF0 := Aside0.mk (Fr.refl (fun _ => False) w)
  clear hat f1 hN h c1
  go_enter Try.func41, Try.ntmps41
  go_wp2_with fail
  go_loopg [3, 4] N (fun kq v3 v4 w' => ∃ (i : Nat) (A3 : Option Addr) (c3 : Nat), v3 = .slice A3 i c3 ∧ v4 = .int .i64 (i : Int) ∧ Aside0 (i + kq = N) ∧ Aside0 (w'.ownsRow w.heap.size 3 1 (.slice A3 i c3) i (nums .i64 (keysC (D.c.take i)))) ∧ Aside0 (Fr (fun _ => False) w w'))
  case atStart => exact ⟨0, none, 0, rfl, rfl, ⟨by omega⟩, ⟨⟨rfl, .inl ⟨rfl, rfl⟩⟩⟩, HF0⟩
  case round =>
    clear HF0
    obtain ⟨i, A3, c3, rfl, rfl, HI, HO, HF⟩ := hrel
    have hat := HAT.out.fr HF.out (fun _ _ h => h)
    obtain ⟨_, c1, _, hlt2⟩ := hat.pv
    have hi0 : (0 : Int) ≤ (i : Int) := by omega
    cases gk with
    | zero =>
      have hi : i = N := by have := HI.out; omega
      subst hi
      clear hat
      go_wp2_with fail
      go_ret
      refine ⟨_, rfl, ?_, HF.out⟩
      have := HO.out
      rw [List.take_of_length_le (by rw [HN.out]; exact Nat.le_refl _)] at this
      rw [HN.out]
      exact this
    | succ k1 =>
      have hi : i < N := by have := HI.out; omega
      have hi1 : (i : Int) < (N : Int) := by omega
      obtain ⟨p, q, gp, cap', hp, hq, hpq, epv, d1, d2⟩ := hat.pend (i := i) (by rw [HN.out]; exact hi)
      injection epv with e1 e2 e3
      subst e1
      rw [hpq] at d1
      have HT : Aside0 (nums .i64 (keysC (D.c.take (i + 1))) = nums .i64 (keysC (D.c.take i)) ++ [.int .i64 p.1]) := ⟨by
        rw [List.take_add_one, hp]
        simp [keysC, nums]⟩
      have HI3 : Aside0 (i + 1 + k1 = N) := ⟨by have := HI.out; omega⟩
      have hone : ∀ u ∈ [Value.int .i64 p.1], u.oneCell' = true := fun u hu => by
        rw [List.mem_singleton.1 hu]
        rfl
      clear hp hq hpq e2 e3 hat d2
      go_wp2_with ((with_reducible refine gate_builtin (b := .append) (xs := #[.tmp 14, .tmp 23]) rfl ?_); at_builtin; refine wpList_append_own rfl (.tmp 14) (.tmp 23) 45 rfl w.heap.size 3 (.int .i64 0) 1 8 Try.underlying45 info3' rfl (by omega) (.slice A3 i c3) i (nums .i64 (keysC (D.c.take i))) rfl (ownsRow_kept HO.out (fun k e => (Below.heap_alloc _ _ _ (q_lt (q_of_own HO.out) k e)))) ⟨wr.heap.size, 0, none⟩ 1 1 [.int .i64 p.1] rfl rfl (World.news_of_block (cs := #[.int .i64 p.1]) (t := 3) (fr := (0, 0)) (heap_alloc_new _ _)) hone (by unfold maxLen; omega) (by omega) (by have := HF.out.size; simp; omega) ?_; intro v' w' h2 h3 h4; have H2 := Aside0.mk h2; have H3 := Aside0.mk h3; clear h2 h3 h4)
      obtain ⟨A4, c4, rfl, _⟩ := q_slice (q_of_own H2.out)
      have HO4 : Aside0 (w'.ownsRow w.heap.size 3 1 (.slice A4 (i + 1) c4) (i + 1) (nums .i64 (keysC (D.c.take (i + 1))))) := ⟨by rw [HT.out]; exact H2.out⟩
      have HF4 : Aside0 (Fr (fun _ => False) w w') := ⟨(HF.out.alloc _).trans (Fr.of_grownBy H3.out) (fun k h => .inr (q_typed (q_of_own HO.out) k h).1)⟩
      clear H2 H3
      go_roundg k1
      case measure => omega
      case rel => exact ⟨i + 1, A4, c4, rfl, by go_num, HI3, HO4, HF4⟩
end Go.Proofs.Ytppgbfkhiofjiaa.X
