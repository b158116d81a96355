/-
  The contract of edits.runs: its iterator gives the pieces of a script, one behind the other, to every loop body that goes on.
-/
import Derived.Test.YtpkhfeeelkhkaaaX0
import Derived.Test.YtpkhfeeelkhkaaaECost
import Derived.Test.YtpkhfeeelkhkaaaEBridge
namespace Go.Proofs.Ytpkhfeeelkhkaaa.X
open Go.RowKit Go.Proofs.YtpkhfeeelkhkaaaW.PrintWords Go.Proofs.YtpkhfeeelkhkaaaW.PrintLast Go.Proofs.YtpkhfeeelkhkaaaW.PrintMore Go.Proofs.YtpkhfeeelkhkaaaB
attribute [local go_sem] Oper.semAt_some
set_option linter.unusedVariables false

/-- The pieces of a script behind the places a and b. -/
def pieces : List S54 → Int → Int → Int → List (S54 × Bool)
  | [], n, a, b => if a < n then [(⟨a, n - a, b, n - a⟩, true)] else []
  | c :: l, n, a, b => (if a < c.f0 then [(⟨a, c.f0 - a, b, c.f0 - a⟩, true)] else []) ++ (c, false) :: pieces l n (c.f0 + c.f1) (c.f2 + c.f3)
def encP (p : S54 × Bool) : Array Value := #[.agg #[.int .i64 p.1.f0, .int .i64 p.1.f1, .int .i64 p.1.f2, .int .i64 p.1.f3], .bool p.2]
/-- Numbers that a change may have. -/
def Cnt (n : Int) : Prop := 0 ≤ n ∧ n ≤ 2147483647
def Chg (c : S54) : Prop := Cnt c.f0 ∧ Cnt c.f1 ∧ Cnt c.f2 ∧ Cnt c.f3

/-- What a round keeps: all that lay when the loop began, one block aside, and every change that lies somewhere. -/
structure Kept54 (n₀ bo : Nat) (A B : World) : Prop where
  size : A.heap.size ≤ B.heap.size
  old : ∀ i, i < n₀ → i ≠ bo → B.heap[i]? = A.heap[i]?
  c54 : ∀ (i : Nat) (cs : Array Value) (fr : Nat × Nat), A.heap[i]? = some (.cells cs 54 fr) → B.heap[i]? = some (.cells cs 54 fr)
theorem Kept54.refl (n₀ bo : Nat) (A : World) : Kept54 n₀ bo A A := ⟨Nat.le_refl _, fun _ _ _ => rfl, fun _ _ _ h => h⟩
theorem Kept54.trans {n₀ bo : Nat} {A B C : World} (h : Kept54 n₀ bo A B) (k : Kept54 n₀ bo B C) : Kept54 n₀ bo A C :=
  ⟨Nat.le_trans h.size k.size, fun i a b => (k.old i a b).trans (h.old i a b), fun i cs fr e => k.c54 i cs fr (h.c54 i cs fr e)⟩
theorem cell_of_heap {A B : World} {p : Addr} (h : B.heap[p.block]? = A.heap[p.block]?) : B.cell? p = A.cell? p := by
  unfold World.cell?
  rw [h]
theorem Kept54.cell {n₀ bo : Nat} {A B : World} (h : Kept54 n₀ bo A B) {p : Addr} (hp : p.block < n₀) (hb : p.block ≠ bo) : B.cell? p = A.cell? p := cell_of_heap (h.old _ hp hb)
theorem Kept54.alloc {n₀ bo : Nat} {A B : World} (h : Kept54 n₀ bo A B) (hn : n₀ ≤ B.heap.size) (o : Obj) : Kept54 n₀ bo A (B.alloc o) :=
  ⟨by have := h.size; simp; omega, fun i a b => (Below.heap_alloc B o i (by omega)).trans (h.old i a b),
   fun i cs fr e => (Below.heap_alloc B o i (Array.getElem?_eq_some_iff.1 (h.c54 i cs fr e)).1).trans (h.c54 i cs fr e)⟩
theorem Kept54.drew {n₀ bo : Nat} {A B : World} (h : Kept54 n₀ bo A B) : Kept54 n₀ bo A B.drew := ⟨h.size, h.old, h.c54⟩

theorem drop_cons {α : Type} {xs : List α} {k : Nat} {x : α} {rest : List α} (h : xs.drop k = x :: rest) : xs[k]? = some x ∧ xs.drop (k + 1) = rest ∧ k < xs.length := by
  have hk : k < xs.length := by
    rcases Nat.lt_or_ge k xs.length with h1 | h1
    · exact h1
    · rw [List.drop_of_length_le h1] at h
      cases h
  rw [List.drop_eq_getElem_cons hk] at h
  injection h with h1 h2
  exact ⟨by rw [List.getElem?_eq_getElem hk, h1], h2, hk⟩

theorem box54 {w : World} {g : Nat} {c : S54} (h : w.heap[g]? = some (.cells #[.int .i64 c.f0, .int .i64 c.f1, .int .i64 c.f2, .int .i64 c.f3] 54 (0, 0))) :
    w.cell? ⟨g, 0, none⟩ = some (.int .i64 c.f0) ∧ w.cell? ⟨g, 1, none⟩ = some (.int .i64 c.f1) ∧ w.cell? ⟨g, 2, none⟩ = some (.int .i64 c.f2) ∧ w.cell? ⟨g, 3, none⟩ = some (.int .i64 c.f3) := by
  refine ⟨?_, ?_, ?_, ?_⟩ <;> simp [World.cell?, h]

set_option maxRecDepth 100000 in
set_option maxHeartbeats 2000000 in
theorem runs1_in (n : Nat) (hn1 : 1 ≤ n) (l Bl Bn n₀ bo : Nat) (A0 : Option Addr) (c0 : Nat) (l0 : List S54) (N : Int) (hN0 : 0 ≤ N) (hN1 : N ≤ 1152921504606846976) (hV : ∀ c ∈ l0, Chg c)
    (hBl : Bl < n₀) (hBl' : Bl ≠ bo) (hBn : Bn < n₀) (hBn' : Bn ≠ bo) (hA : ∀ ad, A0 = some ad → 0 < l0.length → ad.block < n₀ ∧ ad.block ≠ bo)
    (J : Nat → World → Prop)
    (hJ : ∀ (k : Nat) (W : World) (o : Obj), J k W → J k (W.alloc o))
    (hJd : ∀ (k : Nat) (W : World), J k W → J k W.drew)
    (hY : ∀ (k : Nat) (x : S54 × Bool) (W1 : World), (pieces l0 N 0 0)[k]? = some x → J k W1 → YieldAt Fence.wide (n - 1) Try.prog l (encP x) W1 fun e W' => e = .returned (.bool true) ∧ J (k + 1) W' ∧ Kept54 n₀ bo W1 W')
    (W : World) (hn0 : n₀ ≤ W.heap.size) (hl : W.cell? ⟨Bl, 0, none⟩ = some (.slice A0 l0.length c0)) (hN : W.cell? ⟨Bn, 0, none⟩ = some (.int .i64 N)) (hC : Kd.C k54 W A0 l0.length l0) (h0 : J 0 W) :
    CallsIn Fence.wide n Try.prog 35 #[.func (.yield l) #[] #[], .pointer (some ⟨Bl, 0, none⟩), .pointer (some ⟨Bn, 0, none⟩)] W fun e W' => (∃ v, e = .returned v) ∧ J (pieces l0 N 0 0).length W' := by
  have hu54 := Try.underlying54
  have HC := Aside0.mk hC
  have HV := Aside0.mk hV
  have HA := Aside0.mk hA
  have H0 := Aside0.mk h0
  have HJ := Aside0.mk hJ
  have HJd := Aside0.mk hJd
  have HY := Aside0.mk hY
  have HK0 := Aside0.mk (Kept54.refl n₀ bo W)
  clear hC hV hA h0 hJ hJd hY
  refine callsIn_of_wp Try.func35 rfl trivial ?_ rfl
  simp only [Try.ntmps35, List.size_toArray, List.length_cons, List.length_nil, Nat.reduceAdd, Nat.reduceSub, Array.replicate_succ, Array.replicate_zero, List.push_toArray, List.append_toArray, List.nil_append, List.cons_append]
  gi_wp2
  gi_loopw [4, 5, 7, 10] (fun v4 v5 v7 v10 wr => ∃ (a b i : Int) (k : Nat), v4 = .int .i64 a ∧ v5 = .int .i64 b ∧ v10 = .int .i64 i ∧ Aside0 (0 ≤ a ∧ a ≤ 4294967296 ∧ 0 ≤ b ∧ b ≤ 4294967296) ∧ Aside0 (0 ≤ i ∧ i ≤ l0.length) ∧
      Aside0 (J k wr) ∧ Aside0 (Kept54 n₀ bo W wr) ∧ Aside0 ((pieces l0 N 0 0).drop k = pieces (l0.drop i.toNat) N a b ∧ k ≤ (pieces l0 N 0 0).length))
    (fun _ _ _ v10 _ => l0.length - (intOf v10).toNat)
  case atStart => exact ⟨0, 0, 0, 0, rfl, rfl, rfl, ⟨by omega⟩, ⟨by omega⟩, H0, HK0, ⟨rfl, Nat.zero_le _⟩⟩
  case round =>
    obtain ⟨a, b, i, k, rfl, rfl, rfl, HAB, HI, Hj, HK, HP⟩ := hrel
    have hl' := (HK.out.cell (p := ⟨Bl, 0, none⟩) hBl hBl').trans hl
    have hN' := (HK.out.cell (p := ⟨Bn, 0, none⟩) hBn hBn').trans hN
    have hab := HAB.out
    have ha0 := hab.1
    have ha1 := hab.2.1
    have hb0 := hab.2.2.1
    have hb1 := hab.2.2.2
    have hi0 := HI.out.1
    have hi1 := HI.out.2
    clear hab hl hN
    by_cases hlt : i < l0.length
    · have q1 : decide (i < (l0.length : Int)) = true := by simpa using hlt
      obtain ⟨ad, e, hx0, hx1, hx2, hx3⟩ := at_T54 HC.out i hi0 hlt
      have had := HA.out ad e (by omega)
      have hbk : (ad.add (i.toNat * 4)).block = ad.block := by unfold Addr.add; split <;> rfl
      cases e
      have b0 := (HK.out.cell (p := ad.add (i.toNat * 4)) (by rw [hbk]; exact had.1) (by rw [hbk]; exact had.2)).trans hx0
      have b1 := (HK.out.cell (p := ⟨(ad.add (i.toNat * 4)).block, (ad.add (i.toNat * 4)).off + 1, none⟩) (by rw [hbk]; exact had.1) (by rw [hbk]; exact had.2)).trans hx1
      have b2 := (HK.out.cell (p := ⟨(ad.add (i.toNat * 4)).block, (ad.add (i.toNat * 4)).off + 2, none⟩) (by rw [hbk]; exact had.1) (by rw [hbk]; exact had.2)).trans hx2
      have b3 := (HK.out.cell (p := ⟨(ad.add (i.toNat * 4)).block, (ad.add (i.toNat * 4)).off + 3, none⟩) (by rw [hbk]; exact had.1) (by rw [hbk]; exact had.2)).trans hx3
      clear hx0 hx1 hx2 hx3 hbk had
      obtain ⟨c, hc⟩ : ∃ c, rd_T54 l0 i = c := ⟨_, rfl⟩
      have HE : Aside0 (l0.drop i.toNat = c :: l0.drop (i + 1).toNat) := ⟨by rw [← hc]; exact drop_T54 l0 i hi0 hlt⟩
      have hcv : Chg c := HV.out c (by have := HE.out; exact List.mem_of_mem_drop (i := i.toNat) (by rw [this]; exact List.mem_cons_self))
      obtain ⟨⟨f00, f01⟩, ⟨f10, f11⟩, ⟨f20, f21⟩, ⟨f30, f31⟩⟩ := hcv
      rw [hc] at b0 b1 b2 b3
      clear hc
      have W1 : Aside0 (wrap64 (i + 1) = i + 1) := ⟨by unfold wrap64; have := HC.out.2.1; omega⟩
      have hJa := Aside0.mk (HJ.out k wr (.cells #[.int .i64 c.f0, .int .i64 c.f1, .int .i64 c.f2, .int .i64 c.f3] 54) Hj.out)
      have HKa := Aside0.mk (HK.out.alloc (Nat.le_trans hn0 HK.out.size) (.cells #[.int .i64 c.f0, .int .i64 c.f1, .int .i64 c.f2, .int .i64 c.f3] 54))
      have hbox := Aside0.mk (World.alloc_heap_new wr (.cells #[.int .i64 c.f0, .int .i64 c.f1, .int .i64 c.f2, .int .i64 c.f3] 54))
      by_cases hgt : a < c.f0
      · have HQ : Aside0 ((pieces l0 N 0 0).drop k = (⟨a, c.f0 - a, b, c.f0 - a⟩, true) :: (c, false) :: pieces (l0.drop (i + 1).toNat) N (c.f0 + c.f1) (c.f2 + c.f3)) := ⟨by rw [HP.out.1, HE.out, pieces, if_pos hgt]; rfl⟩
        obtain ⟨g1, g2, g3⟩ := drop_cons HQ.out
        obtain ⟨g4, g5, g6⟩ := drop_cons g2
        have G4 := Aside0.mk g4
        have G5 : Aside0 ((pieces l0 N 0 0).drop (k + 1 + 1) = pieces (l0.drop (i + 1).toNat) N (c.f0 + c.f1) (c.f2 + c.f3) ∧ k + 1 + 1 ≤ (pieces l0 N 0 0).length) := ⟨g5, g6⟩
        obtain ⟨fn, tmps, assign, body, hy, hR⟩ := HY.out k _ _ g1 hJa.out
        clear g1 g2 g3 g4 g5 g6 HQ HP HE Hj
        dsimp only [encP] at hy
        gi_wp2
        refine hR.mono ?_
        clear hR hy
        rintro e W3 ⟨rfl, hJ3, hK3⟩
        have HK3 := Aside0.mk (HKa.out.trans hK3)
        have hbox3 := Aside0.mk (hK3.c54 _ _ _ hbox.out)
        obtain ⟨d0, d1, d2, d3⟩ := box54 hbox3.out
        obtain ⟨fn2, tmps2, assign2, body2, hy2, hR2⟩ := HY.out (k + 1) _ _ G4.out hJ3
        dsimp only [encP] at hy2
        clear b0 b1 b2 b3 hJ3 hK3 hl' hN'
        gi_wp2
        refine hR2.mono ?_
        clear hR2 hy2 d0 d1 d2 d3
        rintro e W4 ⟨rfl, hJ4, hK4⟩
        obtain ⟨d0, d1, d2, d3⟩ := box54 (hK4.c54 _ _ _ hbox3.out)
        have HK4 := Aside0.mk (HK3.out.trans hK4)
        have HJ4 := Aside0.mk hJ4
        clear hK4 hJ4
        gi_wp2
        refine wpIn_region_still_tail (ro := none) 11 ?hq rfl (by kernel_rfl) (by kernel_rfl) ?_
        case hq =>
          rintro ⟨_, _, h⟩
          simp +zetaDelta [Exit.then, Exit.inBlock, bodyPost] at h
        simp only [List.take_succ_cons, List.take_zero, List.drop_succ_cons, List.drop_zero]
        repeat still_step
        refine wpStill_nil ?_
        go_wp2
        gi_wp2
        have w1 : IntKind.i64.wrap (c.f0 + c.f1) = c.f0 + c.f1 := by rw [IntKind.wrap_i64]; omega
        have w2 : IntKind.i64.wrap (c.f2 + c.f3) = c.f2 + c.f3 := by rw [IntKind.wrap_i64]; omega
        have w3 := W1.out
        exact ⟨⟨c.f0 + c.f1, c.f2 + c.f3, i + 1, k + 1 + 1, by rw [w1], by rw [w2], by rw [w3], ⟨by omega⟩, ⟨by omega⟩, ⟨HJd.out _ _ HJ4.out⟩, ⟨HK4.out.drew⟩, G5⟩, by simp only [intOf]; omega⟩
      · have HQ : Aside0 ((pieces l0 N 0 0).drop k = (c, false) :: pieces (l0.drop (i + 1).toNat) N (c.f0 + c.f1) (c.f2 + c.f3)) := ⟨by rw [HP.out.1, HE.out, pieces, if_neg hgt]; rfl⟩
        obtain ⟨g4, g5, g6⟩ := drop_cons HQ.out
        have G5 : Aside0 ((pieces l0 N 0 0).drop (k + 1) = pieces (l0.drop (i + 1).toNat) N (c.f0 + c.f1) (c.f2 + c.f3) ∧ k + 1 ≤ (pieces l0 N 0 0).length) := ⟨g5, g6⟩
        obtain ⟨fn, tmps, assign, body, hy, hR⟩ := HY.out k _ _ g4 hJa.out
        clear g4 g5 g6 HQ HP HE Hj
        dsimp only [encP] at hy
        gi_wp2
        refine ⟨fun _ _ => trivial, ?_⟩
        gi_wp2
        refine hR.mono ?_
        clear hR hy
        rintro e W3 ⟨rfl, hJ3, hK3⟩
        have HK4 := Aside0.mk (HKa.out.trans hK3)
        have HJ4 := Aside0.mk hJ3
        obtain ⟨d0, d1, d2, d3⟩ := box54 (hK3.c54 _ _ _ hbox.out)
        clear b0 b1 b2 b3 hJ3 hK3 hl' hN'
        gi_wp2
        refine wpIn_region_still_tail (ro := none) 11 ?hq rfl (by kernel_rfl) (by kernel_rfl) ?_
        case hq =>
          rintro ⟨_, _, h⟩
          simp +zetaDelta [Exit.then, Exit.inBlock, bodyPost] at h
        simp only [List.take_succ_cons, List.take_zero, List.drop_succ_cons, List.drop_zero]
        repeat still_step
        refine wpStill_nil ?_
        go_wp2
        gi_wp2
        have w1 : IntKind.i64.wrap (c.f0 + c.f1) = c.f0 + c.f1 := by rw [IntKind.wrap_i64]; omega
        have w2 : IntKind.i64.wrap (c.f2 + c.f3) = c.f2 + c.f3 := by rw [IntKind.wrap_i64]; omega
        have w3 := W1.out
        exact ⟨⟨c.f0 + c.f1, c.f2 + c.f3, i + 1, k + 1, by rw [w1], by rw [w2], by rw [w3], ⟨by omega⟩, ⟨by omega⟩, ⟨HJd.out _ _ HJ4.out⟩, ⟨HK4.out.drew⟩, G5⟩, by simp only [intOf]; omega⟩
    · have q1 : decide (i < (l0.length : Int)) = false := by simpa using hlt
      have HD : Aside0 ((pieces l0 N 0 0).drop k = pieces [] N a b ∧ k ≤ (pieces l0 N 0 0).length) := ⟨by rw [HP.out.1, List.drop_of_length_le (by omega)], HP.out.2⟩
      clear HP
      by_cases hgt : a < N
      · have HQ : Aside0 ((pieces l0 N 0 0).drop k = (⟨a, N - a, b, N - a⟩, true) :: []) := ⟨by rw [HD.out.1, pieces, if_pos hgt]⟩
        obtain ⟨g4, g5, g6⟩ := drop_cons HQ.out
        have G5 : Aside0 ((pieces l0 N 0 0).length = k + 1) := ⟨by have := congrArg List.length HQ.out; simp at this; omega⟩
        obtain ⟨fn, tmps, assign, body, hy, hR⟩ := HY.out k _ _ g4 Hj.out
        clear g4 g5 g6 HQ HD Hj
        dsimp only [encP] at hy
        gi_wp2
        refine hR.mono ?_
        clear hR hy
        rintro e W3 ⟨rfl, hJ3, hK3⟩
        have HJ4 := Aside0.mk hJ3
        clear hJ3 hK3
        gi_wp2
        go_end0
        exact ⟨⟨_, rfl⟩, by rw [G5.out]; exact HJ4.out⟩
      · have G5 : Aside0 ((pieces l0 N 0 0).length = k) := ⟨by have h1 := HD.out.1; rw [pieces, if_neg hgt] at h1; have := congrArg List.length h1; have := HD.out.2; simp at *; omega⟩
        clear HD
        gi_wp2
        go_end0
        exact ⟨⟨_, rfl⟩, by rw [G5.out]; exact Hj.out⟩
end Go.Proofs.Ytpkhfeeelkhkaaa.X
