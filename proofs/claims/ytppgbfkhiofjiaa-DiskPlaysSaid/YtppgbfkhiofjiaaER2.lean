/-
  The contracts of the reference's lasts, Flush and Mend.
-/
import Derived.Test.YtppgbfkhiofjiaaER1
import Derived.Deep.RegionLaw
import Derived.Laws.IdiomCopy
import Derived.IntWalk
namespace Go.Proofs.Ytppgbfkhiofjiaa.X
open Go.RowKit Go.Proofs.YtppgbfkhiofjiaaW.PrintWords Go.Proofs.YtppgbfkhiofjiaaW.PrintLast Go.Proofs.YtppgbfkhiofjiaaW.PrintMore
set_option linter.unusedVariables false
set_option linter.unusedSimpArgs false

/-- The reference's disk, its rows told. -/
def RefAt (w : World) (R : Nat → Prop) (r : Nat) (D : DS) (lv pv : Value) (qs : List (Int × Value)) (n : Nat) : Prop :=
  ∃ (lb : List Int),
    w.heap[r]? = some (.cells #[lv, pv, .int .i64 D.left, .bool D.down, .int .i64 D.steps] 81 (0, 0)) ∧ R r ∧ (∀ k, lv.ownBlock = some k → R k) ∧ (∀ k, pv.ownBlock = some k → R k) ∧
    D.n = n ∧ 1 ≤ n ∧ n ≤ 4096 ∧ w.ownsRow 0 5 1 lv (n * 64) (nums .u8 lb) ∧ (∀ k : Nat, k < n → (lb.drop (k * 64)).take 64 = D.f k) ∧
    w.ownsRow 0 100 2 pv D.c.length (encW qs) ∧ Sec w R lv D.c qs ∧ (∀ p ∈ D.c, 0 ≤ p.1 ∧ p.1 < D.n ∧ p.2.length = 64) ∧ ∀ k, R k → k < w.heap.size
theorem IsRef.at {w : World} {R : Nat → Prop} {r : Nat} {D : DS} (h : IsRef w R r D) : ∃ lv pv qs n, RefAt w R r D lv pv qs n := by
  obtain ⟨lv, pv, lb, qs, n, h1⟩ := h
  exact ⟨lv, pv, qs, n, lb, h1⟩
theorem RefAt.is {w : World} {R : Nat → Prop} {r : Nat} {D : DS} {lv pv : Value} {qs : List (Int × Value)} {n : Nat} (h : RefAt w R r D lv pv qs n) : IsRef w R r D := by
  obtain ⟨lb, h1⟩ := h
  exact ⟨lv, pv, lb, qs, n, h1⟩
theorem RefAt.move {w w' : World} {R : Nat → Prop} {r : Nat} {D : DS} {lv pv : Value} {qs : List (Int × Value)} {n : Nat} (h : RefAt w R r D lv pv qs n) (hs : w.heap.size ≤ w'.heap.size) (hk : ∀ k, R k → w'.heap[k]? = w.heap[k]?) : RefAt w' R r D lv pv qs n := by
  obtain ⟨lb, h1, h2, h3, h4, h5, h6, h7, h8, h9, h10, h11, h12, h13⟩ := h
  exact ⟨lb, (hk r h2).trans h1, h2, h3, h4, h5, h6, h7, ownsRow_kept h8 (fun k e => hk k (h3 k e)), h9, ownsRow_kept h10 (fun k e => hk k (h4 k e)), h11.move (fun k hR _ => hk k hR), h12, fun k hR => Nat.lt_of_lt_of_le (h13 k hR) hs⟩
theorem RefAt.fr {w w' : World} {R B : Nat → Prop} {r : Nat} {D : DS} {lv pv : Value} {qs : List (Int × Value)} {n : Nat} (h : RefAt w R r D lv pv qs n) (hf : Fr B w w') (hd : ∀ k, R k → ¬ B k) : RefAt w' R r D lv pv qs n :=
  h.move hf.size (fun k hk => hf.keep k (h.is.lt k hk) (hd k hk))

/-- A copy of cells at a step of a region that draws its order. -/
theorem step_copy_cells {P : Program} {ops : Array Oper} {o : Oper} {a : Act} {w : World} {K : Act → World → Prop} {Q : Exit → Act → World → Prop} {E : Prop} (hgd : o.guard = none) (d s : Operand) (dT sT : TypeId)
    (ho : o.op = .call { callee := .builtin .copy, args := #[d, s], argTypes := #[dT, sT] }) (elem : TypeId) (hu : P.underlying dT = some (.slice elem)) (hsz : (P.info? elem).map (·.size) = some 1)
    (b off dLen dCap : Nat) (ad : Addr) (sLen sCap : Nat) (hd : a.eval d = .slice (some ⟨b, off, none⟩) dLen dCap) (hs : a.eval s = .slice (some ad) sLen sCap)
    (cs : List Value) (hn : cs.length = Nat.min sLen dLen) (hsrc : ∀ j v, cs[j]? = some v → w.cell? (ad.add j) = some v) (hth : w.there b off cs.length) (h1 : ∀ v ∈ cs, v.oneCell' = true)
    (h : K (a.put o.dst (goInt cs.length)) (w.setCells b off cs)) :
    if Region.wanted o (yielded ops a.tmps) = true then Oper.wp P o a w K Q else E := by
  have hw : Region.wanted o (yielded ops a.tmps) = true := by simp [Region.wanted, hgd]
  rw [if_pos hw]
  have hrun := run_copy_cells (P := P) w dT sT o.type elem b off dLen dCap ad sLen sCap cs hu hsz hn hsrc (fun j hj => (hth j hj).1) (fun j hj => (hth j hj).2) h1
  unfold Oper.wp
  simp [execOp, ho, resolve, invoke, builtin, hd, hs, hrun, Result.andThen]
  exact h
theorem info5s : (Try.prog.info? 5).map (·.size) = some 1 := by kernel_rfl
theorem info5' : ∃ i, Try.prog.info? 5 = some i ∧ i.size = 1 := by
  have h := info5s
  cases hq : Try.prog.info? 5 with
  | none => rw [hq] at h; cases h
  | some i => exact ⟨i, rfl, by rw [hq] at h; simpa using h⟩

/-- What lasts is laid over. -/
theorem RefAt.lay {w : World} {R : Nat → Prop} {r : Nat} {D : DS} {pv : Value} {qs : List (Int × Value)} {n gb cap : Nat} (h : RefAt w R r D (.slice (some ⟨gb, 0, none⟩) (n * 64) cap) pv qs n) {k : Nat} (hk : k < n) {b : List Int} (hb : b.length = 64) :
    RefAt (w.setCells gb (k * 64) (nums .u8 b)) R r { D with f := upd D.f k b } (.slice (some ⟨gb, 0, none⟩) (n * 64) cap) pv qs n ∧ Fr R w (w.setCells gb (k * 64) (nums .u8 b)) := by
  have hlt := h.is.lt
  obtain ⟨lb, h1, h2, h3, h4, h5, h6, h7, h8, h9, h10, h11, h12, h13⟩ := h
  have hgb : R gb := h3 gb rfl
  obtain ⟨a1, a2, a3, a4⟩ := setCells_same gb (nums .u8 b) (k * 64) w
  have far : ∀ j, j ≠ gb → (w.setCells gb (k * 64) (nums .u8 b)).heap[j]? = w.heap[j]? := fun j hj => setCells_far (nums .u8 b) (k * 64) j hj
  have hrg : r ≠ gb := fun e => own_ne h8 h1 (by decide) (by rw [e]; rfl)
  have hll : lb.length = n * 64 := by have := h8.1; simpa [nums] using this
  have hf : Fr R w (w.setCells gb (k * 64) (nums .u8 b)) := ⟨a1, a2, a3, Nat.le_of_eq a4.symm, fun j hj hn => far j (fun e => hn (e ▸ hgb))⟩
  refine ⟨⟨lb.take (k * 64) ++ b ++ lb.drop (k * 64 + 64), (far r hrg).trans h1, h2, h3, h4, h5, h6, h7, ?_, splice_row hll hk hb D.f h9, ownsRow_kept h10 (fun j e => far j (fun e' => ?_)), ⟨h11.1, fun i p q hp hq => ?_⟩, h12, fun j hj => by rw [a4]; exact hlt j hj⟩, hf⟩
  · rcases h8.2 with ⟨e, _⟩ | ⟨g2, cap2, cur, e, b0, b1, b2, b3, b4, b5⟩
    · cases e
    · injection e with e1 e2 e3
      injection e1 with e1
      injection e1 with e1
      subst e1
      subst e3
      have hcl : cur.size = cap := by rw [b4]; omega
      obtain ⟨cur', c1, c2, c3⟩ := setCells_row (nums .u8 b) (k * 64) w cur b1 (by rw [nums_length, hb, hcl]; omega)
      refine ⟨by simp [nums, hll, hb]; omega, .inr ⟨gb, cap, cur', rfl, b0, c1, b2, b3, by rw [c2, b4], ?_⟩⟩
      have b5' : cur.toList.take (n * 64) = nums .u8 lb := by simpa using b5
      have ct : (cur.toList.take (k * 64)) = nums .u8 (lb.take (k * 64)) := by
        unfold nums at b5' ⊢
        rw [List.map_take, ← b5', List.take_take, Nat.min_eq_left (by omega)]
      have cd : ((cur.toList.drop (k * 64 + 64)).take (n * 64 - (k * 64 + 64))) = nums .u8 (lb.drop (k * 64 + 64)) := by
        unfold nums at b5' ⊢
        rw [List.map_drop, ← b5', List.drop_take]
      rw [c3, nums_length, hb, Nat.mul_one]
      have l1 : (cur.toList.take (k * 64)).length = k * 64 := by rw [List.length_take, Array.length_toList]; omega
      have l2 : (nums .u8 b).length = 64 := by rw [nums_length, hb]
      rw [List.take_append, List.take_of_length_le (by rw [List.length_append, l1, l2]; omega), List.length_append, l1, l2, cd, ct]
      unfold nums
      simp
  · have hb2 := own_block_typed h8 (k := gb) rfl
    obtain ⟨cs, hc⟩ := hb2
    exact own_ne h10 hc (by decide) (e' ▸ e)
  · obtain ⟨q1, q2, q3⟩ := h11.2 i p q hp hq
    exact ⟨q1, ownsRow_kept q2 (fun j e => far j (fun e' => (q3 j e).2 (by rw [e']; rfl))), q3⟩

set_option maxHeartbeats 4000000 in
set_option maxRecDepth 100000 in
theorem lasts_calls' (r : Nat) (R : Nat → Prop) (D : DS) (lv pv : Value) (qs : List (Int × Value)) (n : Nat) (w : World) (h : RefAt w R r D lv pv qs n) (i : Nat) (p : Int × List Int) (q : Int × Value) (hp : D.c[i]? = some p) (hq : qs[i]? = some q) :
    Calls Try.prog 54 #[.pointer (some ⟨r, 0, none⟩), .agg #[.int .i64 q.1, q.2]] w fun e w' => e = .returned (.tuple #[]) ∧ RefAt w' R r { D with f := upd D.f p.1 p.2 } lv pv qs n ∧ Fr R w w' := by
  have H := Aside0.mk h
  obtain ⟨lb, h1, h2, h3, h4, h5, h6, h7, h8, h9, h10, h11, h12, h13⟩ := h
  obtain ⟨g1, g2, g3⟩ := h11.2 i p q hp hq
  obtain ⟨k0, k1, k2⟩ := h12 p (List.mem_of_getElem? hp)
  obtain ⟨pn, pb⟩ := p
  obtain ⟨qn, qv⟩ := q
  dsimp only at g1 g2 g3 k0 k1 k2
  subst g1
  obtain ⟨k, rfl⟩ := Int.eq_ofNat_of_zero_le k0
  have hk : k < n := by omega
  obtain ⟨gb, cap, rfl⟩ : ∃ gb cap, lv = .slice (some ⟨gb, 0, none⟩) (n * 64) cap := by
    rcases h8.2 with ⟨_, hz⟩ | ⟨gb, cap, cur, e, _⟩
    · omega
    · exact ⟨gb, cap, e⟩
  obtain ⟨qb, qc, rfl⟩ : ∃ qb qc, qv = .slice (some ⟨qb, 0, none⟩) 64 qc := by
    rcases g2.2 with ⟨_, hz⟩ | ⟨qb, qc, cur, e, _⟩
    · omega
    · exact ⟨qb, qc, e⟩
  have hcap : n * 64 ≤ cap := by
    obtain ⟨A, c, e, hc⟩ := q_slice (q_of_own h8)
    injection e with e1 e2 e3
    omega
  have c0 : w.cell? ⟨r, 0, none⟩ = some (.slice (some ⟨gb, 0, none⟩) (n * 64) cap) := by
    rw [cell_of_row w r _ _ 81 (0, 0) h1]
    rfl
  have hrl : r < w.heap.size := h13 r h2
  have hqcell := g2.cells (g := qb) rfl
  have hqlt : qb < w.heap.size := h13 qb (g3 qb rfl).1
  have HSRC : Aside0 (∀ (W : World), W.heap = (w.alloc (.cells #[.int .i64 (k : Int), .slice (some ⟨qb, 0, none⟩) 64 qc] 100)).heap → ∀ j v, (nums .u8 pb)[j]? = some v → W.cell? ((⟨qb, 0, none⟩ : Addr).add j) = some v) := ⟨fun W hW j v hv => by
    have := hqcell j v hv
    rw [← this]
    exact World.cell?_of_block (by rw [Addr.add_mid, hW]; exact Below.heap_alloc _ _ _ hqlt)⟩
  have HRA : Aside0 (∀ (W : World), W.heap = (w.alloc (.cells #[.int .i64 (k : Int), .slice (some ⟨qb, 0, none⟩) 64 qc] 100)).heap → RefAt W R r D (.slice (some ⟨gb, 0, none⟩) (n * 64) cap) pv qs n) := ⟨fun W hW => H.out.move (by rw [hW]; simp) (fun j hj => by rw [hW]; exact Below.heap_alloc _ _ _ (h13 j hj))⟩
  have HTH : Aside0 (∀ (W : World), W.heap = (w.alloc (.cells #[.int .i64 (k : Int), .slice (some ⟨qb, 0, none⟩) 64 qc] 100)).heap → W.there gb (k * 64) (nums .u8 pb).length) := ⟨fun W hW j hj => by
    obtain ⟨lb', a1, a2, a3, a4, a5, a6, a7, a8, _⟩ := HRA.out W hW
    rcases a8.2 with ⟨e, _⟩ | ⟨g2, cap2, cur, e, b0, b1, b2, b3, b4, b5⟩
    · cases e
    · injection e with e1 e2 e3
      injection e1 with e1
      injection e1 with e1
      subst e1
      rw [nums_length, k2] at hj
      exact ⟨by rw [cell_of_row W gb _ cur 5 (0, 0) b1, Array.getElem?_eq_getElem (by rw [b4]; omega)]; rfl, frozen_of_row W gb _ cur 5 b1⟩⟩
  have hone : ∀ v ∈ nums .u8 pb, v.oneCell' = true := fun v hv => by
    obtain ⟨x, _, rfl⟩ := List.mem_map.1 hv
    rfl
  have HMIN : Aside0 ((nums .u8 pb).length = Nat.min 64 (n * 64 - k * 64)) := ⟨by rw [nums_length, k2]; exact (Nat.min_eq_left (by omega)).symm⟩
  have hk0 : (0 : Int) ≤ (k : Int) * 64 := by omega
  have hk1 : (k : Int) * 64 ≤ ((n * 64 : Nat) : Int) := by omega
  have K2 := Aside0.mk k2
  have H13 := Aside0.mk h13
  have hne : ¬ cap = k * 64 := by omega
  have hkn : k ≤ n := by omega
  have hle : (k : Int) * 64 ≤ (n : Int) * 64 := by omega
  have htn : ((k : Int) * 64).toNat = k * 64 := by omega
  clear h1 h2 h3 h4 h5 h8 h9 h10 h11 h12 h13 g2 g3 hqcell k2 hp hq
  have hwr : IntKind.i64.wrap ((k : Int) * 64) = (k : Int) * 64 := IntWalk.i64_in _ (by omega)
  go_enter Try.func54, Try.ntmps54
  go_wp2_with fail
  go_region_law (refine step_copy_cells rfl (.tmp 11) (.tmp 13) 22 22 rfl 5 Try.underlying22 info5s gb (k * 64) (n * 64 - k * 64) (cap - k * 64) ⟨qb, 0, none⟩ 64 qc (by rfl) (by rfl) (nums .u8 pb) HMIN.out (HSRC.out _ (by rfl)) (HTH.out _ (by rfl)) hone ?_)
  all_goals clear hwr
  all_goals (
    have L := (HRA.out (w.alloc (.cells #[.int .i64 (k : Int), .slice (some ⟨qb, 0, none⟩) 64 qc] 100)).drew rfl).lay hk K2.out
    go_end0
    exact ⟨rfl, L.1, (((Fr.refl R w).alloc _).drew).trans L.2 (fun k h => .inl h)⟩)
end Go.Proofs.Ytppgbfkhiofjiaa.X
