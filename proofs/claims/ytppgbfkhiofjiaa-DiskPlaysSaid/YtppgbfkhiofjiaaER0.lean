/-
  The reference's disk in memory: what a block of its type stands for, and how it stays.
-/
import Derived.Test.YtppgbfkhiofjiaaED10
namespace Go.Proofs.Ytppgbfkhiofjiaa.X
open Go.RowKit Go.Proofs.YtppgbfkhiofjiaaW.PrintWords Go.Proofs.YtppgbfkhiofjiaaW.PrintLast Go.Proofs.YtppgbfkhiofjiaaW.PrintMore
set_option linter.unusedVariables false
set_option linter.unusedSimpArgs false

/-- The reference's pending writes in the cells. -/
def encW : List (Int × Value) → List Value
  | [] => []
  | q :: l => .int .i64 q.1 :: q.2 :: encW l
theorem encW_length : ∀ l, (encW l).length = l.length * 2
  | [] => rfl
  | q :: l => by rw [encW, List.length_cons, List.length_cons, encW_length l, List.length_cons]; omega
theorem encW_append : ∀ l m, encW (l ++ m) = encW l ++ encW m
  | [], m => rfl
  | q :: l, m => by rw [List.cons_append, encW, encW, encW_append l m]; rfl
theorem encW_at : ∀ (l : List (Int × Value)) (i : Nat) (q : Int × Value), l[i]? = some q → (encW l)[i * 2]? = some (.int .i64 q.1) ∧ (encW l)[i * 2 + 1]? = some q.2
  | [], i, q, h => by simp at h
  | p :: l, 0, q, h => by
    have : p = q := by simpa using h
    subst this
    exact ⟨rfl, rfl⟩
  | p :: l, i + 1, q, h => by
    have ih := encW_at l i q (by simpa using h)
    rw [show (i + 1) * 2 = i * 2 + 1 + 1 by omega, encW]
    exact ih

/-- What the pending writes hold. -/
def Sec (w : World) (R : Nat → Prop) (lv : Value) (c : List (Int × List Int)) (qs : List (Int × Value)) : Prop :=
  qs.length = c.length ∧ ∀ (i : Nat) p q, c[i]? = some p → qs[i]? = some q → q.1 = p.1 ∧ w.ownsRow 0 5 1 q.2 64 (nums .u8 p.2) ∧ ∀ b, q.2.ownBlock = some b → R b ∧ lv.ownBlock ≠ some b
/-- Block r is the reference's disk; R are the blocks that it leads to. -/
def IsRef (w : World) (R : Nat → Prop) (r : Nat) (D : DS) : Prop :=
  ∃ (lv pv : Value) (lb : List Int) (qs : List (Int × Value)) (n : Nat),
    w.heap[r]? = some (.cells #[lv, pv, .int .i64 D.left, .bool D.down, .int .i64 D.steps] 81 (0, 0)) ∧ R r ∧ (∀ k, lv.ownBlock = some k → R k) ∧ (∀ k, pv.ownBlock = some k → R k) ∧
    D.n = n ∧ 1 ≤ n ∧ n ≤ 4096 ∧ w.ownsRow 0 5 1 lv (n * 64) (nums .u8 lb) ∧ (∀ k : Nat, k < n → (lb.drop (k * 64)).take 64 = D.f k) ∧
    w.ownsRow 0 100 2 pv D.c.length (encW qs) ∧ Sec w R lv D.c qs ∧ (∀ p ∈ D.c, 0 ≤ p.1 ∧ p.1 < D.n ∧ p.2.length = 64) ∧ ∀ k, R k → k < w.heap.size

theorem Sec.move {w w' : World} {R : Nat → Prop} {lv : Value} {c : List (Int × List Int)} {qs : List (Int × Value)} (h : Sec w R lv c qs) (hk : ∀ k, R k → lv.ownBlock ≠ some k → w'.heap[k]? = w.heap[k]?) : Sec w' R lv c qs :=
  ⟨h.1, fun i p q hp hq => by
    obtain ⟨h1, h2, h3⟩ := h.2 i p q hp hq
    exact ⟨h1, ownsRow_kept h2 (fun k e => hk k (h3 k e).1 (h3 k e).2), h3⟩⟩
theorem IsRef.move {w w' : World} {R : Nat → Prop} {r : Nat} {D : DS} (h : IsRef w R r D) (hs : w.heap.size ≤ w'.heap.size) (hk : ∀ k, R k → w'.heap[k]? = w.heap[k]?) : IsRef w' R r D := by
  obtain ⟨lv, pv, lb, qs, n, h1, h2, h3, h4, h5, h6, h7, h8, h9, h10, h11, h12, h13⟩ := h
  exact ⟨lv, pv, lb, qs, n, (hk r h2).trans h1, h2, h3, h4, h5, h6, h7, ownsRow_kept h8 (fun k e => hk k (h3 k e)), h9, ownsRow_kept h10 (fun k e => hk k (h4 k e)), h11.move (fun k hR _ => hk k hR), h12, fun k hR => Nat.lt_of_lt_of_le (h13 k hR) hs⟩
theorem IsRef.lt {w : World} {R : Nat → Prop} {r : Nat} {D : DS} (h : IsRef w R r D) : ∀ k, R k → k < w.heap.size := by
  obtain ⟨lv, pv, lb, qs, n, h1, h2, h3, h4, h5, h6, h7, h8, h9, h10, h11, h12, h13⟩ := h
  exact h13
theorem IsRef.fr {w w' : World} {R B : Nat → Prop} {r : Nat} {D : DS} (h : IsRef w R r D) (hf : Fr B w w') (hd : ∀ k, R k → ¬ B k) : IsRef w' R r D :=
  h.move hf.size (fun k hk => hf.keep k (h.lt k hk) (hd k hk))
theorem own_block_typed {w : World} {base e sz n : Nat} {v : Value} {xs : List Value} (h : w.ownsRow base e sz v n xs) {k : Nat} (hk : v.ownBlock = some k) : ∃ cells, w.heap[k]? = some (.cells cells e (0, 0)) := (q_typed (q_of_own h) k hk).2
theorem own_ne {w : World} {base e sz n : Nat} {v : Value} {xs : List Value} (h : w.ownsRow base e sz v n xs) {k : Nat} {cells : Array Value} {t : TypeId} (hb : w.heap[k]? = some (.cells cells t (0, 0))) (ht : e ≠ t) : v.ownBlock ≠ some k := fun e' => by
  obtain ⟨cs, hc⟩ := own_block_typed h e'
  rw [hb] at hc
  injection hc with hc
  injection hc with _ hc
  exact ht hc.symm
/-- Its cells. -/
theorem IsRef.cells {w : World} {R : Nat → Prop} {r : Nat} {D : DS} (h : IsRef w R r D) : ∃ lv pv, w.cell? ⟨r, 0, none⟩ = some lv ∧ w.cell? ⟨r, 1, none⟩ = some pv ∧ w.cell? ⟨r, 2, none⟩ = some (.int .i64 D.left) ∧ w.cell? ⟨r, 3, none⟩ = some (.bool D.down) ∧
    w.cell? ⟨r, 4, none⟩ = some (.int .i64 D.steps) ∧ (∀ j, w.frozen? ⟨r, j, none⟩ = false) ∧ r < w.heap.size := by
  obtain ⟨lv, pv, lb, qs, n, h1, h2, h3, h4, h5, h6, h7, h8, h9, h10, h11, h12, h13⟩ := h
  refine ⟨lv, pv, ?_, ?_, ?_, ?_, ?_, fun j => frozen_of_row w r j _ 81 h1, h13 r h2⟩ <;> rw [cell_of_row w r _ _ 81 (0, 0) h1] <;> rfl
/-- A plain field is stored. -/
theorem IsRef.put {w : World} {R : Nat → Prop} {r : Nat} {D : DS} (h : IsRef w R r D) (j : Nat) (u : Value) (D' : DS) (hc : D'.c = D.c) (hf : D'.f = D.f) (hn : D'.n = D.n)
    (hcells : ∀ lv pv : Value, (#[lv, pv, .int .i64 D.left, .bool D.down, .int .i64 D.steps] : Array Value).setIfInBounds j u = #[lv, pv, .int .i64 D'.left, .bool D'.down, .int .i64 D'.steps]) :
    IsRef (w.setCell ⟨r, j, none⟩ u) R r D' ∧ Fr R w (w.setCell ⟨r, j, none⟩ u) := by
  have hlt := h.lt
  obtain ⟨lv, pv, lb, qs, n, h1, h2, h3, h4, h5, h6, h7, h8, h9, h10, h11, h12, h13⟩ := h
  have hg := heap_setCell_same w r j _ 81 u h1
  have far : ∀ k, k ≠ r → (w.setCell ⟨r, j, none⟩ u).heap[k]? = w.heap[k]? := fun k hk => heap_setCell_other w _ k _ hk
  refine ⟨⟨lv, pv, lb, qs, n, by rw [hg, hcells], h2, h3, h4, hn.trans h5, h6, h7, ownsRow_kept h8 (fun k e => far k (fun e' => own_ne h8 h1 (by decide) (e' ▸ e))), by rw [hf]; exact h9, by rw [hc]; exact ownsRow_kept h10 (fun k e => far k (fun e' => own_ne h10 h1 (by decide) (e' ▸ e))), ?_, by rw [hc, hn]; exact h12, fun k hk => by have := hlt k hk; simpa [World.setCell] using this⟩, (Fr.refl R w).setCell (.inl h2) u⟩
  rw [hc]
  exact ⟨h11.1, fun i p q hp hq => by
    obtain ⟨a1, a2, a3⟩ := h11.2 i p q hp hq
    exact ⟨a1, ownsRow_kept a2 (fun k e => far k (fun e' => own_ne a2 h1 (by decide) (e' ▸ e))), a3⟩⟩
theorem IsRef.putLeft {w : World} {R : Nat → Prop} {r : Nat} {D : DS} (h : IsRef w R r D) (x : Int) : IsRef (w.setCell ⟨r, 2, none⟩ (.int .i64 x)) R r { D with left := x } ∧ Fr R w (w.setCell ⟨r, 2, none⟩ (.int .i64 x)) := h.put 2 _ _ rfl rfl rfl (fun _ _ => rfl)
theorem IsRef.putDown {w : World} {R : Nat → Prop} {r : Nat} {D : DS} (h : IsRef w R r D) (x : Bool) : IsRef (w.setCell ⟨r, 3, none⟩ (.bool x)) R r { D with down := x } ∧ Fr R w (w.setCell ⟨r, 3, none⟩ (.bool x)) := h.put 3 _ _ rfl rfl rfl (fun _ _ => rfl)
theorem IsRef.putSteps {w : World} {R : Nat → Prop} {r : Nat} {D : DS} (h : IsRef w R r D) (x : Int) : IsRef (w.setCell ⟨r, 4, none⟩ (.int .i64 x)) R r { D with steps := x } ∧ Fr R w (w.setCell ⟨r, 4, none⟩ (.int .i64 x)) := h.put 4 _ _ rfl rfl rfl (fun _ _ => rfl)
/-- No write is pending any more. -/
theorem IsRef.putNil {w : World} {R : Nat → Prop} {r : Nat} {D : DS} (h : IsRef w R r D) : IsRef (w.setCell ⟨r, 1, none⟩ (.slice none 0 0)) R r { D with c := [] } ∧ Fr R w (w.setCell ⟨r, 1, none⟩ (.slice none 0 0)) := by
  have hlt := h.lt
  obtain ⟨lv, pv, lb, qs, n, h1, h2, h3, h4, h5, h6, h7, h8, h9, h10, h11, h12, h13⟩ := h
  have hg := heap_setCell_same w r 1 _ 81 (.slice none 0 0) h1
  have far : ∀ k, k ≠ r → (w.setCell ⟨r, 1, none⟩ (.slice none 0 0)).heap[k]? = w.heap[k]? := fun k hk => heap_setCell_other w _ k _ hk
  exact ⟨⟨lv, .slice none 0 0, lb, [], n, by rw [hg]; rfl, h2, h3, (fun k e => by cases e), h5, h6, h7, ownsRow_kept h8 (fun k e => far k (fun e' => own_ne h8 h1 (by decide) (e' ▸ e))), h9, ⟨rfl, .inl ⟨rfl, rfl⟩⟩, ⟨rfl, fun i p q hp => by simp at hp⟩, (fun p hp => by cases hp), fun k hk => by have := hlt k hk; simpa [World.setCell] using this⟩, (Fr.refl R w).setCell (.inl h2) _⟩
/-- The bytes that last, as a row. -/
theorem splice_row {lb : List Int} {k : Nat} {b : List Int} {n : Nat} (hl : lb.length = n * 64) (hk : k < n) (hb : b.length = 64) (f : Int → List Int) (h : ∀ j : Nat, j < n → (lb.drop (j * 64)).take 64 = f j) :
    ∀ j : Nat, j < n → ((lb.take (k * 64) ++ b ++ lb.drop (k * 64 + 64)).drop (j * 64)).take 64 = upd f k b j := by
  intro j hj
  have l1 : (lb.take (k * 64)).length = k * 64 := by rw [List.length_take]; omega
  unfold upd
  by_cases e : j = k
  · subst e
    rw [if_pos rfl, List.append_assoc, List.drop_append_of_le_length (by omega), List.drop_of_length_le (by omega), List.nil_append, List.take_append_of_le_length (by omega), List.take_of_length_le (by omega)]
  · rw [if_neg (by omega), ← h j hj]
    apply List.ext_getElem?
    intro i
    rw [List.getElem?_take, List.getElem?_take]
    by_cases hi : i < 64
    · rw [if_pos hi, if_pos hi, List.getElem?_drop, List.getElem?_drop]
      rcases Nat.lt_or_gt_of_ne e with h1 | h1
      · rw [List.append_assoc, List.getElem?_append_left (by omega), List.getElem?_take, if_pos (by omega)]
      · rw [List.getElem?_append_right (by rw [List.length_append]; omega), List.length_append, l1, hb, List.getElem?_drop]
        congr 1
        omega
    · rw [if_neg hi, if_neg hi]
end Go.Proofs.Ytppgbfkhiofjiaa.X
