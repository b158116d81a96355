/-
  The rows of DiskLasts (an array of three rows of bytes), and the acts that are read.
-/
import Derived.Test.YtppgbfkhiofjiaaPureLasts
import Derived.Deep.RegionLaw
namespace Go.Proofs.Ytppgbfkhiofjiaa.X
open Go.RowKit Go.Proofs.YtppgbfkhiofjiaaW.PrintWords Go.Proofs.YtppgbfkhiofjiaaW.PrintLast Go.Proofs.YtppgbfkhiofjiaaW.PrintMore
set_option linter.unusedVariables false
set_option linter.unusedSimpArgs false

/-- An act. -/
structure OpV where
  kind : Int
  n : Int
  b : List Int
  keep : List Bool
/-- An act in the cells. -/
def OpAt (w : World) (a : Addr) (o : OpV) : Prop :=
  w.cell? a = some (.int .i64 o.kind) ∧ w.cell? ⟨a.block, a.off + 1, none⟩ = some (.int .i64 o.n) ∧ (Lit.int .i64 o.n).wf = true ∧
  (∃ A c, w.cell? ⟨a.block, a.off + 2, none⟩ = some (.slice A o.b.length c) ∧ Kd.C (Kd.int .u8) w A o.b.length o.b ∧ o.b.length ≤ c) ∧ (∀ x ∈ o.b, (Lit.int .u8 x).wf = true) ∧
  (∃ A c, w.cell? ⟨a.block, a.off + 3, none⟩ = some (.slice A o.keep.length c) ∧ Kd.C Kd.bool w A o.keep.length o.keep ∧ o.keep.length ≤ c)
/-- Acts in a row. -/
def Ops (w : World) (A : Option Addr) (l : List OpV) : Prop := ∀ (i : Nat) o, l[i]? = some o → ∃ ad, A = some ad ∧ OpAt w (ad.add (i * 4)) o
theorem cell_kept {w w' : World} (hf : Fr (fun _ => False) w w') {a : Addr} {u : Value} (h : w.cell? a = some u) : w'.cell? a = some u :=
  (World.cell?_of_block (w := w) (hf.keep _ (World.block_lt_of_cell? w _ h) (fun h => h))).trans h
theorem OpAt.kept {w w' : World} {a : Addr} {o : OpV} (h : OpAt w a o) (hf : Fr (fun _ => False) w w') : OpAt w' a o := by
  obtain ⟨h1, h2, h3, ⟨A, c, h4, h5, h6⟩, hb, ⟨A', c', h7, h8, h9⟩⟩ := h
  exact ⟨cell_kept hf h1, cell_kept hf h2, h3, ⟨A, c, cell_kept hf h4, C_fr (0 : Int) h5 hf (fun _ _ _ h => h), h6⟩, hb, ⟨A', c', cell_kept hf h7, C_fr false h8 hf (fun _ _ _ h => h), h9⟩⟩
theorem Ops.kept {w w' : World} {A : Option Addr} {l : List OpV} (h : Ops w A l) (hf : Fr (fun _ => False) w w') : Ops w' A l := fun i o ho => by
  obtain ⟨ad, e, h1⟩ := h i o ho
  exact ⟨ad, e, h1.kept hf⟩

def updV (v : Nat → Value) (n : Nat) (u : Value) : Nat → Value := fun k => if k = n then u else v k
/-- The three rows. -/
structure IsMay (w : World) (M : Nat → Prop) (mb : Nat) (v : Nat → Value) (may : Nat → List Int) : Prop where
  blk : w.heap[mb]? = some (.cells #[v 0, v 1, v 2] 33 (0, 0))
  own : M mb
  row : ∀ k, k < 3 → QRow w 0 5 1 (v k) (may k).length (nums .u8 (may k))
  mem : ∀ k, k < 3 → ∀ b, (v k).ownBlock = some b → M b
  apart : ∀ j k, j < 3 → k < 3 → j ≠ k → ∀ b, (v j).ownBlock = some b → (v k).ownBlock ≠ some b
  lt : ∀ b, M b → b < w.heap.size
theorem IsMay.cell {w : World} {M : Nat → Prop} {mb : Nat} {v : Nat → Value} {may : Nat → List Int} (h : IsMay w M mb v may) {k : Nat} (hk : k < 3) : w.cell? ⟨mb, k, none⟩ = some (v k) := by
  rw [cell_of_row w mb k _ 33 (0, 0) h.blk]
  match k, hk with
  | 0, _ => rfl
  | 1, _ => rfl
  | 2, _ => rfl
theorem IsMay.free {w : World} {M : Nat → Prop} {mb : Nat} {v : Nat → Value} {may : Nat → List Int} (h : IsMay w M mb v may) (k : Nat) : w.frozen? ⟨mb, k, none⟩ = false := frozen_of_row w mb k _ 33 h.blk
theorem IsMay.move {w w' : World} {M : Nat → Prop} {mb : Nat} {v : Nat → Value} {may : Nat → List Int} (h : IsMay w M mb v may) (hs : w.heap.size ≤ w'.heap.size) (hk : ∀ b, M b → w'.heap[b]? = w.heap[b]?) : IsMay w' M mb v may :=
  ⟨(hk mb h.own).trans h.blk, h.own, fun k h3 => q_move (h.row k h3) (fun b e => hk b (h.mem k h3 b e)), h.mem, h.apart, fun b hb => Nat.lt_of_lt_of_le (h.lt b hb) hs⟩
theorem IsMay.fr {w w' : World} {M B : Nat → Prop} {mb : Nat} {v : Nat → Value} {may : Nat → List Int} (h : IsMay w M mb v may) (hf : Fr B w w') (hd : ∀ k, M k → ¬ B k) : IsMay w' M mb v may :=
  h.move hf.size (fun b hb => hf.keep b (h.lt b hb) (hd b hb))
theorem IsMay.ne {w : World} {M : Nat → Prop} {mb : Nat} {v : Nat → Value} {may : Nat → List Int} (h : IsMay w M mb v may) {k : Nat} (hk : k < 3) : (v k).ownBlock ≠ some mb := fun e => by
  obtain ⟨_, cells, hc⟩ := q_typed (h.row k hk) mb e
  rw [h.blk] at hc
  injection hc with hc
  injection hc with _ hc
  cases hc
/-- Another row is stored. -/
theorem IsMay.put {w w1 : World} {M : Nat → Prop} {mb : Nat} {v : Nat → Value} {may : Nat → List Int} (h : IsMay w M mb v may) {k : Nat} (hk : k < 3) {u : Value} {l : List Int} (hf : Fr (fun b => (v k).ownBlock = some b) w w1)
    (hq : QRow w1 0 5 1 u l.length (nums .u8 l)) (hu : u.ownBlock = (v k).ownBlock ∨ ∃ b, u.ownBlock = some b ∧ w.heap.size ≤ b) :
    (∃ M', IsMay (w1.setCell ⟨mb, k, none⟩ u) M' mb (updV v k u) (updM may k l) ∧ ∀ b, M' b → M b ∨ w.heap.size ≤ b) ∧ Fr M w (w1.setCell ⟨mb, k, none⟩ u) := by
  have hb1 : w1.heap[mb]? = some (.cells #[v 0, v 1, v 2] 33 (0, 0)) := (hf.keep mb (h.lt mb h.own) (fun e => h.ne hk e)).trans h.blk
  have hne : ∀ j, j < 3 → j ≠ k → ∀ b, (v j).ownBlock = some b → w1.heap[b]? = w.heap[b]? := fun j hj hjk b e => hf.keep b (q_lt (h.row j hj) b e) (fun e' => h.apart j k hj hk hjk b e e')
  have hum : u.ownBlock ≠ some mb := by
    rcases hu with e | ⟨b, e, hb⟩
    · rw [e]; exact h.ne hk
    · rw [e]
      intro e'
      injection e' with e'
      subst e'
      have := h.lt _ h.own
      omega
  have hrow1 : ∀ j, j < 3 → j ≠ k → QRow w1 0 5 1 (v j) (may j).length (nums .u8 (may j)) := fun j hj hjk => q_move (h.row j hj) (fun b e => hne j hj hjk b e)
  refine ⟨⟨fun b => M b ∨ u.ownBlock = some b, ⟨?_, .inl h.own, ?_, ?_, ?_, ?_⟩, ?_⟩, ?_⟩
  · rw [heap_setCell_same w1 mb k _ 33 u hb1]
    match k, hk with
    | 0, _ => rfl
    | 1, _ => rfl
    | 2, _ => rfl
  · intro j hj
    unfold updV updM
    by_cases e : j = k
    · rw [if_pos e, if_pos e]
      exact q_move hq (fun b hb => heap_setCell_other w1 _ b _ (fun e' => hum (by rw [hb, e'])))
    · rw [if_neg e, if_neg e]
      exact q_move (hrow1 j hj e) (fun b hb => heap_setCell_other w1 _ b _ (fun e' => h.ne hj (by rw [hb, e'])))
  · intro j hj b e
    unfold updV at e
    by_cases e' : j = k
    · rw [if_pos e'] at e; exact .inr e
    · rw [if_neg e'] at e; exact .inl (h.mem j hj b e)
  · intro i j hi hj hij b e
    unfold updV at e ⊢
    have fresh : ∀ b, u.ownBlock = some b → ∀ j, j < 3 → j ≠ k → (v j).ownBlock ≠ some b := fun b e j hj hjk e' => by
      rcases hu with e2 | ⟨c, e2, hc⟩
      · rw [e2] at e
        exact h.apart k j hk hj (fun h => hjk h.symm) b e e'
      · rw [e2] at e
        injection e with e
        subst e
        have := q_lt (h.row j hj) _ e'
        omega
    by_cases h1 : i = k
    · rw [if_pos h1] at e
      rw [if_neg (fun h2 => hij (h1.trans h2.symm))]
      exact fresh b e j hj (fun h2 => hij (h1.trans h2.symm))
    · rw [if_neg h1] at e
      by_cases h2 : j = k
      · rw [if_pos h2]
        intro e'
        exact fresh b e' i hi h1 e
      · rw [if_neg h2]
        exact h.apart i j hi hj hij b e
  · intro b hb
    have hs : (w1.setCell ⟨mb, k, none⟩ u).heap.size = w1.heap.size := by simp [World.setCell]
    rw [hs]
    rcases hb with hb | hb
    · exact Nat.lt_of_lt_of_le (h.lt b hb) hf.size
    · exact q_lt hq b hb
  · rintro b (hb | hb)
    · exact .inl hb
    · rcases hu with e | ⟨c, e, hc⟩
      · exact .inl (h.mem k hk b (e ▸ hb))
      · rw [e] at hb
        injection hb with hb
        subst hb
        exact .inr hc
  · exact (hf.mono (fun b e => .inl (h.mem k hk b e))).setCell (.inl h.own) u

/-- An append onto a row that may begin inside its block, at a step of a region that draws its order. -/
theorem step_q {P : Program} {w : World} {ops : Array Oper} {o : Oper} {a : Act} {K : Act → World → Prop} {Q : Exit → Act → World → Prop} {E : Prop} (hgd : o.guard = none) (s x : Operand) (t : TypeId)
    (ho : o.op = .call { callee := .builtin .append, args := #[s, x], argTypes := #[t, t] })
    (base : Nat) (e : TypeId) (z : Value) (size bytes : Nat) (ht : P.underlying t = some (.slice e)) (hinfo : (P.info? e).map (fun i => (i.zero, i.size, i.bytes)) = some (some z, size, bytes)) (hzs : z.cells.size = size) (hsz : 0 < size)
    (v : Value) (n : Nat) (xs : List Value) (hs : a.eval s = v) (hown : QRow w base e size v n xs)
    (ad : Addr) (m c : Nat) (news : List Value) (hx : a.eval x = .slice (some ad) m c) (hl : news.length = m * size) (hnews : ∀ j u, news[j]? = some u → w.cell? (ad.add j) = some u) (h1 : ∀ u ∈ news, u.oneCell' = true)
    (hm : 0 < m) (h63 : n + m ≤ maxLen) (hbytes : (n + m) * bytes ≤ 140737488355328) (hbase : base ≤ w.heap.size)
    (h : ∀ A' c' w', QRow w' base e size (.slice A' (n + m) c') (n + m) (xs ++ news) → w.grownBy w' v.ownBlock → ((Value.slice A' (n + m) c').ownBlock = v.ownBlock ∨ ∃ b, (Value.slice A' (n + m) c').ownBlock = some b ∧ w.heap.size ≤ b) → K (a.put o.dst (.slice A' (n + m) c')) w') :
    if Region.wanted o (yielded ops a.tmps) = true then Oper.wp P o a w K Q else E := by
  have hw : Region.wanted o (yielded ops a.tmps) = true := by simp [Region.wanted, hgd]
  rw [if_pos hw]
  obtain ⟨i0, hi, hzz⟩ := Option.map_eq_some_iff.1 hinfo
  simp only [Prod.mk.injEq] at hzz
  obtain ⟨hz0, hz1, hz2⟩ := hzz
  obtain ⟨v', w', hr, h2, h3, h4⟩ := q_append (P := P) w base t o.type e i0 z size bytes ht hi hz0 hz1 hz2 hzs hsz v n xs hown ad m c news hl hnews h1 hm h63 hbytes hbase
  obtain ⟨A', c', rfl, _⟩ := q_slice h2
  unfold Oper.wp execOp
  simp only [ho, resolve, invoke, builtin, Sem.run_bind, Sem.run_pure, Result.andThen_ok, List.map_toArray, List.map_cons, List.map_nil, hs, hx, hr]
  exact h A' c' w' h2 h3 h4
theorem Fr.of_grownBy {w w' : World} {row : Option Nat} (h : w.grownBy w' row) : Fr (fun b => row = some b) w w' :=
  ⟨h.os, h.tape, h.output, h.size, fun k hk hn => h.block k hk (fun e => hn e.symm)⟩
end Go.Proofs.Ytppgbfkhiofjiaa.X
