/-
  The simulated disk in memory: what a block of type Disk stands for, and how it stays while other blocks are written.
-/
import Derived.Test.YtppgbfkhiofjiaaX0
import Derived.Maps.Own
import Derived.Maps.OwnOps
import Derived.Maps.Views
import Derived.Deep.MidRow
import Derived.Laws.Rows
namespace Go.Proofs.Ytppgbfkhiofjiaa.X
open Go.RowKit Go.Proofs.YtppgbfkhiofjiaaW.PrintWords Go.Proofs.YtppgbfkhiofjiaaW.PrintLast Go.Proofs.YtppgbfkhiofjiaaW.PrintMore
set_option linter.unusedVariables false

/-! ### What may have turned -/
/-- w' is w but for the blocks of B and new ones. -/
structure Fr (B : Nat → Prop) (w w' : World) : Prop where
  os : w'.os = w.os
  tape : w'.tape = w.tape
  output : w'.output = w.output
  size : w.heap.size ≤ w'.heap.size
  keep : ∀ k, k < w.heap.size → ¬ B k → w'.heap[k]? = w.heap[k]?
theorem Fr.refl (B : Nat → Prop) (w : World) : Fr B w w := ⟨rfl, rfl, rfl, Nat.le_refl _, fun _ _ _ => rfl⟩
theorem Fr.trans {B B' : Nat → Prop} {a b c : World} (h : Fr B a b) (k : Fr B' b c) (hs : ∀ i, B' i → B i ∨ a.heap.size ≤ i) : Fr B a c :=
  ⟨k.os.trans h.os, k.tape.trans h.tape, k.output.trans h.output, Nat.le_trans h.size k.size, fun i hi hb => (k.keep i (Nat.lt_of_lt_of_le hi h.size) (fun hb' => (hs i hb').elim hb (fun h' => by omega))).trans (h.keep i hi hb)⟩
theorem Fr.mono {B B' : Nat → Prop} {a b : World} (h : Fr B a b) (hs : ∀ i, B i → B' i ∨ a.heap.size ≤ i) : Fr B' a b :=
  ⟨h.os, h.tape, h.output, h.size, fun i hi hb => h.keep i hi (fun hb' => (hs i hb').elim hb (fun h' => by omega))⟩
theorem Fr.drew {B : Nat → Prop} {a b : World} (h : Fr B a b) : Fr B a b.drew := ⟨h.os, h.tape, h.output, h.size, h.keep⟩
theorem Fr.drewN {B : Nat → Prop} {a b : World} (h : Fr B a b) (n : Nat) : Fr B a (b.drewN n) := ⟨h.os, h.tape, h.output, h.size, h.keep⟩
theorem Fr.drewN' {B : Nat → Prop} {a b : World} {n : Nat} (h : Fr B (a.drewN n) b) : Fr B a b := ⟨h.os, h.tape, h.output, h.size, h.keep⟩
theorem Fr.alloc {B : Nat → Prop} {a b : World} (h : Fr B a b) (o : Obj) : Fr B a (b.alloc o) :=
  ⟨h.os, h.tape, h.output, Nat.le_trans h.size (by simp), fun i hi hb => (Below.heap_alloc _ _ _ (Nat.lt_of_lt_of_le hi h.size)).trans (h.keep i hi hb)⟩
theorem Fr.setCell {B : Nat → Prop} {a b : World} (h : Fr B a b) {p : Addr} (hp : B p.block ∨ a.heap.size ≤ p.block) (u : Value) : Fr B a (b.setCell p u) :=
  ⟨h.os, h.tape, h.output, by simpa [World.setCell] using h.size, fun i hi hb => (Below.heap_setCell _ _ _ _ (by rintro rfl; exact hp.elim hb (by omega))).trans (h.keep i hi hb)⟩
theorem Fr.grown {B : Nat → Prop} {a b c : World} (h : Fr B a b) {row : Option Nat} (hg : b.grownBy c row) (hr : ∀ k, row = some k → B k ∨ a.heap.size ≤ k) : Fr B a c :=
  ⟨hg.os.trans h.os, hg.tape.trans h.tape, hg.output.trans h.output, Nat.le_trans h.size hg.size, fun i hi hb =>
    (hg.block i (Nat.lt_of_lt_of_le hi h.size) (fun e => (hr i e.symm).elim hb (by omega))).trans (h.keep i hi hb)⟩
theorem Fr.below {base : Nat} {B : Nat → Prop} {a b : World} (h : Fr B a b) (hb : ∀ k, B k → base ≤ k) (hs : base ≤ a.heap.size) : Below base a b :=
  ⟨h.os, h.tape, h.output, h.size, fun k hk => h.keep k (by omega) (fun hB => by have := hb k hB; omega)⟩
theorem Fr.of_below {a b : World} (h : Below a.heap.size a b) (B : Nat → Prop) : Fr B a b := ⟨h.os, h.tape, h.output, h.size, fun k hk _ => h.block k hk⟩
theorem Fr.of_drawn {a b : World} (h : Drawn0 a b) (B : Nat → Prop) : Fr B a b := Fr.of_below h.below B

/-! ### Sectors as cells -/
/-- A write that does not last yet, as cells. -/
def encP (p : Int × List Int) : List Value := .int .i64 p.1 :: nums .u8 p.2
def encC : List (Int × List Int) → List Value
  | [] => []
  | p :: l => encP p ++ encC l
def Good (c : List (Int × List Int)) : Prop := ∀ p ∈ c, p.2.length = 64 ∧ (Lit.int .i64 p.1).wf = true
theorem encP_length {p : Int × List Int} (h : p.2.length = 64) : (encP p).length = 65 := by simp [encP, nums, h]
theorem encC_length : ∀ {l : List (Int × List Int)}, Good l → (encC l).length = l.length * 65
  | [], _ => rfl
  | p :: l, h => by
    rw [encC, List.length_append, encP_length (h p (by simp)).1, encC_length (fun q hq => h q (by simp [hq])), List.length_cons]
    omega
theorem encC_append : ∀ l m : List (Int × List Int), encC (l ++ m) = encC l ++ encC m
  | [], m => rfl
  | p :: l, m => by rw [List.cons_append, encC, encC, encC_append l m, List.append_assoc]
theorem encC_drop : ∀ (l : List (Int × List Int)) (i : Nat), Good l → (encC l).drop (i * 65) = encC (l.drop i)
  | [], i, _ => by simp [encC]
  | p :: l, 0, _ => by simp
  | p :: l, i + 1, h => by
    have e := encP_length (h p (by simp)).1
    rw [List.drop_succ_cons, ← encC_drop l i (fun q hq => h q (by simp [hq])), encC, show (i + 1) * 65 = (encP p).length + i * 65 by omega, ← List.drop_drop, List.drop_left]
theorem encC_at {l : List (Int × List Int)} {i : Nat} {p : Int × List Int} (h : Good l) (hp : l[i]? = some p) (j : Nat) (v : Value) (hj : (encP p)[j]? = some v) : (encC l)[i * 65 + j]? = some v := by
  obtain ⟨hi, e⟩ := List.getElem?_eq_some_iff.1 hp
  rw [← List.getElem?_drop, encC_drop l i h, List.drop_eq_getElem_cons hi, e, encC, List.getElem?_append_left (List.getElem?_eq_some_iff.1 hj).1, hj]

/-- A sector as a value. -/
def arr (b : List Int) : Value := .agg (nums .u8 b).toArray
def zeros64 : List Int := List.replicate 64 0
theorem arr_inj {a b : List Int} (h : arr a = arr b) : a = b := by
  unfold arr at h
  injection h with h
  have h := congrArg Array.toList h
  simp only [nums] at h
  exact (List.map_inj_right (fun x y e => by injection e)).1 h

/-- How an element of the map of sectors is told: as it stands. -/
def asIs (v : Value) : Option (DataW Value × List MemPlace) := some (.held v, [])

/-! ### The disk -/
structure DS where
  n : Int
  f : Int → List Int
  c : List (Int × List Int)
  left : Int
  down : Bool
  steps : Int
  u : Nat

/-- The map of block m holds the sectors f. -/
def IsMapOf (w : World) (m u : Nat) (f : Int → List Int) : Prop :=
  ∃ D : DataW Value, w.ownsMap Try.prog 3 asIs m u D ∧ Maps.IsMap D ∧ ∀ i : Int, D.atKey (.int .i64 i) (.held (arr zeros64)) = .held (arr (f i))

/-- Block g is a disk; B are the blocks that it leads to. -/
def IsDisk (w : World) (B : Nat → Prop) (g : Nat) (D : DS) : Prop :=
  ∃ m cv, w.heap[g]? = some (.cells #[.int .i64 D.n, .map (some m), cv, .int .i64 D.left, .bool D.down, .int .i64 D.steps] 88 (0, 0)) ∧ B g ∧ B m ∧ (∀ k, cv.ownBlock = some k → B k) ∧
    IsMapOf w m D.u D.f ∧ w.ownsRow 0 93 65 cv D.c.length (encC D.c) ∧ Good D.c ∧ (∀ i, (D.f i).length = 64) ∧ ∀ k, B k → k < w.heap.size

theorem IsMapOf.kept {w w' : World} {m u : Nat} {f : Int → List Int} (h : IsMapOf w m u f) (hk : w'.heap[m]? = w.heap[m]?) : IsMapOf w' m u f := by
  obtain ⟨D, ⟨es, clock, hb, F, hs, hD⟩, h2, h3⟩ := h
  exact ⟨D, ⟨es, clock, hk.trans hb, F, hs, hD⟩, h2, h3⟩
theorem ownsRow_kept {w w' : World} {base e sz : Nat} {v : Value} {n : Nat} {xs : List Value} (h : w.ownsRow base e sz v n xs) (hk : ∀ k, v.ownBlock = some k → w'.heap[k]? = w.heap[k]?) : w'.ownsRow base e sz v n xs := by
  refine ⟨h.1, ?_⟩
  rcases h.2 with h2 | ⟨g, cap, cur, hv, h3, h4, h5⟩
  · exact .inl h2
  · subst hv
    exact .inr ⟨g, cap, cur, rfl, h3, (hk g rfl).trans h4, h5⟩
/-- A disk stays what it is while other blocks are written. -/
theorem IsDisk.move {w w' : World} {B : Nat → Prop} {g : Nat} {D : DS} (h : IsDisk w B g D) (hs : w.heap.size ≤ w'.heap.size) (hk : ∀ k, B k → w'.heap[k]? = w.heap[k]?) : IsDisk w' B g D := by
  obtain ⟨m, cv, h1, h2, h3, h4, h5, h6, h7, h8, h9⟩ := h
  exact ⟨m, cv, (hk g h2).trans h1, h2, h3, h4, h5.kept (hk m h3), ownsRow_kept h6 (fun k e => hk k (h4 k e)), h7, h8, fun k hb => Nat.lt_of_lt_of_le (h9 k hb) hs⟩
theorem IsDisk.fr {w w' : World} {B B' : Nat → Prop} {g : Nat} {D : DS} (h : IsDisk w B g D) (hf : Fr B' w w') (hd : ∀ k, B k → ¬ B' k) : IsDisk w' B g D := by
  have h9 : ∀ k, B k → k < w.heap.size := by
    obtain ⟨m, cv, h1, h2, h3, h4, h5, h6, h7, h8, h9⟩ := h
    exact h9
  exact h.move hf.size fun k hb => hf.keep k (h9 k hb) (hd k hb)
theorem IsDisk.lt {w : World} {B : Nat → Prop} {g : Nat} {D : DS} (h : IsDisk w B g D) : ∀ k, B k → k < w.heap.size := by
  obtain ⟨m, cv, h1, h2, h3, h4, h5, h6, h7, h8, h9⟩ := h
  exact h9
theorem IsDisk.below {w w' : World} {B : Nat → Prop} {g : Nat} {D : DS} (h : IsDisk w B g D) (hb : Below w.heap.size w w') : IsDisk w' B g D :=
  h.move hb.size fun k hk => hb.block k (h.lt k hk)
theorem IsDisk.drewN {w : World} {B : Nat → Prop} {g : Nat} {D : DS} (h : IsDisk w B g D) (n : Nat) : IsDisk (w.drewN n) B g D := h
theorem IsDisk.drew {w : World} {B : Nat → Prop} {g : Nat} {D : DS} (h : IsDisk w B g D) : IsDisk w.drew B g D := h
theorem IsDisk.alloc {w : World} {B : Nat → Prop} {g : Nat} {D : DS} (h : IsDisk w B g D) (o : Obj) : IsDisk (w.alloc o) B g D := h.below ((Below.refl _ _).alloc (Nat.le_refl _) o)

/-- Its cells. -/
theorem IsDisk.cells {w : World} {B : Nat → Prop} {g : Nat} {D : DS} (h : IsDisk w B g D) : ∃ m cv, w.cell? ⟨g, 0, none⟩ = some (.int .i64 D.n) ∧ w.cell? ⟨g, 1, none⟩ = some (.map (some m)) ∧ w.cell? ⟨g, 2, none⟩ = some cv ∧
    w.cell? ⟨g, 3, none⟩ = some (.int .i64 D.left) ∧ w.cell? ⟨g, 4, none⟩ = some (.bool D.down) ∧ w.cell? ⟨g, 5, none⟩ = some (.int .i64 D.steps) ∧ (∀ j, w.frozen? ⟨g, j, none⟩ = false) ∧ g < w.heap.size ∧
    IsMapOf w m D.u D.f ∧ w.ownsRow 0 93 65 cv D.c.length (encC D.c) ∧ (∀ k, cv.ownBlock = some k → B k) ∧ B m ∧ B g := by
  obtain ⟨m, cv, h1, h2, h3, h4, h5, h6, h7, h8, h9⟩ := h
  refine ⟨m, cv, ?_, ?_, ?_, ?_, ?_, ?_, fun j => frozen_of_row w g j _ 88 h1, h9 g h2, h5, h6, h4, h3, h2⟩ <;> rw [cell_of_row w g _ _ 88 (0, 0) h1] <;> rfl

/-- Another number or truth is stored into one of its plain fields. -/
theorem IsDisk.put3 {w : World} {B : Nat → Prop} {g : Nat} {D : DS} (h : IsDisk w B g D) (x : Int) : IsDisk (w.setCell ⟨g, 3, none⟩ (.int .i64 x)) B g { D with left := x } ∧ Fr B w (w.setCell ⟨g, 3, none⟩ (.int .i64 x)) := by
  obtain ⟨m, cv, h1, h2, h3, h4, h5, h6, h7, h8, h9⟩ := h
  have hg := heap_setCell_same w g 3 _ 88 (.int .i64 x) h1
  have hmg : m ≠ g := by
    rintro rfl
    obtain ⟨_, ⟨es, clock, hb, _⟩, _⟩ := h5
    rw [h1] at hb
    cases hb
  have hcg : ∀ k, cv.ownBlock = some k → k ≠ g := by
    rintro k e rfl
    rcases h6.2 with ⟨rfl, _⟩ | ⟨g', cap, cur, rfl, _, hb, _⟩
    · cases e
    · injection e with e
      subst e
      rw [h1] at hb
      injection hb with hb
      injection hb with _ hb
      cases hb
  refine ⟨⟨m, cv, by rw [hg]; rfl, h2, h3, h4, h5.kept (heap_setCell_other w _ m _ hmg), ownsRow_kept h6 (fun k e => heap_setCell_other w _ k _ (hcg k e)), h7, h8, fun k hb => by have := h9 k hb; simpa [World.setCell] using this⟩, (Fr.refl _ _).setCell (.inl h2) _⟩
theorem IsDisk.put4 {w : World} {B : Nat → Prop} {g : Nat} {D : DS} (h : IsDisk w B g D) (x : Bool) : IsDisk (w.setCell ⟨g, 4, none⟩ (.bool x)) B g { D with down := x } ∧ Fr B w (w.setCell ⟨g, 4, none⟩ (.bool x)) := by
  obtain ⟨m, cv, h1, h2, h3, h4, h5, h6, h7, h8, h9⟩ := h
  have hg := heap_setCell_same w g 4 _ 88 (.bool x) h1
  have hmg : m ≠ g := by
    rintro rfl
    obtain ⟨_, ⟨es, clock, hb, _⟩, _⟩ := h5
    rw [h1] at hb
    cases hb
  have hcg : ∀ k, cv.ownBlock = some k → k ≠ g := by
    rintro k e rfl
    rcases h6.2 with ⟨rfl, _⟩ | ⟨g', cap, cur, rfl, _, hb, _⟩
    · cases e
    · injection e with e
      subst e
      rw [h1] at hb
      injection hb with hb
      injection hb with _ hb
      cases hb
  refine ⟨⟨m, cv, by rw [hg]; rfl, h2, h3, h4, h5.kept (heap_setCell_other w _ m _ hmg), ownsRow_kept h6 (fun k e => heap_setCell_other w _ k _ (hcg k e)), h7, h8, fun k hb => by have := h9 k hb; simpa [World.setCell] using this⟩, (Fr.refl _ _).setCell (.inl h2) _⟩
theorem IsDisk.put5 {w : World} {B : Nat → Prop} {g : Nat} {D : DS} (h : IsDisk w B g D) (x : Int) : IsDisk (w.setCell ⟨g, 5, none⟩ (.int .i64 x)) B g { D with steps := x } ∧ Fr B w (w.setCell ⟨g, 5, none⟩ (.int .i64 x)) := by
  obtain ⟨m, cv, h1, h2, h3, h4, h5, h6, h7, h8, h9⟩ := h
  have hg := heap_setCell_same w g 5 _ 88 (.int .i64 x) h1
  have hmg : m ≠ g := by
    rintro rfl
    obtain ⟨_, ⟨es, clock, hb, _⟩, _⟩ := h5
    rw [h1] at hb
    cases hb
  have hcg : ∀ k, cv.ownBlock = some k → k ≠ g := by
    rintro k e rfl
    rcases h6.2 with ⟨rfl, _⟩ | ⟨g', cap, cur, rfl, _, hb, _⟩
    · cases e
    · injection e with e
      subst e
      rw [h1] at hb
      injection hb with hb
      injection hb with _ hb
      cases hb
  refine ⟨⟨m, cv, by rw [hg]; rfl, h2, h3, h4, h5.kept (heap_setCell_other w _ m _ hmg), ownsRow_kept h6 (fun k e => heap_setCell_other w _ k _ (hcg k e)), h7, h8, fun k hb => by have := h9 k hb; simpa [World.setCell] using this⟩, (Fr.refl _ _).setCell (.inl h2) _⟩
/-- Another row of pending writes is stored. -/
theorem IsDisk.put2 {w w1 : World} {B : Nat → Prop} {g : Nat} {D : DS} (h : IsDisk w1 B g D) {v : Value} {c : List (Int × List Int)} (hown : w1.ownsRow 0 93 65 v c.length (encC c)) (hc : Good c) (hlt : ∀ k, v.ownBlock = some k → k < w1.heap.size) :
    IsDisk (w1.setCell ⟨g, 2, none⟩ v) (fun k => B k ∨ v.ownBlock = some k) g { D with c := c } ∧ Fr B w1 (w1.setCell ⟨g, 2, none⟩ v) := by
  obtain ⟨m, cv, h1, h2, h3, h4, h5, h6, h7, h8, h9⟩ := h
  have hg := heap_setCell_same w1 g 2 _ 88 v h1
  have hmg : m ≠ g := by
    rintro rfl
    obtain ⟨_, ⟨es, clock, hb, _⟩, _⟩ := h5
    rw [h1] at hb
    cases hb
  have hcg : ∀ k, v.ownBlock = some k → k ≠ g := by
    rintro k e rfl
    rcases hown.2 with ⟨rfl, _⟩ | ⟨g', cap, cur, rfl, _, hb, _⟩
    · cases e
    · injection e with e
      subst e
      rw [h1] at hb
      injection hb with hb
      injection hb with _ hb
      cases hb
  refine ⟨⟨m, v, by rw [hg]; rfl, .inl h2, .inl h3, fun k e => .inr e, h5.kept (heap_setCell_other w1 _ m _ hmg), ownsRow_kept hown (fun k e => heap_setCell_other w1 _ k _ (hcg k e)), hc, h8, fun k hb => ?_⟩, (Fr.refl _ _).setCell (.inl h2) _⟩
  have : k < w1.heap.size := hb.elim (h9 k) (hlt k)
  simpa [World.setCell] using this
end Go.Proofs.Ytppgbfkhiofjiaa.X
