/-
  Of the proof of JournalPlays (put together by wip/tools/mkclaimj.py):
  The simulated disk in memory: what a block of type Disk stands for, and how it stays while other blocks are written.
  The contracts of look, step and Arm, and of New.
  Building a pending write, and the contract of Write.
  The contracts of settle, Flush and Mend.
  The contracts of Flush and Mend.
  The contract of Read.
  The contract of works (redlinelaw23).
-/
import Derived.Test.YtppgbfkhiofjiaaProg
import Derived.Below
import Derived.Deep.Draws
import Derived.Deep.AppendLies
import Derived.Maps.AppendAt
import Derived.OwnWalk
import Derived.Laws.BytesArg
import Derived.Laws.MakeOwn
import Derived.Laws.OwnMore
import Derived.Deep.OwnRows
import Derived.Tactics
import Derived.Lib.ConvBytes
import Derived.Laws.Slices
import Derived.WalkKit
import Derived.KernelRfl
import Derived.RowKit3
import Derived.Deep.LoopGhost
import Derived.Deep.QuietTactic
import Derived.BigQuiet
import Derived.WideLaws
import Derived.Deep.DeepCutAuto
import Derived.Deep.CutBlock
import Derived.Deep.RegionHeld3
import Derived.Laws.Rows
import Derived.Lib.AppendStr
import Derived.ArgAppend
import Derived.Laws.IdiomCopy
import Derived.OrdersHeld
import Derived.Laws.BitsLemmas
import Derived.RowKit
import Derived.Test.YtppgbfkhiofjiaaWWords
import Derived.Test.YtppgbfkhiofjiaaWLast
import Derived.Test.YtppgbfkhiofjiaaWTab
import Derived.Test.YtppgbfkhiofjiaaWQPut
import Derived.Test.YtppgbfkhiofjiaaWApart
import Derived.Test.YtppgbfkhiofjiaaWArr
import Derived.Test.YtppgbfkhiofjiaaWZeros
import Derived.Test.YtppgbfkhiofjiaaWFoot
import Derived.Test.YtppgbfkhiofjiaaWKept
import Derived.Test.YtppgbfkhiofjiaaWShare
import Derived.Test.YtppgbfkhiofjiaaWN
import Derived.Test.YtppgbfkhiofjiaaWRepsOne
import Derived.Test.YtppgbfkhiofjiaaWNEv
import Derived.Test.YtppgbfkhiofjiaaWMore
import Derived.Maps.Own
import Derived.Maps.OwnOps
import Derived.Maps.Views
import Derived.Deep.MidRow
import Derived.Outline
import Derived.Deep.Upon
import Derived.Deep.CutRange
namespace Go.Proofs.Ytppgbfkhiofjiaa.X
open Go.RowKit Go.Proofs.YtppgbfkhiofjiaaW.PrintWords Go.Proofs.YtppgbfkhiofjiaaW.PrintLast Go.Proofs.YtppgbfkhiofjiaaW.PrintMore
attribute [local go_sem] max2_int min2_int max_two min_two max_three min_three max_four min_four   -- for this text's walks alone
set_option linter.unusedVariables false
set_option linter.unusedSimpArgs false



def errW : Option Int → Value
  | none => .nilIface
  | some c => .iface 0 (.int .i64 c)
theorem errW_none : errW none = .nilIface := rfl
theorem errW_some (c : Int) : errW (some c) = .iface 0 (.int .i64 c) := rfl

theorem info5 : (Try.prog.info? 5).map (fun i => (i.zero, i.size, i.bytes)) = some (some (.int .u8 0), 1, 1) := by kernel_rfl
-- the values' own types
def rd_L1 (xs : List (List Int)) (i : Int) : (List Int) := xs.getD i.toNat ([] : List Int)
theorem at_L1 {w : World} {A : Option Addr} {n : Nat} {xs : List (List Int)} (h : Kd.C (Kd.slice 5 (Kd.int .u8)) w A n xs) (i : Int) (h0 : 0 ≤ i) (h1 : i < n) : ∃ ad A0 c0, A = some ad ∧ w.cell? (ad.add i.toNat) = some (.slice A0 (rd_L1 xs i).length c0) ∧ (rd_L1 xs i).length ≤ c0 ∧ (Kd.int .u8).C w A0 (rd_L1 xs i).length (rd_L1 xs i) := by
  obtain ⟨ad, c, e, _, hK, hc0⟩ := Kd.C_get h ([] : List Int) i h0 h1
  have hc : ∀ j u, c[j]? = some u → w.cell? (ad.add (i.toNat * 1 + j)) = some u := hc0
  obtain ⟨A0, c0, rfl, l0, g0⟩ := hK
  exact ⟨ad, A0, c0, e, by have hq := hc 0 _ rfl; rwa [Nat.mul_one, Nat.add_zero] at hq, l0, g0⟩

end Go.Proofs.Ytppgbfkhiofjiaa.X

namespace Go.Proofs.Ytppgbfkhiofjiaa.X
open Go.RowKit Go.Proofs.YtppgbfkhiofjiaaW.PrintWords Go.Proofs.YtppgbfkhiofjiaaW.PrintLast Go.Proofs.YtppgbfkhiofjiaaW.PrintMore
set_option linter.unusedVariables false

/-! ### What may have turned -/
/-- w' is w but for the blocks of B and new ones. -/
structure Fr (B : Nat → Prop) (w w' : World) : Prop where
  os : w'.os = w.os
  tape : w'.tape = w.tape
  output : w'.output = w.output
  size : w.heap.size ≤ w'.heap.size
  keep : ∀ k, k < w.heap.size → ¬ B k → w'.heap[k]? = w.heap[k]?
theorem Fr.refl (B : Nat → Prop) (w : World) : Fr B w w := ⟨rfl, rfl, rfl, Nat.le_refl _, fun _ _ _ => rfl⟩
theorem Fr.trans {B B' : Nat → Prop} {a b c : World} (h : Fr B a b) (k : Fr B' b c) (hs : ∀ i, B' i → B i ∨ a.heap.size ≤ i) : Fr B a c :=
  ⟨k.os.trans h.os, k.tape.trans h.tape, k.output.trans h.output, Nat.le_trans h.size k.size, fun i hi hb => (k.keep i (Nat.lt_of_lt_of_le hi h.size) (fun hb' => (hs i hb').elim hb (fun h' => by omega))).trans (h.keep i hi hb)⟩
theorem Fr.mono {B B' : Nat → Prop} {a b : World} (h : Fr B a b) (hs : ∀ i, B i → B' i ∨ a.heap.size ≤ i) : Fr B' a b :=
  ⟨h.os, h.tape, h.output, h.size, fun i hi hb => h.keep i hi (fun hb' => (hs i hb').elim hb (fun h' => by omega))⟩
theorem Fr.drew {B : Nat → Prop} {a b : World} (h : Fr B a b) : Fr B a b.drew := ⟨h.os, h.tape, h.output, h.size, h.keep⟩
theorem Fr.drewN {B : Nat → Prop} {a b : World} (h : Fr B a b) (n : Nat) : Fr B a (b.drewN n) := ⟨h.os, h.tape, h.output, h.size, h.keep⟩
theorem Fr.drewN' {B : Nat → Prop} {a b : World} {n : Nat} (h : Fr B (a.drewN n) b) : Fr B a b := ⟨h.os, h.tape, h.output, h.size, h.keep⟩
theorem Fr.alloc {B : Nat → Prop} {a b : World} (h : Fr B a b) (o : Obj) : Fr B a (b.alloc o) :=
  ⟨h.os, h.tape, h.output, Nat.le_trans h.size (by simp), fun i hi hb => (Below.heap_alloc _ _ _ (Nat.lt_of_lt_of_le hi h.size)).trans (h.keep i hi hb)⟩
theorem Fr.setCell {B : Nat → Prop} {a b : World} (h : Fr B a b) {p : Addr} (hp : B p.block ∨ a.heap.size ≤ p.block) (u : Value) : Fr B a (b.setCell p u) :=
  ⟨h.os, h.tape, h.output, by simpa [World.setCell] using h.size, fun i hi hb => (Below.heap_setCell _ _ _ _ (by rintro rfl; exact hp.elim hb (by omega))).trans (h.keep i hi hb)⟩
theorem Fr.grown {B : Nat → Prop} {a b c : World} (h : Fr B a b) {row : Option Nat} (hg : b.grownBy c row) (hr : ∀ k, row = some k → B k ∨ a.heap.size ≤ k) : Fr B a c :=
  ⟨hg.os.trans h.os, hg.tape.trans h.tape, hg.output.trans h.output, Nat.le_trans h.size hg.size, fun i hi hb =>
    (hg.block i (Nat.lt_of_lt_of_le hi h.size) (fun e => (hr i e.symm).elim hb (by omega))).trans (h.keep i hi hb)⟩
theorem Fr.below {base : Nat} {B : Nat → Prop} {a b : World} (h : Fr B a b) (hb : ∀ k, B k → base ≤ k) (hs : base ≤ a.heap.size) : Below base a b :=
  ⟨h.os, h.tape, h.output, h.size, fun k hk => h.keep k (by omega) (fun hB => by have := hb k hB; omega)⟩
theorem Fr.of_below {a b : World} (h : Below a.heap.size a b) (B : Nat → Prop) : Fr B a b := ⟨h.os, h.tape, h.output, h.size, fun k hk _ => h.block k hk⟩
theorem Fr.of_drawn {a b : World} (h : Drawn0 a b) (B : Nat → Prop) : Fr B a b := Fr.of_below h.below B

/-! ### Sectors as cells -/
/-- A write that does not last yet, as cells. -/
def encP (p : Int × List Int) : List Value := .int .i64 p.1 :: nums .u8 p.2
def encC : List (Int × List Int) → List Value
  | [] => []
  | p :: l => encP p ++ encC l
def Good (c : List (Int × List Int)) : Prop := ∀ p ∈ c, p.2.length = 64 ∧ (Lit.int .i64 p.1).wf = true
theorem encP_length {p : Int × List Int} (h : p.2.length = 64) : (encP p).length = 65 := by simp [encP, nums, h]
theorem encC_length : ∀ {l : List (Int × List Int)}, Good l → (encC l).length = l.length * 65
  | [], _ => rfl
  | p :: l, h => by
    rw [encC, List.length_append, encP_length (h p (by simp)).1, encC_length (fun q hq => h q (by simp [hq])), List.length_cons]
    omega
theorem encC_append : ∀ l m : List (Int × List Int), encC (l ++ m) = encC l ++ encC m
  | [], m => rfl
  | p :: l, m => by rw [List.cons_append, encC, encC, encC_append l m, List.append_assoc]
theorem encC_drop : ∀ (l : List (Int × List Int)) (i : Nat), Good l → (encC l).drop (i * 65) = encC (l.drop i)
  | [], i, _ => by simp [encC]
  | p :: l, 0, _ => by simp
  | p :: l, i + 1, h => by
    have e := encP_length (h p (by simp)).1
    rw [List.drop_succ_cons, ← encC_drop l i (fun q hq => h q (by simp [hq])), encC, show (i + 1) * 65 = (encP p).length + i * 65 by omega, ← List.drop_drop, List.drop_left]
theorem encC_at {l : List (Int × List Int)} {i : Nat} {p : Int × List Int} (h : Good l) (hp : l[i]? = some p) (j : Nat) (v : Value) (hj : (encP p)[j]? = some v) : (encC l)[i * 65 + j]? = some v := by
  obtain ⟨hi, e⟩ := List.getElem?_eq_some_iff.1 hp
  rw [← List.getElem?_drop, encC_drop l i h, List.drop_eq_getElem_cons hi, e, encC, List.getElem?_append_left (List.getElem?_eq_some_iff.1 hj).1, hj]

/-- A sector as a value. -/
def arr (b : List Int) : Value := .agg (nums .u8 b).toArray
def zeros64 : List Int := List.replicate 64 0
theorem arr_inj {a b : List Int} (h : arr a = arr b) : a = b := by
  unfold arr at h
  injection h with h
  have h := congrArg Array.toList h
  simp only [nums] at h
  exact (List.map_inj_right (fun x y e => by injection e)).1 h

/-- How an element of the map of sectors is told: as it stands. -/
def asIs (v : Value) : Option (DataW Value × List MemPlace) := some (.held v, [])

/-! ### The disk -/
structure DS where
  n : Int
  f : Int → List Int
  c : List (Int × List Int)
  left : Int
  down : Bool
  steps : Int
  u : Nat

/-- The map of block m holds the sectors f. -/
def IsMapOf (w : World) (m u : Nat) (f : Int → List Int) : Prop :=
  ∃ D : DataW Value, w.ownsMap Try.prog 3 asIs m u D ∧ Maps.IsMap D ∧ ∀ i : Int, D.atKey (.int .i64 i) (.held (arr zeros64)) = .held (arr (f i))

/-- Block g is a disk; B are the blocks that it leads to. -/
def IsDisk (w : World) (B : Nat → Prop) (g : Nat) (D : DS) : Prop :=
  ∃ m cv, w.heap[g]? = some (.cells #[.int .i64 D.n, .map (some m), cv, .int .i64 D.left, .bool D.down, .int .i64 D.steps] 88 (0, 0)) ∧ B g ∧ B m ∧ (∀ k, cv.ownBlock = some k → B k) ∧
    IsMapOf w m D.u D.f ∧ w.ownsRow 0 93 65 cv D.c.length (encC D.c) ∧ Good D.c ∧ (∀ i, (D.f i).length = 64) ∧ ∀ k, B k → k < w.heap.size

theorem IsMapOf.kept {w w' : World} {m u : Nat} {f : Int → List Int} (h : IsMapOf w m u f) (hk : w'.heap[m]? = w.heap[m]?) : IsMapOf w' m u f := by
  obtain ⟨D, ⟨es, clock, hb, F, hs, hD⟩, h2, h3⟩ := h
  exact ⟨D, ⟨es, clock, hk.trans hb, F, hs, hD⟩, h2, h3⟩
theorem ownsRow_kept {w w' : World} {base e sz : Nat} {v : Value} {n : Nat} {xs : List Value} (h : w.ownsRow base e sz v n xs) (hk : ∀ k, v.ownBlock = some k → w'.heap[k]? = w.heap[k]?) : w'.ownsRow base e sz v n xs := by
  refine ⟨h.1, ?_⟩
  rcases h.2 with h2 | ⟨g, cap, cur, hv, h3, h4, h5⟩
  · exact .inl h2
  · subst hv
    exact .inr ⟨g, cap, cur, rfl, h3, (hk g rfl).trans h4, h5⟩
/-- A disk stays what it is while other blocks are written. -/
theorem IsDisk.move {w w' : World} {B : Nat → Prop} {g : Nat} {D : DS} (h : IsDisk w B g D) (hs : w.heap.size ≤ w'.heap.size) (hk : ∀ k, B k → w'.heap[k]? = w.heap[k]?) : IsDisk w' B g D := by
  obtain ⟨m, cv, h1, h2, h3, h4, h5, h6, h7, h8, h9⟩ := h
  exact ⟨m, cv, (hk g h2).trans h1, h2, h3, h4, h5.kept (hk m h3), ownsRow_kept h6 (fun k e => hk k (h4 k e)), h7, h8, fun k hb => Nat.lt_of_lt_of_le (h9 k hb) hs⟩
theorem IsDisk.fr {w w' : World} {B B' : Nat → Prop} {g : Nat} {D : DS} (h : IsDisk w B g D) (hf : Fr B' w w') (hd : ∀ k, B k → ¬ B' k) : IsDisk w' B g D := by
  have h9 : ∀ k, B k → k < w.heap.size := by
    obtain ⟨m, cv, h1, h2, h3, h4, h5, h6, h7, h8, h9⟩ := h
    exact h9
  exact h.move hf.size fun k hb => hf.keep k (h9 k hb) (hd k hb)
theorem IsDisk.lt {w : World} {B : Nat → Prop} {g : Nat} {D : DS} (h : IsDisk w B g D) : ∀ k, B k → k < w.heap.size := by
  obtain ⟨m, cv, h1, h2, h3, h4, h5, h6, h7, h8, h9⟩ := h
  exact h9
theorem IsDisk.below {w w' : World} {B : Nat → Prop} {g : Nat} {D : DS} (h : IsDisk w B g D) (hb : Below w.heap.size w w') : IsDisk w' B g D :=
  h.move hb.size fun k hk => hb.block k (h.lt k hk)
theorem IsDisk.drewN {w : World} {B : Nat → Prop} {g : Nat} {D : DS} (h : IsDisk w B g D) (n : Nat) : IsDisk (w.drewN n) B g D := h
theorem IsDisk.drew {w : World} {B : Nat → Prop} {g : Nat} {D : DS} (h : IsDisk w B g D) : IsDisk w.drew B g D := h
theorem IsDisk.alloc {w : World} {B : Nat → Prop} {g : Nat} {D : DS} (h : IsDisk w B g D) (o : Obj) : IsDisk (w.alloc o) B g D := h.below ((Below.refl _ _).alloc (Nat.le_refl _) o)

/-- Its cells. -/
theorem IsDisk.cells {w : World} {B : Nat → Prop} {g : Nat} {D : DS} (h : IsDisk w B g D) : ∃ m cv, w.cell? ⟨g, 0, none⟩ = some (.int .i64 D.n) ∧ w.cell? ⟨g, 1, none⟩ = some (.map (some m)) ∧ w.cell? ⟨g, 2, none⟩ = some cv ∧
    w.cell? ⟨g, 3, none⟩ = some (.int .i64 D.left) ∧ w.cell? ⟨g, 4, none⟩ = some (.bool D.down) ∧ w.cell? ⟨g, 5, none⟩ = some (.int .i64 D.steps) ∧ (∀ j, w.frozen? ⟨g, j, none⟩ = false) ∧ g < w.heap.size ∧
    IsMapOf w m D.u D.f ∧ w.ownsRow 0 93 65 cv D.c.length (encC D.c) ∧ (∀ k, cv.ownBlock = some k → B k) ∧ B m ∧ B g := by
  obtain ⟨m, cv, h1, h2, h3, h4, h5, h6, h7, h8, h9⟩ := h
  refine ⟨m, cv, ?_, ?_, ?_, ?_, ?_, ?_, fun j => frozen_of_row w g j _ 88 h1, h9 g h2, h5, h6, h4, h3, h2⟩ <;> rw [cell_of_row w g _ _ 88 (0, 0) h1] <;> rfl

/-- Another number or truth is stored into one of its plain fields. -/
theorem IsDisk.put3 {w : World} {B : Nat → Prop} {g : Nat} {D : DS} (h : IsDisk w B g D) (x : Int) : IsDisk (w.setCell ⟨g, 3, none⟩ (.int .i64 x)) B g { D with left := x } ∧ Fr B w (w.setCell ⟨g, 3, none⟩ (.int .i64 x)) := by
  obtain ⟨m, cv, h1, h2, h3, h4, h5, h6, h7, h8, h9⟩ := h
  have hg := heap_setCell_same w g 3 _ 88 (.int .i64 x) h1
  have hmg : m ≠ g := by
    rintro rfl
    obtain ⟨_, ⟨es, clock, hb, _⟩, _⟩ := h5
    rw [h1] at hb
    cases hb
  have hcg : ∀ k, cv.ownBlock = some k → k ≠ g := by
    rintro k e rfl
    rcases h6.2 with ⟨rfl, _⟩ | ⟨g', cap, cur, rfl, _, hb, _⟩
    · cases e
    · injection e with e
      subst e
      rw [h1] at hb
      injection hb with hb
      injection hb with _ hb
      cases hb
  refine ⟨⟨m, cv, by rw [hg]; rfl, h2, h3, h4, h5.kept (heap_setCell_other w _ m _ hmg), ownsRow_kept h6 (fun k e => heap_setCell_other w _ k _ (hcg k e)), h7, h8, fun k hb => by have := h9 k hb; simpa [World.setCell] using this⟩, (Fr.refl _ _).setCell (.inl h2) _⟩
theorem IsDisk.put4 {w : World} {B : Nat → Prop} {g : Nat} {D : DS} (h : IsDisk w B g D) (x : Bool) : IsDisk (w.setCell ⟨g, 4, none⟩ (.bool x)) B g { D with down := x } ∧ Fr B w (w.setCell ⟨g, 4, none⟩ (.bool x)) := by
  obtain ⟨m, cv, h1, h2, h3, h4, h5, h6, h7, h8, h9⟩ := h
  have hg := heap_setCell_same w g 4 _ 88 (.bool x) h1
  have hmg : m ≠ g := by
    rintro rfl
    obtain ⟨_, ⟨es, clock, hb, _⟩, _⟩ := h5
    rw [h1] at hb
    cases hb
  have hcg : ∀ k, cv.ownBlock = some k → k ≠ g := by
    rintro k e rfl
    rcases h6.2 with ⟨rfl, _⟩ | ⟨g', cap, cur, rfl, _, hb, _⟩
    · cases e
    · injection e with e
      subst e
      rw [h1] at hb
      injection hb with hb
      injection hb with _ hb
      cases hb
  refine ⟨⟨m, cv, by rw [hg]; rfl, h2, h3, h4, h5.kept (heap_setCell_other w _ m _ hmg), ownsRow_kept h6 (fun k e => heap_setCell_other w _ k _ (hcg k e)), h7, h8, fun k hb => by have := h9 k hb; simpa [World.setCell] using this⟩, (Fr.refl _ _).setCell (.inl h2) _⟩
theorem IsDisk.put5 {w : World} {B : Nat → Prop} {g : Nat} {D : DS} (h : IsDisk w B g D) (x : Int) : IsDisk (w.setCell ⟨g, 5, none⟩ (.int .i64 x)) B g { D with steps := x } ∧ Fr B w (w.setCell ⟨g, 5, none⟩ (.int .i64 x)) := by
  obtain ⟨m, cv, h1, h2, h3, h4, h5, h6, h7, h8, h9⟩ := h
  have hg := heap_setCell_same w g 5 _ 88 (.int .i64 x) h1
  have hmg : m ≠ g := by
    rintro rfl
    obtain ⟨_, ⟨es, clock, hb, _⟩, _⟩ := h5
    rw [h1] at hb
    cases hb
  have hcg : ∀ k, cv.ownBlock = some k → k ≠ g := by
    rintro k e rfl
    rcases h6.2 with ⟨rfl, _⟩ | ⟨g', cap, cur, rfl, _, hb, _⟩
    · cases e
    · injection e with e
      subst e
      rw [h1] at hb
      injection hb with hb
      injection hb with _ hb
      cases hb
  refine ⟨⟨m, cv, by rw [hg]; rfl, h2, h3, h4, h5.kept (heap_setCell_other w _ m _ hmg), ownsRow_kept h6 (fun k e => heap_setCell_other w _ k _ (hcg k e)), h7, h8, fun k hb => by have := h9 k hb; simpa [World.setCell] using this⟩, (Fr.refl _ _).setCell (.inl h2) _⟩
/-- Another row of pending writes is stored. -/
theorem IsDisk.put2 {w w1 : World} {B : Nat → Prop} {g : Nat} {D : DS} (h : IsDisk w1 B g D) {v : Value} {c : List (Int × List Int)} (hown : w1.ownsRow 0 93 65 v c.length (encC c)) (hc : Good c) (hlt : ∀ k, v.ownBlock = some k → k < w1.heap.size) :
    IsDisk (w1.setCell ⟨g, 2, none⟩ v) (fun k => B k ∨ v.ownBlock = some k) g { D with c := c } ∧ Fr B w1 (w1.setCell ⟨g, 2, none⟩ v) := by
  obtain ⟨m, cv, h1, h2, h3, h4, h5, h6, h7, h8, h9⟩ := h
  have hg := heap_setCell_same w1 g 2 _ 88 v h1
  have hmg : m ≠ g := by
    rintro rfl
    obtain ⟨_, ⟨es, clock, hb, _⟩, _⟩ := h5
    rw [h1] at hb
    cases hb
  have hcg : ∀ k, v.ownBlock = some k → k ≠ g := by
    rintro k e rfl
    rcases hown.2 with ⟨rfl, _⟩ | ⟨g', cap, cur, rfl, _, hb, _⟩
    · cases e
    · injection e with e
      subst e
      rw [h1] at hb
      injection hb with hb
      injection hb with _ hb
      cases hb
  refine ⟨⟨m, v, by rw [hg]; rfl, .inl h2, .inl h3, fun k e => .inr e, h5.kept (heap_setCell_other w1 _ m _ hmg), ownsRow_kept hown (fun k e => heap_setCell_other w1 _ k _ (hcg k e)), hc, h8, fun k hb => ?_⟩, (Fr.refl _ _).setCell (.inl h2) _⟩
  have : k < w1.heap.size := hb.elim (h9 k) (hlt k)
  simpa [World.setCell] using this
end Go.Proofs.Ytppgbfkhiofjiaa.X

namespace Go.Proofs.Ytppgbfkhiofjiaa.X
open Go.RowKit Go.Proofs.YtppgbfkhiofjiaaW.PrintWords Go.Proofs.YtppgbfkhiofjiaaW.PrintLast Go.Proofs.YtppgbfkhiofjiaaW.PrintMore
set_option linter.unusedVariables false
set_option linter.unusedSimpArgs false
theorem Fr.of_grownBy {w w' : World} {row : Option Nat} (h : w.grownBy w' row) : Fr (fun b => row = some b) w w' :=
  ⟨h.os, h.tape, h.output, h.size, fun k hk hn => h.block k hk (fun e => hn e.symm)⟩
end Go.Proofs.Ytppgbfkhiofjiaa.X


namespace Go.Proofs.Ytppgbfkhiofjiaa.X
open Go.RowKit Go.Proofs.YtppgbfkhiofjiaaW.PrintWords Go.Proofs.YtppgbfkhiofjiaaW.PrintLast Go.Proofs.YtppgbfkhiofjiaaW.PrintMore
attribute [local go_sem] max2_int min2_int max_two min_two
set_option linter.unusedVariables false
set_option linter.unusedSimpArgs false

/-- What is wrong with a sector's number, or the power. -/
def lookD (D : DS) (n : Int) : Int := if D.down = true then 230 else if n < 0 then 2 else if D.n ≤ n then 2 else 0

set_option maxHeartbeats 1000000 in
theorem look_calls (g : Nat) (B : Nat → Prop) (D : DS) (n : Int) (w : World) (h : IsDisk w B g D) :
    Calls Try.prog 43 #[.pointer (some ⟨g, 0, none⟩), .int .i64 n] w fun e w' => e = .returned (.int .i64 (lookD D n)) ∧ Drawn0 w w' := by
  obtain ⟨m, cv, c0, c1, c2, c3, c4, c5, cf, hlt, _, _, _, _, _⟩ := h.cells
  obtain ⟨dn, df, dc, dl, dd, ds, du⟩ := D
  dsimp only at c0 c1 c2 c3 c4 c5
  clear c1 c2 c3 c5 cf h
  cases dd with
  | true =>
    go_enter Try.func43, Try.ntmps43
    go_wp2
    go_ret
    exact ⟨rfl, Drawn0.refl _⟩
  | false =>
    by_cases h1 : n < 0
    · have R : Aside0 (lookD ⟨dn, df, dc, dl, false, ds, du⟩ n = 2) := ⟨by simp [lookD, h1]⟩
      go_enter Try.func43, Try.ntmps43
      go_wp2
      go_ret
      exact ⟨by rw [R.out]; rfl, Drawn0.refl _⟩
    · by_cases h2 : dn ≤ n
      · have R : Aside0 (lookD ⟨dn, df, dc, dl, false, ds, du⟩ n = 2) := ⟨by simp [lookD, h2]⟩
        go_enter Try.func43, Try.ntmps43
        go_wp2
        go_ret
        exact ⟨by rw [R.out]; rfl, Drawn0.refl _⟩
      · have R : Aside0 (lookD ⟨dn, df, dc, dl, false, ds, du⟩ n = 0) := ⟨by simp [lookD, h1, h2]⟩
        go_enter Try.func43, Try.ntmps43
        go_wp2
        go_ret
        exact ⟨by rw [R.out]; rfl, Drawn0.refl _⟩

/-- A step: false, and the power fails; or true, and it is counted. -/
def stepD (D : DS) : Bool × DS := if D.left = 0 then (false, { D with down := true }) else (true, { D with left := if 0 < D.left then D.left - 1 else D.left, steps := D.steps + 1 })

set_option maxHeartbeats 1000000 in
theorem step_calls (g : Nat) (B : Nat → Prop) (D : DS) (w : World) (h : IsDisk w B g D) (hs : -1 ≤ D.steps ∧ D.steps < 9223372036854775807) (hl : D.left ≤ 9223372036854775807) :
    Calls Try.prog 44 #[.pointer (some ⟨g, 0, none⟩)] w fun e w' => e = .returned (.bool (stepD D).1) ∧ IsDisk w' B g (stepD D).2 ∧ Fr B w w' := by
  obtain ⟨m, cv, c0, c1, c2, c3, c4, c5, cf, hlt, _, _, _, _, _⟩ := h.cells
  obtain ⟨dn, df, dc, dl, dd, ds, du⟩ := D
  dsimp only at c0 c1 c2 c3 c4 c5 hs hl
  have H := Aside0.mk h
  have f3 := cf 3
  have f4 := cf 4
  have f5 := cf 5
  clear c0 c1 c2 cf h
  obtain ⟨hs1, hs2⟩ := hs
  by_cases h0 : dl = 0
  · subst h0
    go_enter Try.func44, Try.ntmps44
    go_wp2
    go_ret
    have p := H.out.put4 true
    exact ⟨rfl, p.1, p.2⟩
  · by_cases h1 : 0 < dl
    · have R : Aside0 (stepD ⟨dn, df, dc, dl, dd, ds, du⟩ = (true, ⟨dn, df, dc, dl - 1, dd, ds + 1, du⟩)) := ⟨by simp [stepD, h0, h1]⟩
      go_enter Try.func44, Try.ntmps44
      go_wp2
      go_ret
      have p := H.out.put3 (dl - 1)
      have q := p.1.put5 (ds + 1)
      rw [R.out]
      exact ⟨rfl, q.1, p.2.trans q.2 (fun _ h => .inl h)⟩
    · have R : Aside0 (stepD ⟨dn, df, dc, dl, dd, ds, du⟩ = (true, ⟨dn, df, dc, dl, dd, ds + 1, du⟩)) := ⟨by simp [stepD, h0, h1]⟩
      go_enter Try.func44, Try.ntmps44
      go_wp2
      go_ret
      have q := H.out.put5 (ds + 1)
      rw [R.out]
      exact ⟨rfl, q.1, q.2⟩

set_option maxHeartbeats 1000000 in
theorem arm_calls (g : Nat) (B : Nat → Prop) (D : DS) (n : Int) (w : World) (h : IsDisk w B g D) :
    Calls Try.prog 16 #[.pointer (some ⟨g, 0, none⟩), .int .i64 n] w fun e w' => e = .returned (.tuple #[]) ∧ IsDisk w' B g { D with left := if n < -1 then -1 else n } ∧ Fr B w w' := by
  obtain ⟨m, cv, c0, c1, c2, c3, c4, c5, cf, hlt, _, _, _, _, _⟩ := h.cells
  have H := Aside0.mk h
  have f3 := cf 3
  clear c0 c1 c2 c4 c5 cf h
  rcases Int.lt_trichotomy n (-1) with h1 | rfl | h1
  · go_enter Try.func16, Try.ntmps16
    go_wp2
    go_end0
    have p := H.out.put3 (-1)
    exact ⟨rfl, p.1, p.2⟩
  · go_enter Try.func16, Try.ntmps16
    go_wp2
    all_goals
      go_end0
      have p := H.out.put3 (-1)
      exact ⟨rfl, p.1, p.2⟩
  · have h2 : ¬ n < -1 := by omega
    have h3 : -1 ≤ n := by omega
    have h4 : ¬ n ≤ -1 := by omega
    go_enter Try.func16, Try.ntmps16
    go_wp2
    go_end0
    have p := H.out.put3 n
    exact ⟨rfl, p.1, p.2⟩

/-- A new disk. -/
def newD (n : Int) : DS := ⟨n, fun _ => zeros64, [], -1, false, 0, 0⟩
theorem newD_is (n : Int) (w : World) : IsDisk ((w.alloc (.map #[] 0)).alloc (.cells #[.int .i64 n, .map (some w.heap.size), .slice none 0 0, .int .i64 (-1), .bool false, .int .i64 0] 88)) (fun k => w.heap.size ≤ k ∧ k < w.heap.size + 2) (w.heap.size + 1) (newD n) := by
  have hm : ((w.alloc (.map #[] 0)).alloc (.cells #[.int .i64 n, .map (some w.heap.size), .slice none 0 0, .int .i64 (-1), .bool false, .int .i64 0] 88)).heap[w.heap.size]? = some (.map #[] 0) := heap_alloc2_old _ _ _
  refine ⟨w.heap.size, .slice none 0 0, heap_alloc2_new _ _ _, ⟨by omega, by omega⟩, ⟨by omega, by omega⟩, (fun k e => by cases e), ?_, ⟨rfl, .inl ⟨rfl, rfl⟩⟩, (fun p hp => by cases hp), fun i => rfl, fun k hk => by simp; omega⟩
  have ho := (World.ownsMap_made (H := Value) w Try.prog 3 asIs).alloc (.cells #[.int .i64 n, .map (some w.heap.size), .slice none 0 0, .int .i64 (-1), .bool false, .int .i64 0] 88)
  exact ⟨.map [], ho, ⟨_, rfl⟩, fun i => rfl⟩
set_option maxHeartbeats 1000000 in
theorem new_calls (n : Int) (w : World) (h1 : 1 ≤ n) (h2 : n ≤ 4096) :
    Calls Try.prog 13 #[.int .i64 n] w fun e w' => ∃ g, e = .returned (.tuple #[.pointer (some ⟨g, 0, none⟩), .int .i64 0]) ∧ (∃ B, IsDisk w' B g (newD n) ∧ ∀ k, B k → w.heap.size ≤ k) ∧ Below w.heap.size w w' := by
  have hmm := @run_makeMap Try.prog
  go_enter Try.func13, Try.ntmps13
  go_wp2
  go_ret2
  exact ⟨w.heap.size + 1, rfl, ⟨_, newD_is n w, fun k hk => hk.1⟩, ((Below.refl _ _).alloc (Nat.le_refl _) _).alloc (by simp) _⟩
theorem new_bad (n : Int) (w : World) (h1 : ¬ (1 ≤ n ∧ n ≤ 4096)) :
    Calls Try.prog 13 #[.int .i64 n] w fun e w' => e = .returned (.tuple #[.pointer none, .int .i64 2]) ∧ Below w.heap.size w w' := by
  have hmm := @run_makeMap Try.prog
  by_cases h2 : 1 ≤ n
  · have h3 : 4096 < n := by omega
    go_enter Try.func13, Try.ntmps13
    go_wp2
    go_ret2
    exact ⟨rfl, Below.refl _ _⟩
  · have h3 : n < 1 := by omega
    go_enter Try.func13, Try.ntmps13
    go_wp2
    go_ret2
    exact ⟨rfl, Below.refl _ _⟩
end Go.Proofs.Ytppgbfkhiofjiaa.X

namespace Go.Proofs.Ytppgbfkhiofjiaa.X
open Go.RowKit Go.Proofs.YtppgbfkhiofjiaaW.PrintWords Go.Proofs.YtppgbfkhiofjiaaW.PrintLast Go.Proofs.YtppgbfkhiofjiaaW.PrintMore
set_option linter.unusedVariables false
set_option linter.unusedSimpArgs false

theorem info93 : (Try.prog.info? 93).map (fun i => (i.zero, i.size, i.bytes)) = some (some (.agg (Value.int .i64 0 :: List.replicate 64 (Value.int .u8 0)).toArray), 65, 72) := by kernel_rfl
theorem info91 : (Try.prog.info? 91).map (·.size) = some 64 := by kernel_rfl

/-- Cells laid one behind the other. -/
theorem lay_cells (off : Nat) : ∀ (vs : List Value) (k : Nat) (cs : Array Value), off + k + vs.length ≤ cs.size →
    ((vs.zipIdx k).foldl (fun cs (x : Value × Nat) => cs.setIfInBounds (off + x.2) x.1) cs).toList = cs.toList.take (off + k) ++ vs ++ cs.toList.drop (off + k + vs.length)
  | [], k, cs, h => by simp
  | v :: vs, k, cs, h => by
    have ih := lay_cells off vs (k + 1) (cs.setIfInBounds (off + k) v) (by simp at h ⊢; omega)
    rw [List.zipIdx_cons, List.foldl_cons, ih]
    have hl : off + k < cs.toList.length := by simp at h ⊢; omega
    rw [Array.toList_setIfInBounds, List.take_set, List.drop_set_of_lt (by omega), show off + (k + 1) = off + k + 1 by omega, List.take_add_one, List.getElem?_eq_getElem hl]
    simp only [Option.toList, List.length_cons]
    rw [List.set_append_right _ _ (by rw [List.length_take]; omega), List.length_take, show off + k - min (off + k) cs.toList.length = 0 by omega, List.set_cons_zero, List.append_assoc, List.append_assoc, show off + k + 1 + vs.length = off + k + (vs.length + 1) by omega]
    simp
theorem zero93 (w : World) : (zeroValue 93).run Try.prog w = .ok (.agg (Value.int .i64 0 :: List.replicate 64 (Value.int .u8 0)).toArray) w := by kernel_rfl
theorem places93 (w : World) : (Array.mapM (m := Sem) (fun (f : Field) => do pure (f.offset, ← sizeOf f.type)) #[({ name := "n", type := 3, offset := 0, embedded := false, tag := "", pkgPath := "redline/disk", byteOffset := 0 } : Field), { name := "b", type := 91, offset := 1, embedded := false, tag := "", pkgPath := "redline/disk", byteOffset := 8 }]).run Try.prog w = .ok #[(0, 1), (1, 64)] w := by kernel_rfl
theorem fill_cons {place : Nat → Option (Nat × Nat)} {cells : Array Value} {i : Nat} {v : Value} {rest : List (Nat × Value)} {off size : Nat} (hp : place i = some (off, size)) (h1 : v.cells.size = size) (h2 : off + size ≤ cells.size) :
    Instr.fill place cells ((i, v) :: rest) = Instr.fill place (v.cells.zipIdx.foldl (fun cs (c, j) => cs.setIfInBounds (off + j) c) cells) rest := by
  rw [Instr.fill, hp]
  simp only [h1]
  rw [if_neg (by simp; omega)]
theorem fill_nil {place : Nat → Option (Nat × Nat)} {cells : Array Value} : Instr.fill place cells [] = some cells := by rw [Instr.fill]
theorem lay_array (off : Nat) (vs : List Value) (cs : Array Value) (h : off + vs.length ≤ cs.size) :
    (vs.toArray.zipIdx.foldl (fun cs (x : Value × Nat) => cs.setIfInBounds (off + x.2) x.1) cs).toList = cs.toList.take off ++ vs ++ cs.toList.drop (off + vs.length) := by
  have := lay_cells off vs 0 cs (by omega)
  rw [← Array.foldl_toList, Array.toList_zipIdx, List.toList_toArray]
  simpa using this
theorem fold_build (n : Int) (b : List Int) (hb : b.length = 64) : List.foldl (fun cs x => cs.setIfInBounds (1 + x.snd) x.fst) (Try.zeroCells93.setIfInBounds 0 (Value.int IntKind.i64 n)) (nums IntKind.u8 b).zipIdx = (encP (n, b)).toArray := by
  have hn : (nums .u8 b).length = 64 := by rw [nums_length, hb]
  have hz : (Try.zeroCells93.setIfInBounds 0 (Value.int IntKind.i64 n)).toList = Value.int .i64 n :: List.replicate 64 (Value.int .u8 0) := by rfl
  have h := lay_cells 1 (nums .u8 b) 0 (Try.zeroCells93.setIfInBounds 0 (Value.int IntKind.i64 n)) (by rw [← Array.length_toList, hz]; simp [hn])
  apply Array.toList_inj.1
  rw [h, hz]
  simp [encP, hn]
theorem fold_slice (c : List Value) (hc : c.length = 65) (z : Array Value) (hz : z.size = 65) : List.foldl (fun cs x => cs.setIfInBounds x.snd x.fst) z c.zipIdx = c.toArray := by
  have h := lay_cells 0 c 0 z (by omega)
  apply Array.toList_inj.1
  simp only [Nat.zero_add] at h
  rw [h]
  simp [hc, hz]

theorem one_encP (p : Int × List Int) : ∀ u ∈ encP p, u.oneCell' = true := by
  intro u hu
  rcases List.mem_cons.1 hu with rfl | hu
  · rfl
  · obtain ⟨x, _, rfl⟩ := List.mem_map.1 hu
    rfl
/-- The row of pending writes is not the disk's own block. -/
theorem IsDisk.row_ne {w : World} {B : Nat → Prop} {g : Nat} {D : DS} (h : IsDisk w B g D) {cv : Value} (hc : w.cell? ⟨g, 2, none⟩ = some cv) (ho : w.ownsRow 0 93 65 cv D.c.length (encC D.c)) : cv.ownBlock ≠ some g := by
  obtain ⟨m, cv', h1, _⟩ := h
  intro e
  rcases ho.2 with ⟨rfl, _⟩ | ⟨g', cap, cur, rfl, _, hb, _⟩
  · cases e
  · injection e with e
    subst e
    rw [h1] at hb
    injection hb with hb
    injection hb with _ hb
    cases hb

theorem World.rangeAt_setCell_far {w : World} {b o : Nat} {cs : List Value} (h : w.rangeAt b o cs) (a : Addr) (v : Value) (hne : b ≠ a.block) : (w.setCell a v).rangeAt b o cs := fun j u hj => by
  rw [World.cell?_of_block (w := w) (a := ⟨b, o + j, none⟩) (Below.heap_setCell w a v b hne)]
  exact h j u hj

/-- What Write comes to. -/
def writeD (D : DS) (n : Int) (b : List Int) : Int × DS :=
  if lookD D n = 0 then (if b.length = 64 then (if (stepD D).1 = true then (0, { (stepD D).2 with c := (stepD D).2.c ++ [(n, b)] }) else (230, (stepD D).2)) else (6, D)) else (lookD D n, D)

/-- A row of bytes that is read, as a range of cells. -/
theorem bytes_range {w : World} {A : Option Addr} {l : List Int} (h : Kd.C (Kd.int .u8) w A l.length l) (h0 : 0 < l.length) : ∃ bk o, A = some ⟨bk, o, none⟩ ∧ w.rangeAt bk o (nums .u8 l) := by
  obtain ⟨ad, e, hx⟩ := Kd.at_int h 0 (by omega) (by omega)
  have hs : ad.spot = none := by
    rw [show ad.add ((0 : Int).toNat) = ad from by simp [Addr.add]] at hx
    unfold World.cell? at hx
    split at hx
    · split at hx
      · cases hx
      · rename_i hsp
        simpa using hsp
    · cases hx
  obtain ⟨bk, o, sp⟩ := ad
  dsimp only at hs
  subst hs
  refine ⟨bk, o, e, fun j v hj => ?_⟩
  have hj1 : j < l.length := by simpa [nums] using (List.getElem?_eq_some_iff.1 hj).1
  obtain ⟨ad', e', hy⟩ := Kd.at_int h (j : Int) (by omega) (by omega)
  rw [e] at e'
  injection e' with e'
  subst e'
  rw [Int.toNat_natCast, Addr.add_mid] at hy
  rw [hy]
  simp only [nums, List.getElem?_map, List.getElem?_eq_getElem hj1, Option.map_some] at hj
  rw [← hj]
  simp [rd, List.getD_eq_getElem?_getD, List.getElem?_eq_getElem hj1]

theorem write_end {w w2 w3 : World} {B : Nat → Prop} {g gg cap nq : Nat} {D2 : DS} {cv : Value} {ec : List Value} {k : Int} {b : List Int} (hD : IsDisk w2 B g D2) (hF : Fr B (w.drewN nq) w2) (ob : ∀ k, cv.ownBlock = some k → B k)
    (hc2 : w2.cell? ⟨g, 2, none⟩ = some cv) (ag : cv.ownBlock ≠ some g)
    (hown : w3.ownsRow 0 93 65 (.slice (some ⟨gg, 0, none⟩) (D2.c.length + 1) cap) (D2.c.length + 1) (encC D2.c ++ ec)) (hg : ((w2.alloc (.cells ec.toArray 93)).drew).grownBy w3 cv.ownBlock) (hat : cv.ownBlock = some gg ∨ gg = w2.heap.size + 1) (hlt : gg < w3.heap.size)
    (he : encC (D2.c ++ [(k, b)]) = encC D2.c ++ ec) (hb : b.length = 64) (hk : (Lit.int .i64 k).wf = true) :
    (∃ B', IsDisk (w3.setCell ⟨g, 2, none⟩ (.slice (some ⟨gg, 0, none⟩) (D2.c.length + 1) cap)) B' g { D2 with c := D2.c ++ [(k, b)] } ∧ ∀ k, B' k → B k ∨ w.heap.size ≤ k) ∧
      Fr B w (w3.setCell ⟨g, 2, none⟩ (.slice (some ⟨gg, 0, none⟩) (D2.c.length + 1) cap)) := by
  have hsz : w.heap.size ≤ w2.heap.size := hF.size
  obtain ⟨m, cv', h1, h2, h3, h4, h5, h6, h7, h8, h9⟩ := hD
  have hcv : cv' = cv := by
    rw [cell_of_row w2 g 2 _ 88 (0, 0) h1] at hc2
    simpa using hc2
  subst hcv
  have hgl : g < w2.heap.size := h9 g h2
  have hml : m < w2.heap.size := h9 m h3
  have old : ∀ i, i < w2.heap.size → cv'.ownBlock ≠ some i → w3.heap[i]? = w2.heap[i]? := fun i hi hn => by
    rw [hg.block i (by simp; omega) (fun e => hn e.symm)]
    exact Below.heap_alloc _ _ _ hi
  have e1 := (old g hgl ag).trans h1
  have hmn : cv'.ownBlock ≠ some m := by
    intro e
    obtain ⟨_, ⟨es, clock, hb', _⟩, _⟩ := h5
    rcases h6.2 with ⟨rfl, _⟩ | ⟨g', cap', cur, rfl, _, hb2, _⟩
    · cases e
    · injection e with e
      subst e
      rw [hb'] at hb2
      cases hb2
  have hmg : m ≠ g := by
    rintro rfl
    obtain ⟨_, ⟨es, clock, hb', _⟩, _⟩ := h5
    rw [h1] at hb'
    cases hb'
  have hgg : gg ≠ g := by
    rintro rfl
    rcases hown.2 with ⟨e, _⟩ | ⟨g', cap', cur, e, _, hb2, _⟩
    · cases e
    · injection e with e
      injection e with e
      injection e with e
      subst e
      rw [e1] at hb2
      injection hb2 with hb2
      injection hb2 with _ hb2
      cases hb2
  refine ⟨⟨fun i => B i ∨ i = gg, ⟨m, .slice (some ⟨gg, 0, none⟩) (D2.c.length + 1) cap, by rw [heap_setCell_same w3 g 2 _ 88 _ e1]; rfl, .inl h2, .inl h3, fun i e => .inr (by injection e with e; exact e.symm),
      (h5.kept (old m hml hmn)).kept (heap_setCell_other w3 _ m _ hmg), ?_, ?_, h8, fun i hi => ?_⟩, fun i hi => ?_⟩, ?_⟩
  · show (w3.setCell _ _).ownsRow 0 93 65 _ (D2.c ++ [(k, b)]).length (encC (D2.c ++ [(k, b)]))
    rw [List.length_append, he]
    exact ownsRow_kept hown (fun i e => heap_setCell_other w3 _ i _ (by injection e with e; rintro rfl; exact hgg e))
  · intro p hp
    rcases List.mem_append.1 hp with hp | hp
    · exact h7 p hp
    · rw [List.mem_singleton.1 hp]
      exact ⟨hb, hk⟩
  · have : w2.heap.size ≤ w3.heap.size := Nat.le_trans (by simp) hg.size
    rcases hi with hi | rfl
    · have := h9 i hi
      simp [World.setCell]
      omega
    · simpa [World.setCell] using hlt
  · rcases hi with hi | rfl
    · exact .inl hi
    · rcases hat with e | e
      · exact .inl (ob _ e)
      · exact .inr (by omega)
  · have f1 : Fr B w ((w2.alloc (.cells ec.toArray 93)).drew) := (hF.drewN'.alloc _).drew
    exact (f1.grown hg (fun i e => .inl (ob i e))).setCell (.inl h2) _

set_option maxHeartbeats 4000000 in
set_option maxRecDepth 100000 in
theorem write_calls (g : Nat) (B : Nat → Prop) (D : DS) (n : Int) (A : Option Addr) (cp : Nat) (b : List Int) (w : World) (h : IsDisk w B g D) (hs : -1 ≤ D.steps ∧ D.steps < 9223372036854775807) (hl : D.left ≤ 9223372036854775807)
    (hwf : (Lit.int .i64 n).wf = true) (hc : D.c.length ≤ 1000000) (hb : Kd.C (Kd.int .u8) w A b.length b) (hcap : b.length ≤ cp) (hdis : ∀ ad, A = some ad → 0 < b.length → ¬ B ad.block) :
    Calls Try.prog 14 #[.pointer (some ⟨g, 0, none⟩), .int .i64 n, .slice A b.length cp] w fun e w' => e = .returned (.int .i64 (writeD D n b).1) ∧ (∃ B', IsDisk w' B' g (writeD D n b).2 ∧ ∀ k, B' k → B k ∨ w.heap.size ≤ k) ∧ Fr B w w' := by
  have H := Aside0.mk h
  have HB := Aside0.mk hb
  have HD := Aside0.mk hdis
  have HWF := Aside0.mk hwf
  clear h hb hdis hwf
  by_cases h1 : lookD D n = 0
  rotate_left
  · have R : Aside0 (writeD D n b = (lookD D n, D)) := ⟨by unfold writeD; rw [if_neg h1]⟩
    have LK := Aside0.mk (look_calls g B D n w H.out)
    obtain ⟨e0, he0⟩ : ∃ e0, lookD D n = e0 := ⟨_, rfl⟩
    rw [he0] at h1 R LK
    have h1b : (e0 != 0) = true := by simpa using h1
    clear he0
    go_enter Try.func14, Try.ntmps14
    go_wp2_with fail
    refine LK.out.mono ?_
    rintro e w' ⟨rfl, ⟨nq, rfl⟩⟩
    go_wp2
    go_ret
    rw [R.out]
    exact ⟨rfl, ⟨B, H.out.drewN _, fun k hk => .inl hk⟩, (Fr.refl _ _).drewN _⟩
  · have LK := Aside0.mk (look_calls g B D n w H.out)
    rw [h1] at LK
    by_cases h2 : b.length = 64
    rotate_left
    · have R : Aside0 (writeD D n b = (6, D)) := ⟨by unfold writeD; rw [if_pos h1, if_neg h2]⟩
      have h2b : ((b.length : Int) != 64) = true := by simp; omega
      clear h1
      go_enter Try.func14, Try.ntmps14
      go_wp2_with fail
      refine LK.out.mono ?_
      rintro e w' ⟨rfl, ⟨nq, rfl⟩⟩
      go_wp2
      go_ret
      rw [R.out]
      exact ⟨rfl, ⟨B, H.out.drewN _, fun k hk => .inl hk⟩, (Fr.refl _ _).drewN _⟩
    · have ST := fun (w' : World) (h' : IsDisk w' B g D) => step_calls g B D w' h' hs hl
      have ST := Aside0.mk ST
      obtain ⟨ok, hok⟩ : ∃ ok, (stepD D).1 = ok := ⟨_, rfl⟩
      have R : Aside0 (writeD D n b = if ok = true then (0, { (stepD D).2 with c := (stepD D).2.c ++ [(n, b)] }) else (230, (stepD D).2)) := ⟨by unfold writeD; rw [if_pos h1, if_pos h2, hok]⟩
      have hDc : Aside0 ((stepD D).2.c = D.c) := ⟨by unfold stepD; split <;> rfl⟩
      rw [hok] at ST
      rw [h2] at HB
      generalize (stepD D).2 = D2 at *
      clear h1 hok
      rw [h2]
      cases ok with
      | false =>
        clear hs hl hc hcap
        have h2' := Aside0.mk h2
        clear h2
        go_enter Try.func14, Try.ntmps14
        go_wp2_with fail
        refine LK.out.mono ?_
        rintro e w' ⟨rfl, ⟨nq, rfl⟩⟩
        go_wp2_with fail
        refine (ST.out _ (H.out.drewN _)).mono ?_
        rintro e w2 ⟨rfl, hd2, hf2⟩
        have HD2 := Aside0.mk hd2
        have HF2 := Aside0.mk hf2
        clear hd2 hf2
        go_wp2
        go_ret
        rw [R.out]
        exact ⟨rfl, ⟨B, HD2.out, fun k hk => .inl hk⟩, HF2.out.drewN'⟩
      | true =>
        have hlen := Aside0.mk h2
        clear hs hl hcap
        go_enter Try.func14, Try.ntmps14
        go_wp2_with fail
        refine LK.out.mono ?_
        rintro e w' ⟨rfl, ⟨nq, rfl⟩⟩
        go_wp2_with fail
        refine (ST.out _ (H.out.drewN _)).mono ?_
        rintro e w2 ⟨rfl, hd2, hf2⟩
        have HD2 := Aside0.mk hd2
        have HF2 := Aside0.mk hf2
        clear hd2 hf2
        obtain ⟨m, cv, c0, c1, c2, c3, c4, c5, cf, hlt, im, own, ob, bm, bg⟩ := HD2.out.cells
        obtain ⟨bk, o, rfl, hr⟩ := bytes_range (h2.symm ▸ HB.out) (by omega)
        have hr2 : w2.rangeAt bk o (nums .u8 b) := fun j v hj => by
          have q := hr j v hj
          exact (World.cell?_of_block (w := w) (HF2.out.keep bk (World.block_lt_of_cell? w _ q) (HD.out _ rfl (by omega)))).trans q
        have fz := cf 2
        have OWN := Aside0.mk own
        have OB := Aside0.mk ob
        have hb0 : (nums .u8 b).length = 64 := by rw [nums_length, h2]
        have hb1 := fold_build n b h2
        have u91 := Try.underlying91
        have i91 : (Try.prog.info? 91).map (·.size) = some (nums .u8 b).length := by rw [nums_length, h2]; exact info91
        have ag := HD2.out.row_ne c2 own
        have bkg : bk ≠ g := fun e => HD.out _ rfl (by omega) (e ▸ bg)
        have ab : cv.ownBlock ≠ some bk := fun e => HD.out _ rfl (by omega) (ob _ e)
        have bkl : bk < w2.heap.size := World.block_lt_of_cell? w2 _ (hr2 0 (.int .u8 (rd b 0)) (by simp [nums, rd, List.getD_eq_getElem?_getD, h2]))
        obtain ⟨i0, hi0, hz0, hz1, hz2⟩ := info_parts info93
        have harr : ∀ w, (Instr.arrayAt 91 (.slice (some ⟨bk, o, none⟩) 64 cp)).run Try.prog w = .ok (.pointer (some ⟨bk, o, none⟩)) w := fun w => by kernel_rfl
        have hcl : D2.c.length ≤ 1000000 := by rw [hDc.out]; exact hc
        have HOK := one_encP (n, b)
        have HLE := encP_length (p := (n, b)) h2
        have HEC := Aside0.mk (show encC (D2.c ++ [(n, b)]) = encC D2.c ++ encP (n, b) by rw [encC_append]; simp [encC])
        generalize encP (n, b) = ec at *
        have hb2 := fold_slice ec HLE
        replace HOK := Aside0.mk HOK
        clear c0 c1 c3 c4 c5 cf im bm bg own ob hr h2 hc
        go_wp2_with fail
        have c2d : w2.drew.cell? ⟨g, 2, none⟩ = some cv := c2
        have c2a : (w2.alloc (.cells ec.toArray 93)).drew.cell? ⟨g, 2, none⟩ = some cv := (World.cell?_alloc_lt _ _ _ hlt).trans c2
        have fza : (w2.alloc (.cells ec.toArray 93)).drew.frozen? ⟨g, 2, none⟩ = false := (World.frozen?_alloc_past _ _ _ hlt).trans fz
        have C2A := Aside0.mk c2a
        have C2 := Aside0.mk c2
        have FZA := Aside0.mk fza
        refine wp_region_noPanic ?_
        refine wp_region_held_drew (S := fun w' => w'.rangeAt bk o (nums .u8 b)) (by kernel_rfl) hr2 (fun hHeld => ?_)
        refine wpAnyH_take (i := 0) (oi := _) (v := (.pointer (some ⟨g, 0, none⟩))) rfl (by kernel_rfl) (by kernel_rfl) (by kernel_rfl) (fun _ _ _ h => h) (Or.inl ⟨by rfl, fun w5 hw5 => by go_simp⟩) hHeld ?_
        simp only [Act.put, List.setIfInBounds_toArray, List.set_cons_zero, List.set_cons_succ]
        refine wpAnyH_take (i := 1) (oi := _) (v := (.pointer (some ⟨g, 0, none⟩))) rfl (by kernel_rfl) (by kernel_rfl) (by kernel_rfl) (fun _ _ _ h => h) (Or.inl ⟨by rfl, fun w5 hw5 => by go_simp⟩) hHeld ?_
        simp only [Act.put, List.setIfInBounds_toArray, List.set_cons_zero, List.set_cons_succ]
        refine wpAnyH_take (i := 2) (oi := _) (v := (.pointer (some ⟨g, 0, none⟩))) rfl (by kernel_rfl) (by kernel_rfl) (by kernel_rfl) (fun _ _ _ h => h) (Or.inl ⟨by rfl, fun w5 hw5 => by go_simp⟩) hHeld ?_
        simp only [Act.put, List.setIfInBounds_toArray, List.set_cons_zero, List.set_cons_succ]
        refine wpAnyH_take (i := 3) (oi := _) (v := (.pointer (some ⟨g, 2, none⟩))) rfl (by kernel_rfl) (by kernel_rfl) (by kernel_rfl) (fun _ _ _ h => h) (Or.inl ⟨by rfl, fun w5 hw5 => by go_simp⟩) hHeld ?_
        simp only [Act.put, List.setIfInBounds_toArray, List.set_cons_zero, List.set_cons_succ]
        refine wpAnyH_take (i := 5) (oi := _) (v := (.int .i64 n)) rfl (by kernel_rfl) (by kernel_rfl) (by kernel_rfl) (fun _ _ _ h => h) (Or.inl ⟨by rfl, fun w5 hw5 => by go_simp⟩) hHeld ?_
        simp only [Act.put, List.setIfInBounds_toArray, List.set_cons_zero, List.set_cons_succ]
        refine wpAnyH_take (i := 6) (oi := _) (v := (.slice (some ⟨bk, o, none⟩) 64 cp)) rfl (by kernel_rfl) (by kernel_rfl) (by kernel_rfl) (fun _ _ _ h => h) (Or.inl ⟨by rfl, fun w5 hw5 => by go_simp⟩) hHeld ?_
        simp only [Act.put, List.setIfInBounds_toArray, List.set_cons_zero, List.set_cons_succ]
        refine wpAnyH_take (i := 7) (oi := _) (v := (.pointer (some ⟨bk, o, none⟩))) rfl (by kernel_rfl) (by kernel_rfl) (by kernel_rfl) (fun _ _ _ h => h) (Or.inl ⟨by rfl, fun w5 hw5 => by go_simp⟩) hHeld ?_
        simp only [Act.put, List.setIfInBounds_toArray, List.set_cons_zero, List.set_cons_succ]
        refine wpAnyH_take (i := 8) (oi := _) (v := .agg (nums .u8 b).toArray) rfl (by kernel_rfl) (by kernel_rfl) (by kernel_rfl) (fun _ _ _ h => h) (yieldsIf_load_mid (by rfl) _ _ rfl bk o rfl (nums .u8 b) _ (fun _ h => h) u91 rfl i91) hHeld ?_
        simp only [Act.put, List.setIfInBounds_toArray, List.set_cons_zero, List.set_cons_succ]
        refine wpAnyH_take (i := 9) (oi := _) (v := (.agg ec.toArray)) rfl (by kernel_rfl) (by kernel_rfl) (by kernel_rfl) (fun _ _ _ h => h) (Or.inl ⟨by rfl, fun w5 hw5 => by go_simp⟩) hHeld ?_
        simp only [Act.put, List.setIfInBounds_toArray, List.set_cons_zero, List.set_cons_succ]
        refine wpAnyH_ready (rs := [4, 10]) (by kernel_rfl) (by simp) ?_
        refine AllReadyH.cons rfl (fun K hK => ?_) (AllReadyH.cons rfl (fun K hK => ?_) AllReadyH.nil)
        · go_simp
          refine hK.out _ _ hHeld (fun hHeld => ?_)
          clear hK K
          try simp only [Act.put, List.setIfInBounds_toArray, List.set_cons_zero, List.set_cons_succ]
          refine wpAnyH_ready (rs := [10]) (by kernel_rfl) (by simp) ?_
          refine AllReadyH.cons rfl (fun K hK => ?_) AllReadyH.nil
          go_simp
          refine hK.out _ _ ((World.rangeAt_drew _ _ _ _).2 (World.rangeAt_alloc hHeld _)) (fun hHeld => ?_)
          clear hK K
          try simp only [Act.put, List.setIfInBounds_toArray, List.set_cons_zero, List.set_cons_succ]
          refine wpAnyH_ready (rs := [11]) (by kernel_rfl) (by simp) ?_
          refine AllReadyH.cons rfl (fun K hK => ?_) AllReadyH.nil
          refine step_append_lies _ (by rfl) _ _ _ (by rfl) 0 93 i0 _ 65 72 Try.underlying86 hi0 hz0 hz1 hz2 rfl (by omega) cv D2.c.length (encC D2.c) (by rfl) ((OWN.out.alloc _).drew)
              ⟨w2.heap.size, 0, none⟩ 1 1 ec (by rfl) (by rw [HLE]) (World.news_of_block (cs := ec.toArray) (t := 93) (fr := (0, 0)) (heap_alloc_new _ _)) HOK.out
              (by omega) (by unfold maxLen; omega) (by omega) (by omega) (w2.heap.size + 1) (by simp) ?_
          intro gg cap w3 hown1 hgrow hat hlt2
          have c23 : w3.cell? ⟨g, 2, none⟩ = some cv := (hgrow.cell_far _ (by simp; omega) (Ne.symm ag)).trans C2A.out
          have fz3 : w3.frozen? ⟨g, 2, none⟩ = false := (hgrow.frozen_far _ (by simp; omega) (Ne.symm ag)).trans FZA.out
          have hr3 : w3.rangeAt bk o (nums .u8 b) := fun j v hj => (hgrow.cell_far _ (by simp; omega) (Ne.symm ab)).trans (hHeld j v hj)
          have HOWN := Aside0.mk hown1
          have HGR := Aside0.mk hgrow
          have HAT := Aside0.mk hat
          have HLT := Aside0.mk hlt2
          clear hown1 hgrow hat hlt2
          refine hK.out _ _ hr3 (fun hHeld => ?_)
          clear hK K
          try simp only [Act.put, List.setIfInBounds_toArray, List.set_cons_zero, List.set_cons_succ]
          refine wpAnyH_take (i := 12) (oi := _) (v := (.pointer (some ⟨g, 0, none⟩))) rfl (by kernel_rfl) (by kernel_rfl) (by kernel_rfl) (fun _ _ _ h => h) (Or.inl ⟨by rfl, fun w5 hw5 => by go_simp⟩) hHeld ?_
          try simp only [Act.put, List.setIfInBounds_toArray, List.set_cons_zero, List.set_cons_succ]
          refine wpAnyH_take (i := 13) (oi := _) (v := (.pointer (some ⟨g, 2, none⟩))) rfl (by kernel_rfl) (by kernel_rfl) (by kernel_rfl) (fun _ _ _ h => h) (Or.inl ⟨by rfl, fun w5 hw5 => by go_simp⟩) hHeld ?_
          try simp only [Act.put, List.setIfInBounds_toArray, List.set_cons_zero, List.set_cons_succ]
          refine wpAnyH_ready (rs := [14]) (by kernel_rfl) (by simp) ?_
          refine AllReadyH.cons rfl (fun K hK => ?_) AllReadyH.nil
          go_simp
          refine hK.out _ _ (World.rangeAt_setCell_far hHeld _ _ bkg) (fun hHeld => ?_)
          clear hK K
          try simp only [Act.put, List.setIfInBounds_toArray, List.set_cons_zero, List.set_cons_succ]
          refine wpAnyH_done (by kernel_rfl) ?_ _
          refine NoPanic.normal ?_
          go_wp2
          go_ret
          rw [R.out, if_pos trivial]
          exact ⟨rfl, write_end HD2.out HF2.out OB.out C2.out ag HOWN.out HGR.out HAT.out HLT.out HEC.out hlen.out HWF.out⟩
        · go_simp
          refine hK.out _ _ ((World.rangeAt_drew _ _ _ _).2 (World.rangeAt_alloc hHeld _)) (fun hHeld => ?_)
          clear hK K
          try simp only [Act.put, List.setIfInBounds_toArray, List.set_cons_zero, List.set_cons_succ]
          refine wpAnyH_ready (rs := [4]) (by kernel_rfl) (by simp) ?_
          refine AllReadyH.cons rfl (fun K hK => ?_) AllReadyH.nil
          go_simp
          refine hK.out _ _ hHeld (fun hHeld => ?_)
          clear hK K
          try simp only [Act.put, List.setIfInBounds_toArray, List.set_cons_zero, List.set_cons_succ]
          refine wpAnyH_ready (rs := [11]) (by kernel_rfl) (by simp) ?_
          refine AllReadyH.cons rfl (fun K hK => ?_) AllReadyH.nil
          refine step_append_lies _ (by rfl) _ _ _ (by rfl) 0 93 i0 _ 65 72 Try.underlying86 hi0 hz0 hz1 hz2 rfl (by omega) cv D2.c.length (encC D2.c) (by rfl) ((OWN.out.alloc _).drew)
              ⟨w2.heap.size, 0, none⟩ 1 1 ec (by rfl) (by rw [HLE]) (World.news_of_block (cs := ec.toArray) (t := 93) (fr := (0, 0)) (heap_alloc_new _ _)) HOK.out
              (by omega) (by unfold maxLen; omega) (by omega) (by omega) (w2.heap.size + 1) (by simp) ?_
          intro gg cap w3 hown1 hgrow hat hlt2
          have c23 : w3.cell? ⟨g, 2, none⟩ = some cv := (hgrow.cell_far _ (by simp; omega) (Ne.symm ag)).trans C2A.out
          have fz3 : w3.frozen? ⟨g, 2, none⟩ = false := (hgrow.frozen_far _ (by simp; omega) (Ne.symm ag)).trans FZA.out
          have hr3 : w3.rangeAt bk o (nums .u8 b) := fun j v hj => (hgrow.cell_far _ (by simp; omega) (Ne.symm ab)).trans (hHeld j v hj)
          have HOWN := Aside0.mk hown1
          have HGR := Aside0.mk hgrow
          have HAT := Aside0.mk hat
          have HLT := Aside0.mk hlt2
          clear hown1 hgrow hat hlt2
          refine hK.out _ _ hr3 (fun hHeld => ?_)
          clear hK K
          try simp only [Act.put, List.setIfInBounds_toArray, List.set_cons_zero, List.set_cons_succ]
          refine wpAnyH_take (i := 12) (oi := _) (v := (.pointer (some ⟨g, 0, none⟩))) rfl (by kernel_rfl) (by kernel_rfl) (by kernel_rfl) (fun _ _ _ h => h) (Or.inl ⟨by rfl, fun w5 hw5 => by go_simp⟩) hHeld ?_
          try simp only [Act.put, List.setIfInBounds_toArray, List.set_cons_zero, List.set_cons_succ]
          refine wpAnyH_take (i := 13) (oi := _) (v := (.pointer (some ⟨g, 2, none⟩))) rfl (by kernel_rfl) (by kernel_rfl) (by kernel_rfl) (fun _ _ _ h => h) (Or.inl ⟨by rfl, fun w5 hw5 => by go_simp⟩) hHeld ?_
          try simp only [Act.put, List.setIfInBounds_toArray, List.set_cons_zero, List.set_cons_succ]
          refine wpAnyH_ready (rs := [14]) (by kernel_rfl) (by simp) ?_
          refine AllReadyH.cons rfl (fun K hK => ?_) AllReadyH.nil
          go_simp
          refine hK.out _ _ (World.rangeAt_setCell_far hHeld _ _ bkg) (fun hHeld => ?_)
          clear hK K
          try simp only [Act.put, List.setIfInBounds_toArray, List.set_cons_zero, List.set_cons_succ]
          refine wpAnyH_done (by kernel_rfl) ?_ _
          refine NoPanic.normal ?_
          go_wp2
          go_ret
          rw [R.out, if_pos trivial]
          exact ⟨rfl, write_end HD2.out HF2.out OB.out C2.out ag HOWN.out HGR.out HAT.out HLT.out HEC.out hlen.out HWF.out⟩
end Go.Proofs.Ytppgbfkhiofjiaa.X

namespace Go.Proofs.Ytppgbfkhiofjiaa.X
open Go.RowKit Go.Proofs.YtppgbfkhiofjiaaW.PrintWords Go.Proofs.YtppgbfkhiofjiaaW.PrintLast Go.Proofs.YtppgbfkhiofjiaaW.PrintMore
set_option linter.unusedVariables false
set_option linter.unusedSimpArgs false

def upd (f : Int → List Int) (n : Int) (b : List Int) : Int → List Int := fun i => if i = n then b else f i
/-- Some of the pending writes last. -/
def settleF (kp : Nat → Bool) : Nat → List (Int × List Int) → (Int → List Int) → Int → List Int
  | _, [], f => f
  | i, p :: l, f => settleF kp (i + 1) l (if kp i = true then upd f p.1 p.2 else f)
theorem settleF_drop (kp : Nat → Bool) (c : List (Int × List Int)) (i : Nat) (p : Int × List Int) (h : c[i]? = some p) (f : Int → List Int) : settleF kp i (c.drop i) f = settleF kp (i + 1) (c.drop (i + 1)) (if kp i = true then upd f p.1 p.2 else f) := by
  obtain ⟨hi, e⟩ := List.getElem?_eq_some_iff.1 h
  rw [List.drop_eq_getElem_cons hi, e]
  rfl
def settleD (kp : Nat → Bool) (D : DS) : DS := { D with f := settleF kp 0 D.c D.f, c := [], u := D.u + D.c.length }

set_option maxHeartbeats 1000000 in
theorem all_calls (i : Int) (w : World) : Calls Try.prog 46 #[.int .i64 i] w fun e w' => e = .returned (.bool true) ∧ Drawn0 w w' := by
  go_enter Try.func46, Try.ntmps46
  go_wp2
  go_ret
  exact ⟨rfl, Drawn0.refl _⟩

/-- One pending write's cells in a disk's row. -/
theorem IsDisk.at {w : World} {B : Nat → Prop} {g : Nat} {D : DS} {cv : Value} (h : IsDisk w B g D) (ho : w.ownsRow 0 93 65 cv D.c.length (encC D.c)) {i : Nat} {p : Int × List Int} (hp : D.c[i]? = some p) :
    ∃ gb cap, cv = .slice (some ⟨gb, 0, none⟩) D.c.length cap ∧ w.rangeAt gb (i * 65) (encP p) := by
  have hG : Good D.c := by obtain ⟨m, cv', _, _, _, _, _, _, h7, _⟩ := h; exact h7
  rcases ho.2 with ⟨_, hz⟩ | ⟨gb, cap, cur, e, _⟩
  · have := (List.getElem?_eq_some_iff.1 hp).1
    omega
  · refine ⟨gb, cap, e, fun j v hj => ?_⟩
    have hc := ho.cells (g := gb) (by rw [e]; rfl) (i * 65 + j) v (encC_at hG hp j v hj)
    rwa [Addr.add_mid, Nat.zero_add] at hc

/-- A sector is stored into the map. -/
theorem IsMapOf.update {w : World} {m u : Nat} {f : Int → List Int} (h : IsMapOf w m u f) (hu : u ≤ 2000000) {n : Int} (hn : (Lit.int .i64 n).wf = true) (b : List Int) :
    ∃ w', (Instr.mapUpdate 85 (.map (some m)) (.int .i64 n) (.agg (nums .u8 b).toArray)).run Try.prog w = .ok () w' ∧ IsMapOf w' m (u + 1) (upd f n b) ∧ w.grownBy w' (some m) := by
  obtain ⟨D, h1, h2, h3⟩ := h
  obtain ⟨w', e, h4, h5⟩ := h1.update (Maps.int_keyed Try.underlying3) Try.underlying85 (by unfold maxLen; omega) (key := .int .i64 n) (val := arr b) (Maps.keyOf_int_mk Try.underlying3 hn) (d := .held (arr b)) (ps := []) rfl
  refine ⟨w', e, ⟨_, h4, h2.put _ _, fun i => ?_⟩, h5⟩
  by_cases hi : i = n
  · subst hi
    rw [Maps.atKey_put_same h2 (by trivial)]
    simp [upd]
  · rw [Maps.atKey_put_other (by intro e; injection e with _ e; exact hi e), h3 i]
    simp [upd, hi]
/-- Other blocks may be counted its own. -/
theorem IsDisk.sup {w : World} {B B2 : Nat → Prop} {g : Nat} {D : DS} (h : IsDisk w B g D) (h1 : ∀ k, B k → B2 k) (h2 : ∀ k, B2 k → B k ∨ k < w.heap.size) : IsDisk w B2 g D := by
  obtain ⟨m, cv, a1, a2, a3, a4, a5, a6, a7, a8, a9⟩ := h
  exact ⟨m, cv, a1, h1 _ a2, h1 _ a3, fun k e => h1 _ (a4 k e), a5, a6, a7, a8, fun k hk => (h2 k hk).elim (a9 k) id⟩
theorem IsDisk.raise {w : World} {B : Nat → Prop} {g : Nat} {D : DS} (h : IsDisk w B g D) {u : Nat} (hu : D.u ≤ u) : IsDisk w B g { D with u := u } := by
  obtain ⟨m, cv, a1, a2, a3, a4, ⟨Dm, b1, b2, b3⟩, a6, a7, a8, a9⟩ := h
  exact ⟨m, cv, a1, a2, a3, a4, ⟨Dm, b1.mono hu, b2, b3⟩, a6, a7, a8, a9⟩
theorem IsDisk.putMap {w w' : World} {B : Nat → Prop} {g m : Nat} {D : DS} (h : IsDisk w B g D) (hc : w.cell? ⟨g, 1, none⟩ = some (.map (some m))) {f : Int → List Int} {u : Nat} (hm : IsMapOf w' m u f) (hf : ∀ i, (f i).length = 64) (hg : w.grownBy w' (some m)) :
    IsDisk w' B g { D with f := f, u := u } ∧ Fr B w w' := by
  obtain ⟨m', cv, h1, h2, h3, h4, h5, h6, h7, h8, h9⟩ := h
  have e : m' = m := by
    rw [cell_of_row w g 1 _ 88 (0, 0) h1] at hc
    simpa using hc
  subst e
  have hmg : m' ≠ g := by
    rintro rfl
    obtain ⟨_, ⟨es, clock, hb, _⟩, _⟩ := h5
    rw [h1] at hb
    cases hb
  have hcm : ∀ k, cv.ownBlock = some k → k ≠ m' := by
    rintro k e rfl
    obtain ⟨_, ⟨es, clock, hb', _⟩, _⟩ := h5
    rcases h6.2 with ⟨rfl, _⟩ | ⟨g', cap, cur, rfl, _, hb, _⟩
    · cases e
    · injection e with e
      subst e
      rw [hb'] at hb
      cases hb
  refine ⟨⟨m', cv, (hg.block g (h9 g h2) (fun e => hmg (by injection e with e; exact e.symm))).trans h1, h2, h3, h4, hm, ownsRow_kept h6 (fun k e => hg.block k (h9 k (h4 k e)) (fun e' => hcm k e (by injection e' with e'))), h7, hf, fun k hb => Nat.lt_of_lt_of_le (h9 k hb) hg.size⟩,
    (Fr.refl B w).grown hg (fun k e => .inl (by injection e with e; exact e ▸ h3))⟩

theorem Fr.setCells {B : Nat → Prop} {a : World} {bk : Nat} (hp : a.heap.size ≤ bk) : ∀ (vs : List Value) (o : Nat) (b : World), Fr B a b → Fr B a (b.setCells bk o vs)
  | [], _, _, h => h
  | v :: r, o, b, h => by
    rw [World.setCells]
    exact Fr.setCells hp r (o + 1) _ (h.setCell (.inr hp) v)
/-- A variable of many cells is made, and a value stored into it: what holds then. -/
theorem boxed {w : World} {z : Array Value} {t : TypeId} {vs : List Value} (hz : z.size = vs.length) (B : Nat → Prop) :
    Fr B w ((w.alloc (.cells z t)).setCells w.heap.size 0 vs) ∧ ((w.alloc (.cells z t)).setCells w.heap.size 0 vs).rangeAt w.heap.size 0 vs ∧ w.heap.size < ((w.alloc (.cells z t)).setCells w.heap.size 0 vs).heap.size ∧ (w.alloc (.cells z t)).there w.heap.size 0 vs.length := by
  have hb : (w.alloc (.cells z t)).heap[w.heap.size]? = some (.cells z t (0, 0)) := heap_alloc_new _ _
  have ht : (w.alloc (.cells z t)).there w.heap.size 0 vs.length := fun j hj => ⟨by
    rw [cell_of_row _ _ _ z t (0, 0) hb, Nat.zero_add, Array.getElem?_eq_getElem (by omega)]
    rfl, frozen_of_row _ _ _ z t hb⟩
  have hf := Fr.setCells (B := B) (Nat.le_refl w.heap.size) vs 0 (w.alloc (.cells z t)) ((Fr.refl B w).alloc _)
  have hf2 := Fr.setCells (B := B) (a := w.alloc (.cells z t)) (bk := (w.alloc (.cells z t)).heap.size) (Nat.le_refl _) vs 0 (w.alloc (.cells z t)) (Fr.refl B _)
  refine ⟨hf, World.rangeAt_setCells_same _ _ _ _ ht, ?_, ht⟩
  have : ∀ (vs : List Value) (o : Nat) (b : World), (b.setCells w.heap.size o vs).heap.size = b.heap.size := by
    intro vs
    induction vs with
    | nil => intro o b; rfl
    | cons v r ih => intro o b; rw [World.setCells, ih]; simp [World.setCell]
  rw [this]
  simp

set_option maxHeartbeats 4000000 in
set_option maxRecDepth 100000 in
theorem settle46 (g : Nat) (B : Nat → Prop) (D : DS) (kp : Nat → Bool) (w : World) (h : IsDisk w B g D) (hc : D.c.length ≤ 1000000) (hu : D.u ≤ 1000000)
    (hk : ∀ (w' : World) (i : Nat), i < D.c.length → Fr B w w' → Calls Try.prog 46 #[.int .i64 (i : Int)] w' fun e w'' => e = .returned (.bool (kp i)) ∧ Drawn0 w' w'') :
    Calls Try.prog 45 #[.pointer (some ⟨g, 0, none⟩), .func (.func 46) #[] #[]] w fun e w' => e = .returned (.tuple #[]) ∧ IsDisk w' B g (settleD kp D) ∧ Fr B w w' := by
  have HKP := Aside0.mk hk
  clear hk
  obtain ⟨m, cv, c0, c1, c2, c3, c4, c5, cf, hlt, im, own, ob, bm, bg⟩ := h.cells
  have H := Aside0.mk h
  have OWN := Aside0.mk own
  obtain ⟨n, hn⟩ : ∃ n, D.c.length = n := ⟨_, rfl⟩
  have HN := Aside0.mk hn
  rw [hn] at hc own
  obtain ⟨A, cap, rfl⟩ : ∃ A cap, cv = .slice A n cap := by
    rcases own.2 with ⟨rfl, rfl⟩ | ⟨gb, cap, cur, rfl, _⟩
    · exact ⟨none, 0, rfl⟩
    · exact ⟨_, _, rfl⟩
  have HF := Aside0.mk (Fr.refl B w)
  clear c0 c1 c3 c4 c5 cf im own ob bm bg h hn
  go_enter Try.func45, Try.ntmps45
  go_wp2
  go_loopg [4, 5, 11] n (fun kq v4 v5 v11 w' => ∃ (i : Nat) (f : Int → List Int), v11 = .int .i64 (i : Int) ∧ Aside0 (i + kq = n) ∧ Aside0 (settleF kp i (D.c.drop i) f = settleF kp 0 D.c D.f) ∧
      Aside0 (IsDisk w' B g { D with f := f, u := D.u + i }) ∧ Aside0 (Fr B w w') ∧ Aside0 (w'.cell? ⟨g, 2, none⟩ = some (.slice A n cap)))
  case atStart => exact ⟨0, D.f, rfl, ⟨by omega⟩, ⟨by rw [List.drop_zero]⟩, H, HF, ⟨c2⟩⟩
  case round =>
    clear H HF c2
    obtain ⟨i, f, rfl, HI, HS, HD, HF, HC⟩ := hrel
    cases gk with
    | zero =>
      have hge : decide ((i : Int) < (n : Int)) = false := by have := HI.out; simp; omega
      have hi : i = n := by have := HI.out; omega
      obtain ⟨m', cv', c0, c1, c2, c3, c4, c5, cf, hlt', im, own, ob, bm, bg⟩ := HD.out.cells
      have fz := cf 2
      clear c0 c1 c3 c4 c5 cf im own ob bm bg
      go_wp2
      go_end0
      have p := HD.out.put2 (w := wr) (v := .slice none 0 0) (c := []) ⟨rfl, .inl ⟨rfl, rfl⟩⟩ (fun q hq => by cases hq) (fun k e => by cases e)
      have hs := HS.out
      rw [hi, List.drop_of_length_le (by have := HN.out; omega)] at hs
      refine ⟨rfl, ?_, HF.out.trans p.2 (fun k hk => .inl hk)⟩
      have q := p.1.sup (B2 := B) (fun k hk => hk.elim id (fun e => by cases e)) (fun k hk => .inl (.inl hk))
      have e : settleD kp D = { D with f := f, c := [], u := D.u + i } := by
        unfold settleD
        rw [← hs, HN.out, hi]
        rfl
      rw [e]
      exact q
    | succ k1 =>
      have hlt2 : i < n := by have := HI.out; omega
      have hlt3 : decide ((i : Int) < (n : Int)) = true := by simp; omega
      obtain ⟨p, hp⟩ : ∃ p, D.c[i]? = some p := ⟨_, List.getElem?_eq_getElem (by have := HN.out; omega)⟩
      obtain ⟨m', cv', c0, c1, c2, c3, c4, c5, cf, hltg, im, own, ob, bm, bg⟩ := HD.out.cells
      have e := HC.out
      rw [c2] at e
      injection e with e
      subst e
      obtain ⟨gb, cap', e, hr⟩ := HD.out.at own hp
      injection e with e1 e2 e3
      subst e1
      have HP := Aside0.mk hp
      have hi0 : (0 : Int) ≤ (i : Int) := by omega
      have hi1 : (i : Int) < (n : Int) := by omega
      have u93 := Try.underlying93
      have hG : Good D.c := by obtain ⟨_, _, _, _, _, _, _, _, h7, _⟩ := HD.out; exact h7
      have hlp : Aside0 ((encP p).length = 65) := ⟨encP_length (hG p (List.mem_of_getElem? hp)).1⟩
      have i93 : (Try.prog.info? 93).map (·.size) = some (encP p).length := by rw [hlp.out]; kernel_rfl
      have hG := Aside0.mk hG
      clear c0 c2 c3 c4 c5 cf im own ob bm bg e2 e3 hp hlt2
      have hik : Aside0 (i < D.c.length) := ⟨by have := HN.out; omega⟩
      obtain ⟨kv, hkv⟩ : ∃ kv, kp i = kv := ⟨_, rfl⟩
      have HKV := Aside0.mk hkv
      clear hkv
      cases kv with
      | true =>
        have hz := boxed (w := wr) (z := Try.zeroCells93) (t := 93) (vs := encP p) (by rw [hlp.out]; rfl) (fun _ => False)
        have HZ := Aside0.mk hz
        clear hz
        go_wp2_with (first
          | ((with_reducible refine gate_dst (N := 15) rfl ?_); refine wpList_load_mid rfl 93 (.tmp 14) rfl gb (i * 65) rfl (encP p) _ hr u93 rfl i93 ?_; clear hr)
          | ((with_reducible refine gate_store (t := 93) (p := 5) rfl ?_); refine wpList_store_mid rfl 93 (.tmp 5) (.tmp 15) rfl wr.heap.size 0 (encP p).toArray rfl rfl HZ.out.2.2.2 (by rw [i93]; rfl) (all_oneCell_toArray (one_encP p)) ?_; obtain ⟨Wd, hWd⟩ : ∃ Wd, (wr.alloc (.cells Try.zeroCells93 93)).setCells wr.heap.size 0 (encP p).toArray.toList = Wd := ⟨_, rfl⟩; rw [hWd]; have HZ2 := HZ.out; rw [List.toList_toArray] at hWd; rw [hWd] at HZ2; clear hWd)
          | (go_at_call 46; refine (HKP.out _ i hik.out (HF.out.trans (HZ2.1.mono (fun _ h => h.elim)) (fun k hk => .inl hk))).mono ?_; rintro e w' ⟨he, ⟨nd, rfl⟩⟩; rw [HKV.out] at he; subst he))
        obtain ⟨W1, hW1⟩ : ∃ W1, Wd.drewN nd = W1 := ⟨_, rfl⟩
        have HF1 : Aside0 (Fr (fun _ => False) wr W1) := ⟨hW1 ▸ HZ2.1.drewN nd⟩
        have hr1 : W1.rangeAt wr.heap.size 0 (encP p) := hW1 ▸ HZ2.2.1
        rw [hW1]
        clear hW1 HZ2 HZ
        have HD1 := Aside0.mk (HD.out.fr HF1.out (fun k _ h => h))
        have HC1 : Aside0 (W1.cell? ⟨g, 2, none⟩ = some (.slice (some ⟨gb, 0, none⟩) n cap)) := ⟨(World.cell?_of_block (w := wr) (HF1.out.keep g hltg (fun h => h))).trans HC.out⟩
        obtain ⟨m1, cv1, c0, c1, c2, c3, c4, c5, cf, hltg1, im, own, ob, bm, bg⟩ := HD1.out.cells
        obtain ⟨w3, hrun, him, hgr⟩ := IsMapOf.update (w := W1.drew) im (by show D.u + i ≤ _; omega) (hG.out p (List.mem_of_getElem? HP.out)).2 p.2
        have hb0 : W1.cell? ⟨wr.heap.size, 0, none⟩ = some (.int .i64 p.1) := hr1 0 _ rfl
        have hb1 : W1.rangeAt wr.heap.size 1 (nums .u8 p.2) := fun j v hj => by
          have := hr1 (j + 1) v (by simpa [encP] using hj)
          rwa [show 0 + (j + 1) = 1 + j by omega] at this
        have hbl : wr.heap.size < W1.heap.size := World.block_lt_of_cell? _ _ hb0
        have hm1 : g ≠ m1 := by
          rintro rfl
          obtain ⟨_, ⟨es, clock, hb', _⟩, _⟩ := im
          have := cell_of_row
          unfold World.cell? at c1
          rw [hb'] at c1
          cases c1
        have hm2 : wr.heap.size ≠ m1 := by
          rintro rfl
          obtain ⟨_, ⟨es, clock, hb', _⟩, _⟩ := im
          unfold World.cell? at hb0
          rw [hb'] at hb0
          cases hb0
        have HIM := Aside0.mk him
        have HGR := Aside0.mk hgr
        have HRUN := Aside0.mk hrun
        have hsz1 : Aside0 (wr.heap.size < W1.heap.size) := ⟨hbl⟩
        have u91 := Try.underlying91
        have i91 : (Try.prog.info? 91).map (·.size) = some (nums .u8 p.2).length := by rw [nums_length, (hG.out p (List.mem_of_getElem? HP.out)).1]; exact info91
        have hC1 := Aside0.mk c1
        have hB0 := Aside0.mk hb0
        have hB1 := Aside0.mk hb1
        clear c0 c2 c3 c4 c5 cf im own ob bm bg him hgr hr1 hbl i93 u93
        go_region_held3 (fun w' => w'.cell? ⟨g, 1, none⟩ = some (.map (some m1)) ∧ w'.cell? ⟨wr.heap.size, 0, none⟩ = some (.int .i64 p.1) ∧ w'.rangeAt wr.heap.size 1 (nums .u8 p.2))
          (first
            | exact ⟨hC1.out, hB0.out, hB1.out⟩
            | exact ⟨(HGR.out.cell_far _ hltg1 (fun e => hm1 (by injection e))).trans hC1.out, (HGR.out.cell_far _ hsz1.out (fun e => hm2 (by injection e))).trans hB0.out, fun j v hj => (HGR.out.cell_far _ hsz1.out (fun e => hm2 (by injection e))).trans (hB1.out j v hj)⟩)
          (fail)
        have HD2 := HD1.out.drew.putMap hC1.out HIM.out (fun j => by
          unfold upd
          split
          · exact (hG.out p (List.mem_of_getElem? HP.out)).1
          · obtain ⟨_, _, _, _, _, _, _, _, _, h8, _⟩ := HD1.out; exact h8 j) (HGR.out)
        have HD3 := Aside0.mk HD2.1
        have HF3 : Aside0 (Fr B w w3) := ⟨(HF.out.trans (HF1.out.mono (fun _ h => h.elim)) (fun k hk => .inl hk)).drew.trans HD2.2 (fun k hk => .inl hk)⟩
        have HC3 : Aside0 (w3.cell? ⟨g, 2, none⟩ = some (.slice (some ⟨gb, 0, none⟩) n cap)) := ⟨(HGR.out.cell_far _ hltg1 (fun e => hm1 (by injection e))).trans HC1.out⟩
        have HS3 : Aside0 (settleF kp (i + 1) (D.c.drop (i + 1)) (upd f p.1 p.2) = settleF kp 0 D.c D.f) := ⟨by rw [← HS.out, settleF_drop _ _ _ _ HP.out, HKV.out, if_pos rfl]⟩
        have HI3 : Aside0 (i + 1 + k1 = n) := ⟨by have := HI.out; omega⟩
        have hwr : Aside0 (wrap64 ((i : Int) + 1) = ((i + 1 : Nat) : Int)) := ⟨by unfold wrap64; omega⟩
        clear HD2 hb0 hb1 c1
        go_wp2
        go_roundg k1
        case measure => omega
        case rel => exact ⟨i + 1, upd f p.1 p.2, by go_num, HI3, HS3, HD3, HF3, HC3⟩
      | false =>
        have hz := boxed (w := wr) (z := Try.zeroCells93) (t := 93) (vs := encP p) (by rw [hlp.out]; rfl) (fun _ => False)
        have HZ := Aside0.mk hz
        clear hz
        go_wp2_with (first
          | ((with_reducible refine gate_dst (N := 15) rfl ?_); refine wpList_load_mid rfl 93 (.tmp 14) rfl gb (i * 65) rfl (encP p) _ hr u93 rfl i93 ?_; clear hr)
          | ((with_reducible refine gate_store (t := 93) (p := 5) rfl ?_); refine wpList_store_mid rfl 93 (.tmp 5) (.tmp 15) rfl wr.heap.size 0 (encP p).toArray rfl rfl HZ.out.2.2.2 (by rw [i93]; rfl) (all_oneCell_toArray (one_encP p)) ?_; obtain ⟨Wd, hWd⟩ : ∃ Wd, (wr.alloc (.cells Try.zeroCells93 93)).setCells wr.heap.size 0 (encP p).toArray.toList = Wd := ⟨_, rfl⟩; rw [hWd]; have HZ2 := HZ.out; rw [List.toList_toArray] at hWd; rw [hWd] at HZ2; clear hWd)
          | (go_at_call 46; refine (HKP.out _ i hik.out (HF.out.trans (HZ2.1.mono (fun _ h => h.elim)) (fun k hk => .inl hk))).mono ?_; rintro e w' ⟨he, ⟨nd, rfl⟩⟩; rw [HKV.out] at he; subst he))
        obtain ⟨W1, hW1⟩ : ∃ W1, Wd.drewN nd = W1 := ⟨_, rfl⟩
        have HF1 : Aside0 (Fr (fun _ => False) wr W1) := ⟨hW1 ▸ HZ2.1.drewN nd⟩
        have hr1 : W1.rangeAt wr.heap.size 0 (encP p) := hW1 ▸ HZ2.2.1
        rw [hW1]
        clear hW1 HZ2 HZ
        have HD1 := Aside0.mk (HD.out.fr HF1.out (fun k _ h => h))
        have HC1 : Aside0 (W1.cell? ⟨g, 2, none⟩ = some (.slice (some ⟨gb, 0, none⟩) n cap)) := ⟨(World.cell?_of_block (w := wr) (HF1.out.keep g hltg (fun h => h))).trans HC.out⟩
        have HD3 : Aside0 (IsDisk W1 B g { D with f := f, u := D.u + (i + 1) }) := ⟨HD1.out.raise (by show D.u + i ≤ D.u + (i + 1); omega)⟩
        have HF3 : Aside0 (Fr B w W1) := ⟨HF.out.trans (HF1.out.mono (fun _ h => h.elim)) (fun k hk => .inl hk)⟩
        have HS3 : Aside0 (settleF kp (i + 1) (D.c.drop (i + 1)) f = settleF kp 0 D.c D.f) := ⟨by rw [← HS.out, settleF_drop _ _ _ _ HP.out, HKV.out]; rfl⟩
        have HI3 : Aside0 (i + 1 + k1 = n) := ⟨by have := HI.out; omega⟩
        have hwr : Aside0 (wrap64 ((i : Int) + 1) = ((i + 1 : Nat) : Int)) := ⟨by unfold wrap64; omega⟩
        clear hr1
        go_wp2
        go_roundg k1
        case measure => omega
        case rel => exact ⟨i + 1, f, by go_num, HI3, HS3, HD3, HF3, HC1⟩

set_option maxHeartbeats 4000000 in
set_option maxRecDepth 100000 in
theorem settle47 (g : Nat) (B : Nat → Prop) (D : DS) (kp : Nat → Bool) (kb : Nat) (w : World) (h : IsDisk w B g D) (hc : D.c.length ≤ 1000000) (hu : D.u ≤ 1000000)
    (hk : ∀ (w' : World) (i : Nat), i < D.c.length → Fr B w w' → Calls Try.prog 47 #[.int .i64 (i : Int), .pointer (some ⟨kb, 0, none⟩)] w' fun e w'' => e = .returned (.bool (kp i)) ∧ Drawn0 w' w'') :
    Calls Try.prog 45 #[.pointer (some ⟨g, 0, none⟩), .func (.func 47) #[] #[.pointer (some ⟨kb, 0, none⟩)]] w fun e w' => e = .returned (.tuple #[]) ∧ IsDisk w' B g (settleD kp D) ∧ Fr B w w' := by
  have HKP := Aside0.mk hk
  clear hk
  obtain ⟨m, cv, c0, c1, c2, c3, c4, c5, cf, hlt, im, own, ob, bm, bg⟩ := h.cells
  have H := Aside0.mk h
  have OWN := Aside0.mk own
  obtain ⟨n, hn⟩ : ∃ n, D.c.length = n := ⟨_, rfl⟩
  have HN := Aside0.mk hn
  rw [hn] at hc own
  obtain ⟨A, cap, rfl⟩ : ∃ A cap, cv = .slice A n cap := by
    rcases own.2 with ⟨rfl, rfl⟩ | ⟨gb, cap, cur, rfl, _⟩
    · exact ⟨none, 0, rfl⟩
    · exact ⟨_, _, rfl⟩
  have HF := Aside0.mk (Fr.refl B w)
  clear c0 c1 c3 c4 c5 cf im own ob bm bg h hn
  go_enter Try.func45, Try.ntmps45
  go_wp2
  go_loopg [4, 5, 11] n (fun kq v4 v5 v11 w' => ∃ (i : Nat) (f : Int → List Int), v11 = .int .i64 (i : Int) ∧ Aside0 (i + kq = n) ∧ Aside0 (settleF kp i (D.c.drop i) f = settleF kp 0 D.c D.f) ∧
      Aside0 (IsDisk w' B g { D with f := f, u := D.u + i }) ∧ Aside0 (Fr B w w') ∧ Aside0 (w'.cell? ⟨g, 2, none⟩ = some (.slice A n cap)))
  case atStart => exact ⟨0, D.f, rfl, ⟨by omega⟩, ⟨by rw [List.drop_zero]⟩, H, HF, ⟨c2⟩⟩
  case round =>
    clear H HF c2
    obtain ⟨i, f, rfl, HI, HS, HD, HF, HC⟩ := hrel
    cases gk with
    | zero =>
      have hge : decide ((i : Int) < (n : Int)) = false := by have := HI.out; simp; omega
      have hi : i = n := by have := HI.out; omega
      obtain ⟨m', cv', c0, c1, c2, c3, c4, c5, cf, hlt', im, own, ob, bm, bg⟩ := HD.out.cells
      have fz := cf 2
      clear c0 c1 c3 c4 c5 cf im own ob bm bg
      go_wp2
      go_end0
      have p := HD.out.put2 (w := wr) (v := .slice none 0 0) (c := []) ⟨rfl, .inl ⟨rfl, rfl⟩⟩ (fun q hq => by cases hq) (fun k e => by cases e)
      have hs := HS.out
      rw [hi, List.drop_of_length_le (by have := HN.out; omega)] at hs
      refine ⟨rfl, ?_, HF.out.trans p.2 (fun k hk => .inl hk)⟩
      have q := p.1.sup (B2 := B) (fun k hk => hk.elim id (fun e => by cases e)) (fun k hk => .inl (.inl hk))
      have e : settleD kp D = { D with f := f, c := [], u := D.u + i } := by
        unfold settleD
        rw [← hs, HN.out, hi]
        rfl
      rw [e]
      exact q
    | succ k1 =>
      have hlt2 : i < n := by have := HI.out; omega
      have hlt3 : decide ((i : Int) < (n : Int)) = true := by simp; omega
      obtain ⟨p, hp⟩ : ∃ p, D.c[i]? = some p := ⟨_, List.getElem?_eq_getElem (by have := HN.out; omega)⟩
      obtain ⟨m', cv', c0, c1, c2, c3, c4, c5, cf, hltg, im, own, ob, bm, bg⟩ := HD.out.cells
      have e := HC.out
      rw [c2] at e
      injection e with e
      subst e
      obtain ⟨gb, cap', e, hr⟩ := HD.out.at own hp
      injection e with e1 e2 e3
      subst e1
      have HP := Aside0.mk hp
      have hi0 : (0 : Int) ≤ (i : Int) := by omega
      have hi1 : (i : Int) < (n : Int) := by omega
      have u93 := Try.underlying93
      have hG : Good D.c := by obtain ⟨_, _, _, _, _, _, _, _, h7, _⟩ := HD.out; exact h7
      have hlp : Aside0 ((encP p).length = 65) := ⟨encP_length (hG p (List.mem_of_getElem? hp)).1⟩
      have i93 : (Try.prog.info? 93).map (·.size) = some (encP p).length := by rw [hlp.out]; kernel_rfl
      have hG := Aside0.mk hG
      clear c0 c2 c3 c4 c5 cf im own ob bm bg e2 e3 hp hlt2
      have hik : Aside0 (i < D.c.length) := ⟨by have := HN.out; omega⟩
      obtain ⟨kv, hkv⟩ : ∃ kv, kp i = kv := ⟨_, rfl⟩
      have HKV := Aside0.mk hkv
      clear hkv
      cases kv with
      | true =>
        have hz := boxed (w := wr) (z := Try.zeroCells93) (t := 93) (vs := encP p) (by rw [hlp.out]; rfl) (fun _ => False)
        have HZ := Aside0.mk hz
        clear hz
        go_wp2_with (first
          | ((with_reducible refine gate_dst (N := 15) rfl ?_); refine wpList_load_mid rfl 93 (.tmp 14) rfl gb (i * 65) rfl (encP p) _ hr u93 rfl i93 ?_; clear hr)
          | ((with_reducible refine gate_store (t := 93) (p := 5) rfl ?_); refine wpList_store_mid rfl 93 (.tmp 5) (.tmp 15) rfl wr.heap.size 0 (encP p).toArray rfl rfl HZ.out.2.2.2 (by rw [i93]; rfl) (all_oneCell_toArray (one_encP p)) ?_; obtain ⟨Wd, hWd⟩ : ∃ Wd, (wr.alloc (.cells Try.zeroCells93 93)).setCells wr.heap.size 0 (encP p).toArray.toList = Wd := ⟨_, rfl⟩; rw [hWd]; have HZ2 := HZ.out; rw [List.toList_toArray] at hWd; rw [hWd] at HZ2; clear hWd)
          | (go_at_call 47; refine (HKP.out _ i hik.out (HF.out.trans (HZ2.1.mono (fun _ h => h.elim)) (fun k hk => .inl hk))).mono ?_; rintro e w' ⟨he, ⟨nd, rfl⟩⟩; rw [HKV.out] at he; subst he))
        obtain ⟨W1, hW1⟩ : ∃ W1, Wd.drewN nd = W1 := ⟨_, rfl⟩
        have HF1 : Aside0 (Fr (fun _ => False) wr W1) := ⟨hW1 ▸ HZ2.1.drewN nd⟩
        have hr1 : W1.rangeAt wr.heap.size 0 (encP p) := hW1 ▸ HZ2.2.1
        rw [hW1]
        clear hW1 HZ2 HZ
        have HD1 := Aside0.mk (HD.out.fr HF1.out (fun k _ h => h))
        have HC1 : Aside0 (W1.cell? ⟨g, 2, none⟩ = some (.slice (some ⟨gb, 0, none⟩) n cap)) := ⟨(World.cell?_of_block (w := wr) (HF1.out.keep g hltg (fun h => h))).trans HC.out⟩
        obtain ⟨m1, cv1, c0, c1, c2, c3, c4, c5, cf, hltg1, im, own, ob, bm, bg⟩ := HD1.out.cells
        obtain ⟨w3, hrun, him, hgr⟩ := IsMapOf.update (w := W1.drew) im (by show D.u + i ≤ _; omega) (hG.out p (List.mem_of_getElem? HP.out)).2 p.2
        have hb0 : W1.cell? ⟨wr.heap.size, 0, none⟩ = some (.int .i64 p.1) := hr1 0 _ rfl
        have hb1 : W1.rangeAt wr.heap.size 1 (nums .u8 p.2) := fun j v hj => by
          have := hr1 (j + 1) v (by simpa [encP] using hj)
          rwa [show 0 + (j + 1) = 1 + j by omega] at this
        have hbl : wr.heap.size < W1.heap.size := World.block_lt_of_cell? _ _ hb0
        have hm1 : g ≠ m1 := by
          rintro rfl
          obtain ⟨_, ⟨es, clock, hb', _⟩, _⟩ := im
          have := cell_of_row
          unfold World.cell? at c1
          rw [hb'] at c1
          cases c1
        have hm2 : wr.heap.size ≠ m1 := by
          rintro rfl
          obtain ⟨_, ⟨es, clock, hb', _⟩, _⟩ := im
          unfold World.cell? at hb0
          rw [hb'] at hb0
          cases hb0
        have HIM := Aside0.mk him
        have HGR := Aside0.mk hgr
        have HRUN := Aside0.mk hrun
        have hsz1 : Aside0 (wr.heap.size < W1.heap.size) := ⟨hbl⟩
        have u91 := Try.underlying91
        have i91 : (Try.prog.info? 91).map (·.size) = some (nums .u8 p.2).length := by rw [nums_length, (hG.out p (List.mem_of_getElem? HP.out)).1]; exact info91
        have hC1 := Aside0.mk c1
        have hB0 := Aside0.mk hb0
        have hB1 := Aside0.mk hb1
        clear c0 c2 c3 c4 c5 cf im own ob bm bg him hgr hr1 hbl i93 u93
        go_region_held3 (fun w' => w'.cell? ⟨g, 1, none⟩ = some (.map (some m1)) ∧ w'.cell? ⟨wr.heap.size, 0, none⟩ = some (.int .i64 p.1) ∧ w'.rangeAt wr.heap.size 1 (nums .u8 p.2))
          (first
            | exact ⟨hC1.out, hB0.out, hB1.out⟩
            | exact ⟨(HGR.out.cell_far _ hltg1 (fun e => hm1 (by injection e))).trans hC1.out, (HGR.out.cell_far _ hsz1.out (fun e => hm2 (by injection e))).trans hB0.out, fun j v hj => (HGR.out.cell_far _ hsz1.out (fun e => hm2 (by injection e))).trans (hB1.out j v hj)⟩)
          (fail)
        have HD2 := HD1.out.drew.putMap hC1.out HIM.out (fun j => by
          unfold upd
          split
          · exact (hG.out p (List.mem_of_getElem? HP.out)).1
          · obtain ⟨_, _, _, _, _, _, _, _, _, h8, _⟩ := HD1.out; exact h8 j) (HGR.out)
        have HD3 := Aside0.mk HD2.1
        have HF3 : Aside0 (Fr B w w3) := ⟨(HF.out.trans (HF1.out.mono (fun _ h => h.elim)) (fun k hk => .inl hk)).drew.trans HD2.2 (fun k hk => .inl hk)⟩
        have HC3 : Aside0 (w3.cell? ⟨g, 2, none⟩ = some (.slice (some ⟨gb, 0, none⟩) n cap)) := ⟨(HGR.out.cell_far _ hltg1 (fun e => hm1 (by injection e))).trans HC1.out⟩
        have HS3 : Aside0 (settleF kp (i + 1) (D.c.drop (i + 1)) (upd f p.1 p.2) = settleF kp 0 D.c D.f) := ⟨by rw [← HS.out, settleF_drop _ _ _ _ HP.out, HKV.out, if_pos rfl]⟩
        have HI3 : Aside0 (i + 1 + k1 = n) := ⟨by have := HI.out; omega⟩
        have hwr : Aside0 (wrap64 ((i : Int) + 1) = ((i + 1 : Nat) : Int)) := ⟨by unfold wrap64; omega⟩
        clear HD2 hb0 hb1 c1
        go_wp2
        go_roundg k1
        case measure => omega
        case rel => exact ⟨i + 1, upd f p.1 p.2, by go_num, HI3, HS3, HD3, HF3, HC3⟩
      | false =>
        have hz := boxed (w := wr) (z := Try.zeroCells93) (t := 93) (vs := encP p) (by rw [hlp.out]; rfl) (fun _ => False)
        have HZ := Aside0.mk hz
        clear hz
        go_wp2_with (first
          | ((with_reducible refine gate_dst (N := 15) rfl ?_); refine wpList_load_mid rfl 93 (.tmp 14) rfl gb (i * 65) rfl (encP p) _ hr u93 rfl i93 ?_; clear hr)
          | ((with_reducible refine gate_store (t := 93) (p := 5) rfl ?_); refine wpList_store_mid rfl 93 (.tmp 5) (.tmp 15) rfl wr.heap.size 0 (encP p).toArray rfl rfl HZ.out.2.2.2 (by rw [i93]; rfl) (all_oneCell_toArray (one_encP p)) ?_; obtain ⟨Wd, hWd⟩ : ∃ Wd, (wr.alloc (.cells Try.zeroCells93 93)).setCells wr.heap.size 0 (encP p).toArray.toList = Wd := ⟨_, rfl⟩; rw [hWd]; have HZ2 := HZ.out; rw [List.toList_toArray] at hWd; rw [hWd] at HZ2; clear hWd)
          | (go_at_call 47; refine (HKP.out _ i hik.out (HF.out.trans (HZ2.1.mono (fun _ h => h.elim)) (fun k hk => .inl hk))).mono ?_; rintro e w' ⟨he, ⟨nd, rfl⟩⟩; rw [HKV.out] at he; subst he))
        obtain ⟨W1, hW1⟩ : ∃ W1, Wd.drewN nd = W1 := ⟨_, rfl⟩
        have HF1 : Aside0 (Fr (fun _ => False) wr W1) := ⟨hW1 ▸ HZ2.1.drewN nd⟩
        have hr1 : W1.rangeAt wr.heap.size 0 (encP p) := hW1 ▸ HZ2.2.1
        rw [hW1]
        clear hW1 HZ2 HZ
        have HD1 := Aside0.mk (HD.out.fr HF1.out (fun k _ h => h))
        have HC1 : Aside0 (W1.cell? ⟨g, 2, none⟩ = some (.slice (some ⟨gb, 0, none⟩) n cap)) := ⟨(World.cell?_of_block (w := wr) (HF1.out.keep g hltg (fun h => h))).trans HC.out⟩
        have HD3 : Aside0 (IsDisk W1 B g { D with f := f, u := D.u + (i + 1) }) := ⟨HD1.out.raise (by show D.u + i ≤ D.u + (i + 1); omega)⟩
        have HF3 : Aside0 (Fr B w W1) := ⟨HF.out.trans (HF1.out.mono (fun _ h => h.elim)) (fun k hk => .inl hk)⟩
        have HS3 : Aside0 (settleF kp (i + 1) (D.c.drop (i + 1)) f = settleF kp 0 D.c D.f) := ⟨by rw [← HS.out, settleF_drop _ _ _ _ HP.out, HKV.out]; rfl⟩
        have HI3 : Aside0 (i + 1 + k1 = n) := ⟨by have := HI.out; omega⟩
        have hwr : Aside0 (wrap64 ((i : Int) + 1) = ((i + 1 : Nat) : Int)) := ⟨by unfold wrap64; omega⟩
        clear hr1
        go_wp2
        go_roundg k1
        case measure => omega
        case rel => exact ⟨i + 1, f, by go_num, HI3, HS3, HD3, HF3, HC1⟩

end Go.Proofs.Ytppgbfkhiofjiaa.X

namespace Go.Proofs.Ytppgbfkhiofjiaa.X
open Go.RowKit Go.Proofs.YtppgbfkhiofjiaaW.PrintWords Go.Proofs.YtppgbfkhiofjiaaW.PrintLast Go.Proofs.YtppgbfkhiofjiaaW.PrintMore
set_option linter.unusedVariables false
set_option linter.unusedSimpArgs false

def flushD (D : DS) : Int × DS := if D.down = true then (230, D) else if (stepD D).1 = true then (0, settleD (fun _ => true) (stepD D).2) else (230, (stepD D).2)
theorem stepD_c (D : DS) : (stepD D).2.c = D.c ∧ (stepD D).2.u = D.u ∧ (stepD D).2.f = D.f ∧ (stepD D).2.n = D.n := by unfold stepD; split <;> exact ⟨rfl, rfl, rfl, rfl⟩

set_option maxHeartbeats 1000000 in
theorem flush_calls (g : Nat) (B : Nat → Prop) (D : DS) (w : World) (h : IsDisk w B g D) (hs : -1 ≤ D.steps ∧ D.steps < 9223372036854775807) (hl : D.left ≤ 9223372036854775807) (hc : D.c.length ≤ 1000000) (hu : D.u ≤ 1000000) :
    Calls Try.prog 15 #[.pointer (some ⟨g, 0, none⟩)] w fun e w' => e = .returned (.int .i64 (flushD D).1) ∧ IsDisk w' B g (flushD D).2 ∧ Fr B w w' := by
  have H := Aside0.mk h
  obtain ⟨m, cv, c0, c1, c2, c3, c4, c5, cf, hlt, im, own, ob, bm, bg⟩ := h.cells
  obtain ⟨dd, hdd⟩ : ∃ dd, D.down = dd := ⟨_, rfl⟩
  have HDD := Aside0.mk hdd
  rw [hdd] at c4
  have ST := Aside0.mk (fun (w' : World) (h' : IsDisk w' B g D) => step_calls g B D w' h' hs hl)
  clear c0 c1 c2 c3 c5 cf im own ob bm bg h hdd hs hl
  cases dd with
  | true =>
    have R : Aside0 (flushD D = (230, D)) := ⟨by unfold flushD; rw [if_pos HDD.out]⟩
    go_enter Try.func15, Try.ntmps15
    go_wp2
    go_ret
    rw [R.out]
    exact ⟨rfl, H.out, Fr.refl _ _⟩
  | false =>
    obtain ⟨ok, hok⟩ : ∃ ok, (stepD D).1 = ok := ⟨_, rfl⟩
    have R : Aside0 (flushD D = if ok = true then (0, settleD (fun _ => true) (stepD D).2) else (230, (stepD D).2)) := ⟨by unfold flushD; rw [HDD.out, hok]; rfl⟩
    rw [hok] at ST
    have hc2 : (stepD D).2.c.length ≤ 1000000 := by rw [(stepD_c D).1]; exact hc
    have hu2 : (stepD D).2.u ≤ 1000000 := by rw [(stepD_c D).2.1]; exact hu
    generalize (stepD D).2 = D2 at *
    clear hok hc hu
    cases ok with
    | false =>
      go_enter Try.func15, Try.ntmps15
      go_wp2_with fail
      refine (ST.out _ H.out).mono ?_
      rintro e w2 ⟨rfl, hd2, hf2⟩
      have HD2 := Aside0.mk hd2
      have HF2 := Aside0.mk hf2
      clear hd2 hf2
      go_wp2
      go_ret
      rw [R.out]
      exact ⟨rfl, HD2.out, HF2.out⟩
    | true =>
      go_enter Try.func15, Try.ntmps15
      go_wp2_with fail
      refine (ST.out _ H.out).mono ?_
      rintro e w2 ⟨rfl, hd2, hf2⟩
      have HD2 := Aside0.mk hd2
      have HF2 := Aside0.mk hf2
      clear hd2 hf2
      go_wp2_with fail
      refine (settle46 g B D2 (fun _ => true) _ HD2.out hc2 hu2 (fun w' i _ _ => all_calls i w')).mono ?_
      rintro e w3 ⟨rfl, hd3, hf3⟩
      have HD3 := Aside0.mk hd3
      have HF3 := Aside0.mk hf3
      clear hd3 hf3
      go_wp2
      go_ret
      rw [R.out]
      exact ⟨rfl, HD3.out, HF2.out.trans HF3.out (fun k h => .inl h)⟩

/-- Which pending writes a list keeps. -/
def keepB (l : List Bool) (i : Nat) : Bool := decide (i < l.length) && l.getD i false
set_option maxHeartbeats 1000000 in
theorem kept_calls (kb i : Nat) (A : Option Addr) (cp : Nat) (l : List Bool) (w : World) (hcell : w.cell? ⟨kb, 0, none⟩ = some (.slice A l.length cp)) (hl : Kd.C Kd.bool w A l.length l) (hi : i ≤ 1000000) :
    Calls Try.prog 47 #[.int .i64 (i : Int), .pointer (some ⟨kb, 0, none⟩)] w fun e w' => e = .returned (.bool (keepB l i)) ∧ Drawn0 w w' := by
  have HL := Aside0.mk hl
  have hlen := hl.2.1
  clear hl
  by_cases hc : i < l.length
  · have h0 : (0 : Int) ≤ (i : Int) := by omega
    have h1 : (i : Int) < (l.length : Int) := by omega
    obtain ⟨ad, rfl, hx⟩ := Kd.at_bool HL.out (i : Int) h0 h1
    have R : Aside0 (keepB l i = rdOf false l (i : Int)) := ⟨by unfold keepB rdOf; rw [decide_eq_true hc, Int.toNat_natCast]; rfl⟩
    rw [Int.toNat_natCast] at hx
    generalize rdOf false l (i : Int) = b at *
    clear hc
    go_enter Try.func47, Try.ntmps47
    go_wp2
    go_ret
    rw [R.out]
    exact ⟨rfl, Drawn0.refl _⟩
  · have R : Aside0 (keepB l i = false) := ⟨by unfold keepB; rw [decide_eq_false hc]; rfl⟩
    have h1 : (l.length : Int) ≤ (i : Int) := by omega
    have h2 : decide ((i : Int) < (l.length : Int)) = false := by simp; omega
    clear hc
    go_enter Try.func47, Try.ntmps47
    go_wp2
    go_ret
    rw [R.out]
    exact ⟨rfl, Drawn0.refl _⟩

theorem C_fr {α : Type} {enc : α → Value} {h1 : ∀ x, (enc x).oneCell' = true} (d : α) {B : Nat → Prop} {w w' : World} {A : Option Addr} {n : Nat} {xs : List α} (h : (Kd.scalar enc h1).C w A n xs) (hf : Fr B w w') (hd : ∀ ad, A = some ad → 0 < n → ¬ B ad.block) : (Kd.scalar enc h1).C w' A n xs := by
  have r := Kd.reads_of_C (d := d) h
  refine Kd.C_of_reads (d := d) ⟨r.1, r.2.1, fun hn => ?_⟩
  obtain ⟨ad, e, hc⟩ := r.2.2 hn
  refine ⟨ad, e, fun j hj => ?_⟩
  have q := hc j hj
  have hb : (ad.add j).block = ad.block := by unfold Addr.add; split <;> rfl
  exact (World.cell?_of_block (w := w) (hf.keep _ (World.block_lt_of_cell? w _ q) (by rw [hb]; exact hd ad e hn))).trans q
def mendD (l : List Bool) (D : DS) : DS := { settleD (keepB l) D with left := -1, down := false }
set_option maxHeartbeats 2000000 in
theorem mend_calls (g : Nat) (B : Nat → Prop) (D : DS) (A : Option Addr) (cp : Nat) (l : List Bool) (w : World) (h : IsDisk w B g D) (hc : D.c.length ≤ 1000000) (hu : D.u ≤ 1000000) (hl : Kd.C Kd.bool w A l.length l)
    (hdis : ∀ ad, A = some ad → 0 < l.length → ¬ B ad.block) :
    Calls Try.prog 17 #[.pointer (some ⟨g, 0, none⟩), .slice A l.length cp] w fun e w' => e = .returned (.tuple #[]) ∧ IsDisk w' B g (mendD l D) ∧ Fr B w w' := by
  have H := Aside0.mk h
  have HL := Aside0.mk hl
  have HDI := Aside0.mk hdis
  have HLT := Aside0.mk h.lt
  clear h hl hdis
  go_enter Try.func17, Try.ntmps17
  go_wp2_with fail
  have HD1 : Aside0 (IsDisk (w.alloc (.cells #[.slice A l.length cp] 27)) B g D) := ⟨H.out.alloc _⟩
  have HK : Aside0 (∀ (w' : World) (i : Nat), i < D.c.length → Fr B (w.alloc (.cells #[.slice A l.length cp] 27)) w' → Calls Try.prog 47 #[.int .i64 (i : Int), .pointer (some ⟨w.heap.size, 0, none⟩)] w' fun e w'' => e = .returned (.bool (keepB l i)) ∧ Drawn0 w' w'') := ⟨fun w' i hi hf => by
    have hcell : w'.cell? ⟨w.heap.size, 0, none⟩ = some (.slice A l.length cp) := by
      have hb := (hf.keep w.heap.size (by simp) (fun hb => by have := HLT.out _ hb; omega)).trans (heap_alloc_new w (.cells #[.slice A l.length cp] 27))
      rw [cell_of_row w' _ _ _ 27 (0, 0) hb]
      rfl
    exact kept_calls w.heap.size i A cp l w' hcell (C_fr (B := B) false HL.out (((Fr.refl B w).alloc _).trans hf (fun k h => .inl h)) HDI.out) (by omega)⟩
  refine (settle47 g B D (keepB l) w.heap.size _ HD1.out hc hu HK.out).mono ?_
  rintro e w1 ⟨rfl, hd1, hf1⟩
  have HD2 := Aside0.mk hd1
  have HF2 := Aside0.mk hf1
  obtain ⟨m, cv, c0, c1, c2, c3, c4, c5, cf, hlt, im, own, ob, bm, bg⟩ := hd1.cells
  have f3 := cf 3
  have f4 := cf 4
  clear c0 c1 c2 c5 cf im own ob bm bg hd1 hf1
  go_wp2
  go_end0
  have p := HD2.out.put3 (-1)
  have q := p.1.put4 false
  exact ⟨rfl, q.1, (((Fr.refl B w).alloc _).trans HF2.out (fun k h => .inl h)).trans (p.2.trans q.2 (fun k h => .inl h)) (fun k h => .inl h)⟩
end Go.Proofs.Ytppgbfkhiofjiaa.X

namespace Go.Proofs.Ytppgbfkhiofjiaa.X
open Go.RowKit Go.Proofs.YtppgbfkhiofjiaaW.PrintWords Go.Proofs.YtppgbfkhiofjiaaW.PrintLast Go.Proofs.YtppgbfkhiofjiaaW.PrintMore
set_option linter.unusedVariables false
set_option linter.unusedSimpArgs false

/-- A block that is a sector. -/
def IsArr (w : World) (b : Nat) (l : List Int) : Prop := w.heap[b]? = some (.cells (nums .u8 l).toArray 91 (0, 0))
theorem IsArr.range {w : World} {b : Nat} {l : List Int} (h : IsArr w b l) : w.rangeAt b 0 (nums .u8 l) := fun j v hj => by
  rw [cell_of_row w b _ _ 91 (0, 0) h, Nat.zero_add, List.getElem?_toArray, hj]
theorem IsArr.there {w : World} {b : Nat} {l : List Int} (h : IsArr w b l) : w.there b 0 l.length := fun j hj => ⟨by
  rw [cell_of_row w b _ _ 91 (0, 0) h, Nat.zero_add, List.getElem?_toArray, List.getElem?_eq_getElem (by rw [nums_length]; exact hj)]
  rfl, frozen_of_row w b _ _ 91 h⟩
theorem IsArr.lt {w : World} {b : Nat} {l : List Int} (h : IsArr w b l) : b < w.heap.size := by
  unfold IsArr at h
  exact (Array.getElem?_eq_some_iff.1 h).1
theorem IsArr.kept {w w' : World} {b : Nat} {l : List Int} (h : IsArr w b l) (hk : w'.heap[b]? = w.heap[b]?) : IsArr w' b l := hk.trans h
/-- Another sector's bytes are laid over it. -/
theorem IsArr.put {w : World} {b : Nat} {l l' : List Int} (h : IsArr w b l) (hl : l'.length = l.length) : IsArr (w.setCells b 0 (nums .u8 l')) b l' := by
  obtain ⟨cur', h1, h2, h3⟩ := setCells_row (nums .u8 l') 0 w _ h (by simp [nums, hl])
  unfold IsArr
  rw [h1]
  congr 2
  apply Array.toList_inj.1
  rw [h3]
  simp [nums, hl]
theorem IsArr.new {w : World} {z : Array Value} (hz : z.size = 64) {l : List Int} (hl : l.length = 64) : IsArr ((w.alloc (.cells z 91)).setCells w.heap.size 0 (nums .u8 l)) w.heap.size l := by
  have hb : (w.alloc (.cells z 91)).heap[w.heap.size]? = some (.cells z 91 (0, 0)) := heap_alloc_new _ _
  obtain ⟨cur', h1, h2, h3⟩ := setCells_row (nums .u8 l) 0 _ _ hb (by simp [nums, hl, hz])
  unfold IsArr
  rw [h1]
  congr 2
  apply Array.toList_inj.1
  rw [h3]
  simp [nums, hl, hz]

theorem new91 {motive : World → Prop} (w : World) (z : Array Value) (l : List Int) (hz : z.size = 64) (hl : l.length = 64) (h : ∀ W, IsArr W w.heap.size l → Fr (fun _ => False) w W → motive W) :
    motive ((w.alloc (.cells z 91)).setCells w.heap.size 0 (nums .u8 l).toArray.toList) := by
  rw [List.toList_toArray]
  exact h _ (IsArr.new hz hl) (boxed (t := 91) (by rw [nums_length, hl, hz]) _).1
theorem there91 (w : World) (z : Array Value) (l : List Int) (hz : z.size = 64) (hl : l.length = 64) : (w.alloc (.cells z 91)).there w.heap.size 0 (nums .u8 l).toArray.size := (boxed (t := 91) (by rw [nums_length, hl, hz]) (fun _ => False)).2.2.2
theorem new93 {motive : World → Prop} (w : World) (z : Array Value) (t : TypeId) (vs : List Value) (hz : z.size = vs.length) (h : ∀ W, W.rangeAt w.heap.size 0 vs → w.heap.size < W.heap.size → Fr (fun _ => False) w W → motive W) :
    motive ((w.alloc (.cells z t)).setCells w.heap.size 0 vs.toArray.toList) := by
  rw [List.toList_toArray]
  have hb := boxed (w := w) (t := t) hz (fun _ => False)
  exact h _ hb.2.1 hb.2.2.1 hb.1
theorem there93 (w : World) (z : Array Value) (t : TypeId) (vs : List Value) (hz : z.size = vs.length) : (w.alloc (.cells z t)).there w.heap.size 0 vs.toArray.size := (boxed (t := t) hz (fun _ => False)).2.2.2
theorem put91 {motive : World → Prop} (w : World) (b : Nat) (l l' : List Int) (hb : IsArr w b l) (hl : l'.length = l.length) (h : ∀ W, IsArr W b l' → Fr (fun k => k = b) w W → motive W) :
    motive (w.setCells b 0 (nums .u8 l').toArray.toList) := by
  rw [List.toList_toArray]
  obtain ⟨a1, a2, a3, a4⟩ := setCells_same b (nums .u8 l') 0 w
  exact h _ (hb.put hl) ⟨a1, a2, a3, Nat.le_of_eq a4.symm, fun k hk hn => setCells_far (nums .u8 l') 0 k hn⟩

/-- What is read: the last pending write of the sector, or what lasts. -/
def readC (n : Int) : List (Int × List Int) → List Int → List Int
  | [], b => b
  | p :: c, b => readC n c (if p.1 = n then p.2 else b)
theorem readC_drop (n : Int) (c : List (Int × List Int)) (i : Nat) (p : Int × List Int) (h : c[i]? = some p) (b : List Int) : readC n (c.drop i) b = readC n (c.drop (i + 1)) (if p.1 = n then p.2 else b) := by
  obtain ⟨hi, e⟩ := List.getElem?_eq_some_iff.1 h
  rw [List.drop_eq_getElem_cons hi, e]
  rfl
theorem IsMapOf.look {w : World} {m u : Nat} {f : Int → List Int} (h : IsMapOf w m u f) {n : Int} (hn : (Lit.int .i64 n).wf = true) :
    (Instr.lookup 85 (.map (some m)) (.int .i64 n) false).run Try.prog w = .ok (.agg (nums .u8 (f n)).toArray) w := by
  obtain ⟨D, h1, h2, h3⟩ := h
  obtain ⟨v, ps, hr, hv⟩ := h1.lookup (z := arr zeros64) (zd := .held (arr zeros64)) (zp := []) (Maps.int_keyed Try.underlying3) Try.underlying85 (by kernel_rfl) rfl (Maps.keyOf_int_mk Try.underlying3 hn)
  rw [h3 n] at hv
  unfold asIs at hv
  simp only [Option.some.injEq, Prod.mk.injEq, DataW.held.injEq] at hv
  rw [hr, hv.1]
  rfl
theorem IsDisk.good {w : World} {B : Nat → Prop} {g : Nat} {D : DS} (h : IsDisk w B g D) : Good D.c ∧ ∀ i, (D.f i).length = 64 := by
  obtain ⟨_, _, _, _, _, _, _, _, h7, h8, _⟩ := h
  exact ⟨h7, h8⟩

theorem read_bad (g : Nat) (B : Nat → Prop) (D : DS) (n : Int) (w : World) (h : IsDisk w B g D) (h1 : lookD D n ≠ 0) :
    Calls Try.prog 18 #[.pointer (some ⟨g, 0, none⟩), .int .i64 n] w fun e w' => e = .returned (.tuple #[.slice none 0 0, .int .i64 (lookD D n)]) ∧ Drawn0 w w' := by
  have LK := Aside0.mk (look_calls g B D n w h)
  obtain ⟨e0, he0⟩ : ∃ e0, lookD D n = e0 := ⟨_, rfl⟩
  rw [he0] at h1 LK ⊢
  have h1b : (e0 != 0) = true := by simpa using h1
  clear he0 h
  go_enter Try.func18, Try.ntmps18
  go_wp2_with fail
  refine LK.out.mono ?_
  rintro e w' ⟨rfl, ⟨nq, rfl⟩⟩
  go_wp2
  go_ret2
  exact ⟨rfl, ⟨nq, rfl⟩⟩

set_option maxHeartbeats 4000000 in
set_option maxRecDepth 100000 in
theorem read_calls (g : Nat) (B : Nat → Prop) (D : DS) (n : Int) (w : World) (h : IsDisk w B g D) (h1 : lookD D n = 0) (hwf : (Lit.int .i64 n).wf = true) (hc : D.c.length ≤ 1000000) :
    Calls Try.prog 18 #[.pointer (some ⟨g, 0, none⟩), .int .i64 n] w fun e w' => ∃ gb, e = .returned (.tuple #[.slice (some ⟨gb, 0, none⟩) 64 64, .int .i64 0]) ∧ w.heap.size ≤ gb ∧ IsArr w' gb (readC n D.c (D.f n)) ∧ Fr (fun _ => False) w w' := by
  have LK := Aside0.mk (look_calls g B D n w h)
  rw [h1] at LK
  obtain ⟨m, cv, c0, c1, c2, c3, c4, c5, cf, hlt, im, own, ob, bm, bg⟩ := h.cells
  have H := Aside0.mk h
  have hGG := h.good
  obtain ⟨N, hN⟩ : ∃ N, D.c.length = N := ⟨_, rfl⟩
  have HN := Aside0.mk hN
  rw [hN] at hc own
  obtain ⟨A, cap, rfl⟩ : ∃ A cap, cv = .slice A N cap := by
    rcases own.2 with ⟨rfl, rfl⟩ | ⟨gb, cap, cur, rfl, _⟩
    · exact ⟨none, 0, rfl⟩
    · exact ⟨_, _, rfl⟩
  have HLK : Aside0 (∀ nq, (Instr.lookup 85 (.map (some m)) (.int .i64 n) false).run Try.prog (w.drewN nq) = .ok (.agg (nums .u8 (D.f n)).toArray) (w.drewN nq)) := ⟨fun nq => IsMapOf.look (w := w.drewN nq) im hwf⟩
  have HG := Aside0.mk hGG
  have hl64 : Aside0 ((D.f n).length = 64) := ⟨hGG.2 n⟩
  have u91 := Try.underlying91
  have i91 : (Try.prog.info? 91).map (·.size) = some (nums .u8 (D.f n)).length := by rw [nums_length, hl64.out]; exact info91
  have hone : ∀ (l : List Int), ∀ v ∈ nums .u8 l, v.oneCell' = true := fun l v hv => by
    obtain ⟨x, _, rfl⟩ := List.mem_map.1 hv
    rfl
  have HONE := Aside0.mk hone
  have C2 := Aside0.mk c2
  clear c0 c3 c4 c5 cf im own ob bm bg h hN hGG hone
  go_enter Try.func18, Try.ntmps18
  go_wp2_with fail
  refine LK.out.mono ?_
  rintro e w' ⟨rfl, ⟨nq, rfl⟩⟩
  have hlk2 : (Instr.lookup 85 (.map (some m)) (.int .i64 n) false).run Try.prog (w.drewN nq) = .ok (.agg (nums .u8 (D.f n)).toArray) (w.drewN nq) := HLK.out nq
  go_wp2_with ((with_reducible refine gate_store (t := 91) (p := 7) rfl ?_); refine wpList_store_mid rfl 91 (.tmp 7) (.tmp 21) rfl w.heap.size 0 (nums .u8 (D.f n)).toArray rfl rfl (there91 (w.drewN nq) _ (D.f n) (by rfl) hl64.out) (by rw [i91]; rfl) (all_oneCell_toArray (HONE.out _)) ?_; refine new91 (motive := fun W => wpList _ _ _ _ _ W) (w.drewN nq) _ (D.f n) (by rfl) hl64.out (fun W HA HF => ?_); have c2W : W.cell? ⟨g, 2, none⟩ = some (.slice A N cap) := (World.cell?_of_block (w := w) (HF.keep g hlt (fun h => h))).trans C2.out)
  have HB0 : Aside0 (IsArr W w.heap.size (D.f n)) := ⟨HA⟩
  have HF0 : Aside0 (Fr (fun _ => False) w W) := ⟨HF.drewN'⟩
  clear c1 c2 c2W hlk2 i91 HA HF HLK hl64
  go_loopg [27] N (fun kq v27 w' => ∃ (i : Nat) (b : List Int), v27 = .int .i64 (i : Int) ∧ Aside0 (i + kq = N) ∧ Aside0 (readC n (D.c.drop i) b = readC n D.c (D.f n)) ∧ Aside0 (b.length = 64) ∧
      Aside0 (IsArr w' w.heap.size b) ∧ Aside0 (Fr (fun _ => False) w w'))
  case atStart => exact ⟨0, D.f n, rfl, ⟨by omega⟩, ⟨by rw [List.drop_zero]⟩, ⟨HG.out.2 n⟩, HB0, HF0⟩
  case round =>
    clear HB0 HF0
    obtain ⟨i, b, rfl, HI, HS, HL, HB, HF⟩ := hrel
    cases gk with
    | zero =>
      have hi : i = N := by have := HI.out; omega
      have hge : decide (i < N) = false := by simp; omega
      have R : Aside0 (b = readC n D.c (D.f n)) := ⟨by
        have hs := HS.out
        rw [List.drop_of_length_le (by have := HN.out; have := HI.out; omega)] at hs
        exact hs⟩
      go_wp2
      go_ret2
      exact ⟨w.heap.size, rfl, Nat.le_refl _, R.out ▸ HB.out, HF.out⟩
    | succ k1 =>
      have hlt3 : decide ((i : Int) < (N : Int)) = true := by have := HI.out; simp; omega
      obtain ⟨p, hp⟩ : ∃ p, D.c[i]? = some p := ⟨_, List.getElem?_eq_getElem (by have := HN.out; have := HI.out; omega)⟩
      have HD := H.out.fr HF.out (fun _ _ h => h)
      obtain ⟨m', cv', c0, c1, c2, c3, c4, c5, cf, hltg, im, own, ob, bm, bg⟩ := HD.cells
      have e := (World.cell?_of_block (w := w) (a := ⟨g, 2, none⟩) (HF.out.keep g hlt (fun h => h))).trans C2.out
      rw [c2] at e
      injection e with e
      subst e
      obtain ⟨gb, cap', e, hr⟩ := HD.at own hp
      injection e with e1 e2 e3
      subst e1
      have HP := Aside0.mk hp
      have hi0 : (0 : Int) ≤ (i : Int) := by omega
      have hi1 : (i : Int) < (N : Int) := by have := HI.out; omega
      have u93 := Try.underlying93
      have hGp := HG.out.1 p (List.mem_of_getElem? hp)
      have hlp : Aside0 ((encP p).length = 65) := ⟨encP_length hGp.1⟩
      have h64 : Aside0 (p.2.length = 64) := ⟨hGp.1⟩
      have i93 : (Try.prog.info? 93).map (·.size) = some (encP p).length := by rw [hlp.out]; kernel_rfl
      have i91 : (Try.prog.info? 91).map (·.size) = some (nums .u8 p.2).length := by rw [nums_length, h64.out]; exact info91
      have hwlt : Aside0 (w.heap.size < wr.heap.size) := ⟨HB.out.lt⟩
      have HS3 : Aside0 (readC n (D.c.drop (i + 1)) (if p.1 = n then p.2 else b) = readC n D.c (D.f n)) := ⟨by rw [← HS.out, readC_drop _ _ _ _ hp]⟩
      have HI3 : Aside0 (i + 1 + k1 = N) := ⟨by have := HI.out; omega⟩
      have hwr : Aside0 (wrap64 ((i : Int) + 1) = ((i + 1 : Nat) : Int)) := ⟨by have := HI.out; unfold wrap64; omega⟩
      clear c0 c1 c2 c3 c4 c5 cf im own ob bm bg e2 e3 hp HD hGp
      by_cases hpn : p.1 = n
      · rw [if_pos hpn] at HS3
        have hpb : (p.1 == n) = true := by simpa using hpn
        have HPN := Aside0.mk hpn
        clear hpn
        go_wp2_with (first
          | ((with_reducible refine gate_dst (N := 30) rfl ?_); refine wpList_load_mid rfl 93 (.tmp 29) rfl gb (i * 65) rfl (encP p) _ hr u93 rfl i93 ?_; clear hr)
          | ((with_reducible refine gate_store (t := 93) (p := 9) rfl ?_); refine wpList_store_mid rfl 93 (.tmp 9) (.tmp 30) rfl wr.heap.size 0 (encP p).toArray rfl rfl (there93 wr _ 93 (encP p) (by rw [hlp.out]; rfl)) (by rw [i93]; rfl) (all_oneCell_toArray (one_encP p)) ?_; refine new93 (motive := fun W => wpList _ _ _ _ _ W) wr _ 93 (encP p) (by rw [hlp.out]; rfl) (fun W1 hr1 hs1 hf1 => ?_); have hb0 : W1.cell? ⟨wr.heap.size, 0, none⟩ = some (.int .i64 p.1) := hr1 0 _ rfl; have HF1 := Aside0.mk hf1; have HR1 := Aside0.mk hr1; clear hr1 hf1)
          | ((with_reducible refine gate_dst (N := 36) rfl ?_); refine wpList_load_mid rfl 91 (.tmp 35) rfl wr.heap.size 1 rfl (nums .u8 p.2) _ (fun j v hj => (by
              have := HR1.out (j + 1) v (by simpa [encP] using hj)
              rwa [show 0 + (j + 1) = 1 + j by omega] at this)) u91 rfl i91 ?_; clear hb0)
          | ((with_reducible refine gate_store (t := 91) (p := 7) rfl ?_); have HB1 : IsArr W1 w.heap.size b := HB.out.kept (HF1.out.keep _ hwlt.out (fun h => h)); refine wpList_store_mid rfl 91 (.tmp 7) (.tmp 36) rfl w.heap.size 0 (nums .u8 p.2).toArray rfl rfl (by have := HB1.there; rwa [HL.out, ← h64.out, ← nums_length .u8] at this) (by rw [i91]; rfl) (all_oneCell_toArray (HONE.out _)) ?_; refine put91 (motive := fun W => wpList _ _ _ _ _ W) W1 w.heap.size b p.2 HB1 (h64.out.trans HL.out.symm) (fun W2 HA2 HF2 => ?_); clear HB1))
        have HA3 := Aside0.mk HA2
        have HF3 : Aside0 (Fr (fun _ => False) w W2) := ⟨(HF.out.trans HF1.out (fun _ h => .inl h)).trans HF2 (fun k h => .inr (by rw [h]; exact Nat.le_refl _))⟩
        clear HA2 HF2
        go_roundg k1
        case measure => omega
        case rel => exact ⟨i + 1, p.2, by go_num, HI3, HS3, h64, HA3, HF3⟩
      · rw [if_neg hpn] at HS3
        have hpb : (p.1 == n) = false := by simpa using hpn
        have HPN := Aside0.mk hpn
        clear hpn
        go_wp2_with (first
          | ((with_reducible refine gate_dst (N := 30) rfl ?_); refine wpList_load_mid rfl 93 (.tmp 29) rfl gb (i * 65) rfl (encP p) _ hr u93 rfl i93 ?_; clear hr)
          | ((with_reducible refine gate_store (t := 93) (p := 9) rfl ?_); refine wpList_store_mid rfl 93 (.tmp 9) (.tmp 30) rfl wr.heap.size 0 (encP p).toArray rfl rfl (there93 wr _ 93 (encP p) (by rw [hlp.out]; rfl)) (by rw [i93]; rfl) (all_oneCell_toArray (one_encP p)) ?_; refine new93 (motive := fun W => wpList _ _ _ _ _ W) wr _ 93 (encP p) (by rw [hlp.out]; rfl) (fun W1 hr1 hs1 hf1 => ?_); have hb0 : W1.cell? ⟨wr.heap.size, 0, none⟩ = some (.int .i64 p.1) := hr1 0 _ rfl; have HF1 := Aside0.mk hf1; have HR1 := Aside0.mk hr1; clear hr1 hf1))
        have HA3 : Aside0 (IsArr W1 w.heap.size b) := ⟨HB.out.kept (HF1.out.keep _ hwlt.out (fun h => h))⟩
        have HF3 : Aside0 (Fr (fun _ => False) w W1) := ⟨HF.out.trans HF1.out (fun _ h => .inl h)⟩
        go_roundg k1
        case measure => omega
        case rel => exact ⟨i + 1, b, by go_num, HI3, HS3, HL, HA3, HF3⟩
end Go.Proofs.Ytppgbfkhiofjiaa.X

namespace Go.Proofs.Ytppgbfkhiofjiaa.X
open Go.RowKit Go.Proofs.YtppgbfkhiofjiaaW.PrintWords Go.Proofs.YtppgbfkhiofjiaaW.PrintLast Go.Proofs.YtppgbfkhiofjiaaW.PrintMore
set_option linter.unusedVariables false
set_option linter.unusedSimpArgs false

/-- A block that is a row of bytes. -/
def IsBytes (w : World) (b : Nat) (l : List Int) : Prop := w.heap[b]? = some (.cells (nums .u8 l).toArray 5 (0, 0))
theorem make64 (w : World) : (Instr.makeSlice 22 (.int .i64 64) (.int .i64 64)).run Try.prog w = .ok (.slice (some ⟨w.heap.size, 0, none⟩) 64 64) (w.alloc (.cells (nums .u8 zeros64).toArray 5)) := by
  have h := run_make_row' (P := Try.prog) 22 5 (.int .u8 0) 1 Try.underlying22 info5 rfl .i64 .i64 64 (by omega) (by omega) w
  have e : madeCells #[Value.int .u8 0] 64 = (nums .u8 zeros64).toArray := by kernel_rfl
  rw [e] at h
  exact h
theorem IsBytes.new (w : World) (l : List Int) : IsBytes (w.alloc (.cells (nums .u8 l).toArray 5)) w.heap.size l := heap_alloc_new _ _
theorem IsBytes.lt {w : World} {b : Nat} {l : List Int} (h : IsBytes w b l) : b < w.heap.size := by
  unfold IsBytes at h
  exact (Array.getElem?_eq_some_iff.1 h).1
theorem IsBytes.kept {w w' : World} {b : Nat} {l : List Int} (h : IsBytes w b l) (hk : w'.heap[b]? = w.heap[b]?) : IsBytes w' b l := hk.trans h
theorem IsBytes.cell {w : World} {b : Nat} {l : List Int} (h : IsBytes w b l) (i : Nat) (hi : i < l.length) : w.cell? ⟨b, i, none⟩ = some (.int .u8 (l.getD i 0)) := by
  rw [cell_of_row w b _ _ 5 (0, 0) h, List.getElem?_toArray]
  simp [nums, hi]
theorem IsBytes.free {w : World} {b : Nat} {l : List Int} (h : IsBytes w b l) (i : Nat) : w.frozen? ⟨b, i, none⟩ = false := frozen_of_row w b _ _ 5 h
theorem IsBytes.set {w : World} {b : Nat} {l : List Int} (h : IsBytes w b l) (i : Nat) (x : Int) : IsBytes (w.setCell ⟨b, i, none⟩ (.int .u8 x)) b (l.set i x) := by
  unfold IsBytes
  rw [heap_setCell_same w b i _ 5 _ h]
  congr 2
  apply Array.toList_inj.1
  simp [nums, List.map_set]
theorem IsBytes.C {w : World} {b : Nat} {l : List Int} (h : IsBytes w b l) (hl : l.length ≤ 9223372036854775807) : Kd.C (Kd.int .u8) w (some ⟨b, 0, none⟩) l.length l :=
  Kd.C_of_reads (enc := Value.int .u8) (d := (0 : Int)) (h1 := fun _ => rfl) ⟨rfl, hl, fun _ => ⟨_, rfl, fun j hj => by
    rw [Addr.add_mid, Nat.zero_add]
    exact h.cell j hj⟩⟩
theorem IsArr.cell {w : World} {b : Nat} {l : List Int} (h : IsArr w b l) (i : Nat) (hi : i < l.length) : w.cell? ⟨b, i, none⟩ = some (.int .u8 (l.getD i 0)) := by
  rw [cell_of_row w b _ _ 91 (0, 0) h, List.getElem?_toArray]
  simp [nums, hi]

/-- A block that is a row of truths. -/
def IsBools (w : World) (b : Nat) (l : List Bool) : Prop := w.heap[b]? = some (.cells (l.map Value.bool).toArray 4 (0, 0))
theorem IsBools.kept {w w' : World} {b : Nat} {l : List Bool} (h : IsBools w b l) (hk : w'.heap[b]? = w.heap[b]?) : IsBools w' b l := hk.trans h
theorem IsBools.cell {w : World} {b : Nat} {l : List Bool} (h : IsBools w b l) (i : Nat) (hi : i < l.length) : w.cell? ⟨b, i, none⟩ = some (.bool (l.getD i false)) := by
  rw [cell_of_row w b _ _ 4 (0, 0) h, List.getElem?_toArray]
  simp [hi]
theorem IsBools.C {w : World} {b : Nat} {l : List Bool} (h : IsBools w b l) (hl : l.length ≤ 9223372036854775807) : Kd.C Kd.bool w (some ⟨b, 0, none⟩) l.length l :=
  Kd.C_of_reads (enc := Value.bool) (d := false) (h1 := fun _ => rfl) ⟨rfl, hl, fun _ => ⟨_, rfl, fun j hj => by
    rw [Addr.add_mid, Nat.zero_add]
    exact h.cell j hj⟩⟩
def rowA : List Int := zeros64.set 0 1
def rowB : List Int := zeros64.set 0 2
def wD1 : DS := { newD 4 with c := [(1, rowA)], steps := 1 }
def wD2 : DS := { newD 4 with c := [(1, rowA), (1, rowB)], steps := 2 }
theorem work1 : writeD (newD 4) 1 rowA = (0, wD1) := by rfl
theorem work2 : writeD wD1 1 rowB = (0, wD2) := by rfl
theorem work3 : readC 1 wD2.c (wD2.f 1) = rowB := by rfl
theorem work4 : readC 1 (mendD [true, false] wD2).c ((mendD [true, false] wD2).f 1) = rowA := by rfl

set_option maxHeartbeats 4000000 in
set_option maxRecDepth 100000 in
theorem works_calls (w : World) : Calls Try.prog 12 #[] w fun e w' => e = .returned (.bool true) ∧ Fr (fun _ => False) w w' := by
  have hmk := make64
  go_enter Try.func12, Try.ntmps12
  go_wp2_with fail
  refine (new_calls 4 w (by omega) (by omega)).mono ?_
  rintro e w1 ⟨g, rfl, ⟨B, hd, hB⟩, hb⟩
  have HD := Aside0.mk hd
  have HB := Aside0.mk hB
  have HF := Aside0.mk (Fr.of_below hb (fun _ => False))
  have HLT := Aside0.mk hd.lt
  clear hd hB hb
  go_wp2
  go_cut [3, 4] from 19 to 20 (fun v3 v4 wx => ∃ ka kb, v3 = .slice (some ⟨ka, 0, none⟩) 64 64 ∧ v4 = .slice (some ⟨kb, 0, none⟩) 64 64 ∧ ka ≠ kb ∧ kb ≠ ka ∧ Aside0 (IsBytes wx ka zeros64) ∧ Aside0 (IsBytes wx kb zeros64) ∧
    Aside0 (IsDisk wx B g (newD 4)) ∧ Aside0 (Fr (fun _ => False) w wx) ∧ Aside0 (¬ B ka) ∧ Aside0 (¬ B kb) ∧ Aside0 (w.heap.size ≤ ka) ∧ Aside0 (w.heap.size ≤ kb))
  case first =>
    go_region
    all_goals (go_wp2_with fail; go_meet)
    · refine ⟨_, _, rfl, rfl, by omega, by omega, ⟨?_⟩, ⟨?_⟩, ⟨((HD.out.alloc _).alloc _).drew⟩, ⟨((HF.out.alloc _).alloc _).drew⟩, ⟨?_⟩, ⟨?_⟩, ⟨?_⟩, ⟨?_⟩⟩
      · exact heap_alloc2_old _ _ _
      · exact heap_alloc2_new _ _ _
      · intro h; have := HLT.out _ h; omega
      · intro h; have := HLT.out _ h; omega
      · exact HF.out.size
      · have := HF.out.size; omega
    · refine ⟨_, _, rfl, rfl, by omega, by omega, ⟨?_⟩, ⟨?_⟩, ⟨((HD.out.alloc _).alloc _).drew⟩, ⟨((HF.out.alloc _).alloc _).drew⟩, ⟨?_⟩, ⟨?_⟩, ⟨?_⟩, ⟨?_⟩⟩
      · exact heap_alloc2_new _ _ _
      · exact heap_alloc2_old _ _ _
      · intro h; have := HLT.out _ h; omega
      · intro h; have := HLT.out _ h; omega
      · have := HF.out.size; omega
      · exact HF.out.size
  clear HD HF HLT hmk
  obtain ⟨ka, kb, rfl, rfl, hab, hba, HA, HB1, HD, HF, hnA, hnB, hkA, hkB⟩ := hcut
  have ca := HA.out.cell 0 (by show 0 < 64; omega)
  have cb := HB1.out.cell 0 (by show 0 < 64; omega)
  have fa := HA.out.free 0
  have fb := HB1.out.free 0
  go_wp2_with fail
  clear ca cb fa fb
  have HW1 : Aside0 (IsBytes ((wc.setCell ⟨ka, 0, none⟩ (.int .u8 1)).setCell ⟨kb, 0, none⟩ (.int .u8 2)) ka rowA) := ⟨(HA.out.set 0 1).kept (Below.heap_setCell _ ⟨kb, 0, none⟩ _ _ hab)⟩
  have HW2 : Aside0 (IsBytes ((wc.setCell ⟨ka, 0, none⟩ (.int .u8 1)).setCell ⟨kb, 0, none⟩ (.int .u8 2)) kb rowB) := ⟨(HB1.out.kept (Below.heap_setCell _ ⟨ka, 0, none⟩ _ _ hba)).set 0 2⟩
  have HFw : Fr (fun k => k = ka ∨ k = kb) wc ((wc.setCell ⟨ka, 0, none⟩ (.int .u8 1)).setCell ⟨kb, 0, none⟩ (.int .u8 2)) := ((Fr.refl _ _).setCell (.inl (.inl rfl)) _).setCell (.inl (.inr rfl)) _
  have HF2 : Aside0 (Fr (fun _ => False) w ((wc.setCell ⟨ka, 0, none⟩ (.int .u8 1)).setCell ⟨kb, 0, none⟩ (.int .u8 2))) := ⟨HF.out.trans HFw (fun k h => .inr (h.elim (fun e => e ▸ hkA.out) (fun e => e ▸ hkB.out)))⟩
  have HD2 : Aside0 (IsDisk ((wc.setCell ⟨ka, 0, none⟩ (.int .u8 1)).setCell ⟨kb, 0, none⟩ (.int .u8 2)) B g (newD 4)) := ⟨HD.out.fr HFw (fun k hk h => h.elim (fun e => hnA.out (e ▸ hk)) (fun e => hnB.out (e ▸ hk)))⟩
  clear HA HB1 HD HF HFw
  generalize ((wc.setCell ⟨ka, 0, none⟩ (.int .u8 1)).setCell ⟨kb, 0, none⟩ (.int .u8 2)) = W1 at *
  refine (write_calls g B (newD 4) 1 (some ⟨ka, 0, none⟩) 64 rowA W1 HD2.out ⟨by decide, by decide⟩ (by decide) (by decide) (by decide) (HW1.out.C (by decide)) (by decide) (fun ad e _ => by injection e with e; subst e; exact hnA.out)).mono ?_
  rw [work1]
  rintro e W2 ⟨rfl, ⟨B2, hd2, hb2⟩, hf2⟩
  have HD3 := Aside0.mk hd2
  have HW3 : Aside0 (IsBytes W2 kb rowB) := ⟨HW2.out.kept (hf2.keep _ HW2.out.lt hnB.out)⟩
  have hnB2 : Aside0 (¬ B2 kb) := ⟨fun h => (hb2 _ h).elim hnB.out (fun h => by have := HW2.out.lt; omega)⟩
  have hB2 : Aside0 (∀ k, B2 k → w.heap.size ≤ k) := ⟨fun k h => (hb2 _ h).elim (HB.out k) (fun h => Nat.le_trans HF2.out.size h)⟩
  have HF3 : Aside0 (Fr (fun _ => False) w W2) := ⟨HF2.out.trans hf2 (fun k h => .inr (HB.out k h))⟩
  clear hd2 hb2 hf2 HW1 HW2 HF2 HD2
  go_wp2_with fail
  refine (write_calls g B2 wD1 1 (some ⟨kb, 0, none⟩) 64 rowB W2 HD3.out ⟨by decide, by decide⟩ (by decide) (by decide) (by decide) (HW3.out.C (by decide)) (by decide) (fun ad e _ => by injection e with e; subst e; exact hnB2.out)).mono ?_
  rw [work2]
  rintro e W3 ⟨rfl, ⟨B3, hd3, hb3⟩, hf3⟩
  have HD4 := Aside0.mk hd3
  have hB3 : Aside0 (∀ k, B3 k → w.heap.size ≤ k) := ⟨fun k h => (hb3 _ h).elim (hB2.out k) (fun h => Nat.le_trans HF3.out.size h)⟩
  have HF4 : Aside0 (Fr (fun _ => False) w W3) := ⟨HF3.out.trans hf3 (fun k h => .inr (hB2.out k h))⟩
  clear hd3 hb3 hf3 HW3 HF3 HD3
  go_wp2_with fail
  refine (read_calls g B3 wD2 1 W3 HD4.out (by rfl) (by decide) (by decide)).mono ?_
  rw [work3]
  rintro e W4 ⟨ra, rfl, hra, ha, hf4⟩
  have HA1 := Aside0.mk ha
  have HD5 := Aside0.mk (HD4.out.fr hf4 (fun _ _ h => h))
  have HF5 : Aside0 (Fr (fun _ => False) w W4) := ⟨HF4.out.trans hf4 (fun k h => .inl h)⟩
  have hra' : Aside0 (¬ B3 ra) := ⟨fun h => by have := HD4.out.lt _ h; omega⟩
  clear ha hf4 HD4 HF4 hra
  go_wp2_with fail
  have hbl : IsBools (W4.alloc (.cells #[.bool true, .bool false] 4)) W4.heap.size [true, false] := heap_alloc_new _ _
  refine (mend_calls g B3 wD2 (some ⟨W4.heap.size, 0, none⟩) 2 [true, false] _ (HD5.out.alloc _) (by decide) (by decide) (hbl.C (by decide)) (fun ad e _ h => by injection e with e; subst e; have := HD5.out.lt _ h; exact Nat.lt_irrefl _ this)).mono ?_
  rintro e W5 ⟨rfl, hd5, hf5⟩
  have HD6 := Aside0.mk hd5
  have hf6 := ((Fr.refl B3 W4).alloc _).trans hf5 (fun k h => .inl h)
  have HF6 : Aside0 (Fr (fun _ => False) w W5) := ⟨HF5.out.trans hf6 (fun k h => .inr (hB3.out k h))⟩
  have HA2 : Aside0 (IsArr W5 ra rowB) := ⟨HA1.out.kept (hf6.keep _ HA1.out.lt hra'.out)⟩
  clear hd5 hf5 hf6 HD5 HF5 HA1 hbl
  go_wp2_with fail
  refine (read_calls g B3 (mendD [true, false] wD2) 1 W5 HD6.out (by rfl) (by decide) (by decide)).mono ?_
  rw [work4]
  rintro e W6 ⟨rb, rfl, hrb, hb, hf7⟩
  have HF7 : Aside0 (Fr (fun _ => False) w W6) := ⟨HF6.out.trans hf7 (fun k h => .inl h)⟩
  have a1 := (HA2.out.kept (hf7.keep _ HA2.out.lt (fun h => h))).cell 0 (by decide)
  have a2 := hb.cell 0 (by decide)
  rw [show rowB.getD 0 0 = 2 from rfl] at a1
  rw [show rowA.getD 0 0 = 1 from rfl] at a2
  clear hb hf7 HD6 HF6 HA2 hrb
  go_wp2
  go_ret
  exact ⟨rfl, HF7.out⟩
end Go.Proofs.Ytppgbfkhiofjiaa.X
