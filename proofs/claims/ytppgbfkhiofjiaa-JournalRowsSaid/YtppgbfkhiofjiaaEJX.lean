/-
  The journal: what its steps come to, as functions of a disk's state; and the contract of head.
  The contract of row: steps one behind the other, up to the first that goes wrong.
  The journal: a disk that has gone on; a row of steps on a disk; the contracts of lays and Format.
-/
import Derived.Test.YtppgbfkhiofjiaaEJ0
import Derived.Test.YtppgbfkhiofjiaaED6
import Derived.Test.YtppgbfkhiofjiaaESum
import Derived.Lib.SlBytesConst
namespace Go.Proofs.Ytppgbfkhiofjiaa.X
open Go.RowKit Go.Proofs.YtppgbfkhiofjiaaW.PrintWords Go.Proofs.YtppgbfkhiofjiaaW.PrintLast Go.Proofs.YtppgbfkhiofjiaaW.PrintMore Go.Proofs.Ytppgbfkhiofjiaa.Y
set_option linter.unusedVariables false
set_option linter.unusedSimpArgs false

def fourL (n : Int) : List Int := [n % 256, n / 256 % 256, n / 65536 % 256, n / 16777216 % 256]
def headL (count sum : Int) : List Int := [82, 76, 74, 49] ++ fourL count ++ fourL sum ++ List.replicate 52 0
theorem headL_length (a s : Int) : (headL a s).length = 64 := rfl

theorem cellK {w w' : World} (hf : Fr (fun _ => False) w w') {a : Addr} {u : Value} (h : w.cell? a = some u) : w'.cell? a = some u :=
  (World.cell?_of_block (w := w) (hf.keep _ (World.block_lt_of_cell? w _ h) (fun h => h))).trans h
theorem nums_four (l : List Int) : encs (Value.int .u8) l = nums .u8 l := rfl
set_option maxHeartbeats 4000000 in
set_option maxRecDepth 100000 in
/-- four onto a row that is full. -/
theorem four_const (g : Nat) (n : Nat) (l : List Int) (a : Int) (w : World) (hn : l.length = n) (hn' : n ≤ 1000) (hc : ∀ j u, (nums .u8 l)[j]? = some u → w.cell? ⟨g, j, none⟩ = some u) :
    Calls Try.prog 74 #[.slice (some ⟨g, 0, none⟩) n n, .int .u32 a] w fun e w' => ∃ v, e = .returned v ∧ Kd.R (Kd.int .u8) 5 w' w.heap.size (fun k => w.heap.size ≤ k) v (l ++ fourL a) ∧ Below w.heap.size w w' := by
  have HC := Aside0.mk hc
  have HN := Aside0.mk hn
  obtain ⟨i0, hi0, hzz⟩ := Option.map_eq_some_iff.1 info5
  simp only [Prod.mk.injEq] at hzz
  have HI := Aside0.mk hi0
  have HZ := Aside0.mk hzz
  clear hc hn hi0 hzz
  go_enter Try.func74, Try.ntmps74
  go_wp2_with ((with_reducible refine gate_builtin (b := .append) (xs := #[.tmp 5, .tmp 17]) rfl ?_); at_builtin; refine wpList_append_grows _ rfl (.tmp 5) (.tmp 17) 22 rfl 5 i0 (.int .u8 0) 1 1 Try.underlying22 HI.out HZ.out.1 HZ.out.2.1 HZ.out.2.2 rfl (by decide) (some ⟨g, 0, none⟩) n n (nums .u8 l) rfl (by simp) (by rw [nums, List.length_map, HN.out, Nat.mul_one]) (fun b e j u hj => by injection e with e; subst e; have h1 := HC.out j u hj; rw [Addr.add_mid, Nat.zero_add]; exact cellK ((Fr.refl (fun _ => False) w).alloc _) h1) ⟨w.heap.size, 0, none⟩ 4 4 (nums .u8 (fourL a)) rfl rfl (fun j u hj => by rw [Addr.add_mid, Nat.zero_add, cell_of_row _ _ _ _ 5 (0, 0) (heap_alloc_new w _)]; rw [← hj]; exact List.getElem?_toArray) (fun u hu => by obtain ⟨x, _, rfl⟩ := List.mem_map.1 hu; rfl) (by omega) (by simp only [maxLen]; omega) (by omega) ?_; intro v1 w1 h1 h2)
  go_ret
  have ho : w1.ownsRow w.heap.size 5 1 v1 (l ++ fourL a).length (encs (Value.int .u8) (l ++ fourL a)) := by
    have e1 : (l ++ fourL a).length = n + 4 := by rw [List.length_append, HN.out]; rfl
    rw [e1]
    have e2 : encs (Value.int .u8) (l ++ fourL a) = nums .u8 l ++ nums .u8 (fourL a) := by simp [nums, encs]
    rw [e2]
    exact own_weaken h1 (by simp)
  exact ⟨v1, rfl, Kd.R_of_own (h1 := fun _ => rfl) ho (fun k e => own_base ho k e), ((Below.refl _ _).alloc (Nat.le_refl _) _).grown h2 (by simp) (fun k e => by cases e)⟩
set_option maxHeartbeats 4000000 in
set_option maxRecDepth 100000 in
theorem head_calls (a s : Int) (w : World) (ha : 0 ≤ a ∧ a < 4294967296) :
    Calls Try.prog 62 #[.int .i64 a, .int .u32 s] w fun e w' => ∃ A c, e = .returned (.slice A 64 c) ∧ Kd.R (Kd.int .u8) 5 w' w.heap.size (fun _ => True) (.slice A 64 c) (headL a s) ∧ Below w.heap.size w w' := by
  obtain ⟨h1, h2⟩ := ha
  have kc := fun (w : World) (C : Array Value) (n c : Nat) => Lib.run_convert_bytes_const (P := Try.prog) w 22 5 C n c Try.underlying22 Try.underlying5
  have hcc := fun j u hj => (cell_of_row (w.alloc (.cells #[.int .u8 82, .int .u8 76, .int .u8 74, .int .u8 49] 5 (4, 5))) w.heap.size j _ 5 (4, 5) (heap_alloc_new w _)).trans (show (#[.int .u8 82, .int .u8 76, .int .u8 74, .int .u8 49] : Array Value)[j]? = some u from hj)
  have FC := Aside0.mk (four_const w.heap.size 4 [82, 76, 74, 49] a (w.alloc (.cells #[.int .u8 82, .int .u8 76, .int .u8 74, .int .u8 49] 5 (4, 5))) rfl (by omega) (fun j u hj => hcc j u (by rw [← hj]; exact List.getElem?_toArray)))
  have HB0 : Aside0 (Below w.heap.size w (w.alloc (.cells #[.int .u8 82, .int .u8 76, .int .u8 74, .int .u8 49] 5 (4, 5)))) := ⟨(Below.refl _ _).alloc (Nat.le_refl _) _⟩
  clear hcc
  go_enter Try.func62, Try.ntmps62
  go_wp2_with fail
  refine FC.out.mono ?_
  rintro e w1 ⟨v1, rfl, r1, b1⟩
  have HR1 : Aside0 (Kd.R (Kd.int .u8) 5 w1 w.heap.size (fun k => w.heap.size ≤ k) v1 ([82, 76, 74, 49] ++ fourL a)) := ⟨Kd.R_lower (Kd.R_mono r1 (fun k h => by simp at h; omega)) (by simp)⟩
  have HB1 : Aside0 (Below w.heap.size w w1) := ⟨HB0.out.trans (b1.mono (by simp))⟩
  clear r1 b1 HB0 FC
  obtain ⟨A1, c1, rfl⟩ := Kd.R_slice HR1.out
  go_wp2_with fail
  refine (journal_four.calls _ _ _ s ([82, 76, 74, 49] ++ fourL a ++ fourL s) w _ HB1.out HR1.out rfl).mono ?_
  rintro e w2 ⟨v2, rfl, r2, b2, k2⟩
  have HR2 : Aside0 (Kd.R (Kd.int .u8) 5 w2 w.heap.size (fun k => w.heap.size ≤ k) v2 ([82, 76, 74, 49] ++ fourL a ++ fourL s)) := ⟨Kd.R_mono r2 (fun k h => h.elim id (fun h => by have := b2.size; have := HB1.out.size; omega))⟩
  have HB2 := Aside0.mk b2
  clear r2 b2 k2 HR1 HB1
  obtain ⟨A2, c2, rfl⟩ := Kd.R_slice HR2.out
  have hl12 : ([82, 76, 74, 49] ++ fourL a ++ fourL s : List Int).length = 12 := rfl
  rw [hl12] at HR2 ⊢
  clear hl12
  go_wp2_with ((with_reducible refine gate_builtin (b := .append) (xs := #[.tmp 13, .tmp 16]) rfl ?_); at_builtin; refine Kd.R_append_zeros (Kd.int .u8) w.heap.size rfl (.tmp 13) (.tmp 16) 22 3 5 (.int .u8 0) 1 rfl Try.underlying22 Try.underlying3 info5 rfl (by decide) (by decide) (.slice A2 12 c2) _ 0 52 (fun k => w.heap.size ≤ k) rfl rfl rfl (fun _ h => Nat.le_trans HB2.out.size h) HR2.out (by omega) HB2.out HB2.out.size (by show (12 + 52) * 1 ≤ _; omega) ?_; intro v3 w3 r3 b3 g3 at3)
  obtain ⟨A3, c3, rfl⟩ := Kd.R_slice r3
  go_ret
  exact ⟨A3, c3, rfl, Kd.R_mono r3 (fun _ _ => trivial), b3⟩
end Go.Proofs.Ytppgbfkhiofjiaa.X

namespace Go.Proofs.Ytppgbfkhiofjiaa.X
open Go.RowKit Go.Proofs.YtppgbfkhiofjiaaW.PrintWords Go.Proofs.YtppgbfkhiofjiaaW.PrintLast Go.Proofs.YtppgbfkhiofjiaaW.PrintMore
set_option linter.unusedVariables false
set_option linter.unusedSimpArgs false

/-- A step: a function, what is bound ahead, what it captured. -/
structure StepV where
  k : Nat
  bnd : Array Value
  fr : Array Value
def StepV.val (s : StepV) : Value := .func (.func s.k) s.bnd s.fr
/-- What a row's end says. -/
def SomeErr (Q : Int → World → Prop) (e : Ending) (w' : World) : Prop := ∃ x : Int, e = .returned (.int .i64 x) ∧ Q x w'
/-- What one step's end says. -/
def StepEnd (J : World → Prop) (Q : Int → World → Prop) (e : Ending) (w' : World) : Prop := ∃ x : Int, e = .returned (.int .i64 x) ∧ (x = 0 → J w') ∧ (x ≠ 0 → Q x w')

set_option maxHeartbeats 4000000 in
set_option maxRecDepth 100000 in
theorem row_calls (fs : List StepV) (n : Nat) (hn : fs.length = n) (hn9 : n ≤ 1000) (A : Addr) (c : Nat) (w : World) (J : Nat → World → Prop) (Q : Int → World → Prop)
    (hcell : ∀ (i : Nat) (s : StepV) (W : World), J i W → fs[i]? = some s → W.cell? (A.add i) = some s.val)
    (hstep : ∀ (i : Nat) (s : StepV) (W : World), fs[i]? = some s → J i W → Calls Try.prog s.k (s.bnd ++ s.fr) W (StepEnd (J (i + 1)) Q))
    (hent : ∀ (i : Nat) (s : StepV), fs[i]? = some s → ∀ (args : Array Value) (W : World), (callFunc s.k args).run Try.prog W = .ok (.enter s.k args) W)
    (hend : ∀ W, J n W → Q 0 W) (h0 : J 0 w) :
    Calls Try.prog 78 #[.slice (some A) n c] w (SomeErr Q) := by
  have HC := Aside0.mk hcell
  have HS := Aside0.mk hstep
  have HE := Aside0.mk hend
  have H0 := Aside0.mk h0
  have HN := Aside0.mk hn
  have HEN := Aside0.mk hent
  clear hent hcell hstep hend h0 hn
  go_enter Try.func78, Try.ntmps78
  go_wp2_with fail
  go_loopg [8] n (fun kq v8 w' => ∃ (i : Nat), v8 = .int .i64 (i : Int) ∧ Aside0 (i + kq = n) ∧ Aside0 (J i w'))
  case atStart => exact ⟨0, rfl, ⟨by omega⟩, H0⟩
  case round =>
    clear H0
    obtain ⟨i, rfl, HI, HJ⟩ := hrel
    have hi0 : (0 : Int) ≤ (i : Int) := by omega
    cases gk with
    | zero =>
      have hi : i = n := by have := HI.out; omega
      subst hi
      go_wp2_with fail
      go_ret
      exact ⟨0, rfl, HE.out _ HJ.out⟩
    | succ k1 =>
      have hi1 : (i : Int) < (n : Int) := by have := HI.out; omega
      have HI3 : Aside0 (i + 1 + k1 = n) := ⟨by have := HI.out; omega⟩
      obtain ⟨s, hs⟩ : ∃ s, fs[i]? = some s := ⟨_, List.getElem?_eq_getElem (by rw [HN.out]; omega)⟩
      have x0 := HC.out i s wr HJ.out hs
      have ST := Aside0.mk (HS.out i s wr hs HJ.out)
      obtain ⟨k, bnd, fr⟩ := s
      have y0 : wr.cell? (A.add i) = some (.func (.func k) bnd fr) := x0
      have en : ∀ (args : Array Value) (W : World), (callFunc k args).run Try.prog W = .ok (.enter k args) W := HEN.out i _ hs
      clear x0 hs
      go_wp2_with fail
      refine ST.out.mono ?_
      rintro e w' ⟨x, rfl, hx0, hx1⟩
      have X0 := Aside0.mk hx0
      have X1 := Aside0.mk hx1
      clear hx0 hx1 ST y0 en
      by_cases hx : x = 0
      · subst hx
        have HJ2 := Aside0.mk (X0.out rfl)
        clear X0 X1
        go_wp2_with fail
        go_roundg k1
        case measure => omega
        case rel => exact ⟨i + 1, by go_num, HI3, HJ2⟩
      · have hq := X1.out hx
        have HQ := Aside0.mk hq
        have e1 : (x != 0) = true := by simpa using hx
        clear X0 X1 hq
        go_wp2_with fail
        go_ret
        exact ⟨x, rfl, HQ.out⟩
end Go.Proofs.Ytppgbfkhiofjiaa.X

namespace Go.Proofs.Ytppgbfkhiofjiaa.X
open Go.RowKit Go.Proofs.YtppgbfkhiofjiaaW.PrintWords Go.Proofs.YtppgbfkhiofjiaaW.PrintLast Go.Proofs.YtppgbfkhiofjiaaW.PrintMore Go.Proofs.Ytppgbfkhiofjiaa.Y
set_option linter.unusedVariables false
set_option linter.unusedSimpArgs false

/-! ### Pure -/
def seqD (r : Int × DS) (k : DS → Int × DS) : Int × DS := if r.1 = 0 then k r.2 else r
def runD : List (DS → Int × DS) → DS → Int × DS
  | [], D => (0, D)
  | f :: l, D => seqD (f D) (runD l)
def laysD (h : List Int) (D : DS) : Int × DS := runD [fun D => writeD D 0 h, flushD] D

/-- What a journal's steps ask of a disk: i bounds what has been done. -/
structure JOk (i : Nat) (D : DS) : Prop where
  steps : 0 ≤ D.steps ∧ D.steps ≤ i
  left : D.left ≤ 9223372036854775807
  u : D.u + D.c.length ≤ i
theorem JOk.mono {i j : Nat} {D : DS} (h : JOk i D) (hj : i ≤ j) : JOk j D := ⟨⟨h.steps.1, by have := h.steps.2; omega⟩, h.left, by have := h.u; omega⟩
theorem JOk.step {i : Nat} {D : DS} (h : JOk i D) : JOk (i + 1) (stepD D).2 ∧ (stepD D).2.u + (stepD D).2.c.length ≤ i := by
  obtain ⟨h1, h2, h3⟩ := h
  obtain ⟨a1, a2, a3, a4⟩ := stepD_c D
  refine ⟨⟨?_, ?_, by rw [a1, a2]; omega⟩, by rw [a1, a2]; exact h3⟩
  · unfold stepD
    split
    · exact ⟨h1.1, by show D.steps ≤ ((i + 1 : Nat) : Int); omega⟩
    · exact ⟨by show 0 ≤ D.steps + 1; omega, by show D.steps + 1 ≤ ((i + 1 : Nat) : Int); omega⟩
  · unfold stepD
    split
    · exact h2
    · show (if 0 < D.left then D.left - 1 else D.left) ≤ _
      split <;> omega
theorem JOk.write {i : Nat} {D : DS} (h : JOk i D) (n : Int) (b : List Int) : JOk (i + 1) (writeD D n b).2 := by
  unfold writeD
  split
  · split
    · split
      · obtain ⟨⟨g1, g2, g3⟩, g4⟩ := h.step
        refine ⟨g1, g2, ?_⟩
        show (stepD D).2.u + ((stepD D).2.c ++ [(n, b)]).length ≤ i + 1
        rw [List.length_append, List.length_singleton]
        omega
      · exact h.step.1
    · exact h.mono (Nat.le_succ i)
  · exact h.mono (Nat.le_succ i)
theorem JOk.flush {i : Nat} {D : DS} (h : JOk i D) : JOk (i + 1) (flushD D).2 := by
  unfold flushD
  split
  · exact h.mono (Nat.le_succ i)
  · split
    · obtain ⟨⟨g1, g2, g3⟩, g4⟩ := h.step
      exact ⟨g1, g2, by show (stepD D).2.u + (stepD D).2.c.length + 0 ≤ i + 1; omega⟩
    · exact h.step.1
theorem JOk.mend {i : Nat} {D : DS} (h : JOk i D) (l : List Bool) : JOk i (mendD l D) := by
  obtain ⟨h1, h2, h3⟩ := h
  exact ⟨h1, by show (-1 : Int) ≤ _; decide, by show D.u + D.c.length + 0 ≤ i; omega⟩
theorem JOk.arm {i : Nat} {D : DS} (h : JOk i D) (n : Int) (hn : n ≤ 9223372036854775807) : JOk i { D with left := if n < -1 then -1 else n } := by
  obtain ⟨h1, h2, h3⟩ := h
  exact ⟨h1, by show (if n < -1 then -1 else n) ≤ _; split <;> omega, h3⟩
theorem jok_new (n : Int) : JOk 0 (newD n) := ⟨⟨Int.le_refl 0, Int.le_refl 0⟩, by show (-1 : Int) ≤ 9223372036854775807; decide, Nat.le_refl 0⟩
theorem JOk.seq {i j k : Nat} {r : Int × DS} {f : DS → Int × DS} (h : JOk i r.2) (hk : JOk i r.2 → JOk k (f r.2).2) (hik : i ≤ k) : JOk k (seqD r f).2 := by
  unfold seqD
  split
  · exact hk h
  · exact h.mono hik
theorem JOk.lays {i : Nat} {D : DS} (h : JOk i D) (b : List Int) : JOk (i + 2) (laysD b D).2 :=
  JOk.seq (j := 0) (h.write 0 b) (fun h1 => JOk.seq (j := 0) h1.flush (fun h2 => h2) (Nat.le_refl _)) (by omega)

/-! ### A disk that has gone on -/
def Moved (w0 : World) (B : Nat → Prop) (g : Nat) (W : World) (D : DS) : Prop := ∃ B', IsDisk W B' g D ∧ (∀ k, B' k → B k ∨ w0.heap.size ≤ k) ∧ Fr B w0 W
theorem Moved.refl {w : World} {B : Nat → Prop} {g : Nat} {D : DS} (h : IsDisk w B g D) : Moved w B g w D := ⟨B, h, fun _ h => .inl h, Fr.refl _ _⟩
theorem Moved.of {w W : World} {B : Nat → Prop} {g : Nat} {D : DS} (h : IsDisk W B g D) (f : Fr B w W) : Moved w B g W D := ⟨B, h, fun _ h => .inl h, f⟩
theorem Moved.back {w0 w1 w2 : World} {B B1 : Nat → Prop} {g : Nat} {D : DS} (m : Moved w1 B1 g w2 D) (hs : ∀ k, B1 k → B k ∨ w0.heap.size ≤ k) (f : Fr B w0 w1) : Moved w0 B g w2 D := by
  obtain ⟨B2, h, h1, f2⟩ := m
  exact ⟨B2, h, fun k hk => (h1 k hk).elim (hs k) (fun h => .inr (Nat.le_trans f.size h)), f.trans f2 hs⟩
theorem Moved.quiet {w0 W W' : World} {B : Nat → Prop} {g : Nat} {D : DS} (m : Moved w0 B g W D) (f : Fr (fun _ => False) W W') : Moved w0 B g W' D := by
  obtain ⟨B', h, h1, f1⟩ := m
  exact ⟨B', h.fr f (fun _ _ h => h), h1, f1.trans f (fun _ h => h.elim)⟩
theorem Moved.fr {w0 W : World} {B : Nat → Prop} {g : Nat} {D : DS} (m : Moved w0 B g W D) : Fr B w0 W := m.elim fun _ h => h.2.2
theorem Moved.ahead {w w0 W : World} {B : Nat → Prop} {g : Nat} {D : DS} (m : Moved w0 B g W D) (f : Fr (fun _ => False) w w0) : Moved w B g W D :=
  m.back (fun _ h => .inl h) (f.mono (fun _ h => h.elim))
theorem cellB {w w' : World} {B : Nat → Prop} (hf : Fr B w w') {a : Addr} (hb : ¬ B a.block) {u : Value} (h : w.cell? a = some u) : w'.cell? a = some u :=
  (World.cell?_of_block (w := w) (hf.keep _ (World.block_lt_of_cell? w _ h) hb)).trans h
theorem farC {α : Type} {enc : α → Value} {h1 : ∀ x, (enc x).oneCell' = true} (d : α) {w : World} {A : Option Addr} {n : Nat} {xs : List α} (h : (Kd.scalar enc h1).C w A n xs) : ∀ ad, A = some ad → 0 < n → ad.block < w.heap.size := fun ad e h0 => by
  rcases Nat.lt_or_ge ad.block w.heap.size with h' | h'
  · exact h'
  · exact absurd rfl (Kd.far_C d h h' ad e h0)

/-- A step of a row with what it does to a disk. -/
abbrev StepD := StepV × (DS → Int × DS)
theorem row_disk (fs : List StepD) (n : Nat) (hn : fs.length = n) (hn9 : n ≤ 1000) (A : Addr) (c : Nat) (W0 : World) (B : Nat → Prop) (g : Nat) (D : DS) (I : Nat → DS → Prop)
    (hcells : ∀ (i : Nat) (s : StepD), fs[i]? = some s → W0.cell? (A.add i) = some s.1.val) (hA : ¬ B A.block)
    (hent : ∀ (i : Nat) (s : StepD), fs[i]? = some s → ∀ (args : Array Value) (W : World), (callFunc s.1.k args).run Try.prog W = .ok (.enter s.1.k args) W)
    (hstep : ∀ (i : Nat) (s : StepD) (W : World) (D' : DS), fs[i]? = some s → I i D' → Moved W0 B g W D' → Calls Try.prog s.1.k (s.1.bnd ++ s.1.fr) W fun e W' => e = .returned (.int .i64 (s.2 D').1) ∧ Moved W0 B g W' (s.2 D').2)
    (hI : ∀ (i : Nat) (s : StepD) (D' : DS), fs[i]? = some s → I i D' → I (i + 1) (s.2 D').2) (h0 : IsDisk W0 B g D) (hI0 : I 0 D) :
    Calls Try.prog 78 #[.slice (some A) n c] W0 fun e w' => e = .returned (.int .i64 (runD (fs.map (·.2)) D).1) ∧ Moved W0 B g w' (runD (fs.map (·.2)) D).2 := by
  have hAb : ∀ i, (A.add i).block = A.block := fun i => by unfold Addr.add; split <;> rfl
  refine (row_calls (fs.map (·.1)) n (by simpa using hn) hn9 A c W0 (fun i W => ∃ D', Moved W0 B g W D' ∧ I i D' ∧ runD (fs.map (·.2)) D = runD ((fs.drop i).map (·.2)) D')
    (fun x W => x = (runD (fs.map (·.2)) D).1 ∧ Moved W0 B g W (runD (fs.map (·.2)) D).2) ?_ ?_ ?_ ?_ ?_).mono ?_
  · rintro i s W ⟨D', m, _, _⟩ hs
    rw [List.getElem?_map] at hs
    obtain ⟨s', hs', rfl⟩ := Option.map_eq_some_iff.1 hs
    exact cellB m.fr (by rw [hAb]; exact hA) (hcells i s' hs')
  · rintro i s W hs ⟨D', m, hi, he⟩
    rw [List.getElem?_map] at hs
    obtain ⟨s', hs', rfl⟩ := Option.map_eq_some_iff.1 hs
    refine (hstep i s' W D' hs' hi m).mono ?_
    rintro e W' ⟨rfl, m'⟩
    obtain ⟨hlt, hget⟩ := List.getElem?_eq_some_iff.1 hs'
    rw [List.drop_eq_getElem_cons hlt, hget, List.map_cons, runD, seqD] at he
    refine ⟨_, rfl, fun h => ⟨_, m', hI i s' D' hs' hi, ?_⟩, fun h => ?_⟩
    · rw [he, if_pos h]
    · rw [he, if_neg h]
      exact ⟨rfl, m'⟩
  · intro i s hs
    rw [List.getElem?_map] at hs
    obtain ⟨s', hs', rfl⟩ := Option.map_eq_some_iff.1 hs
    exact hent i s' hs'
  · rintro W ⟨D', m, hi, he⟩
    rw [List.drop_eq_nil_of_le (by omega)] at he
    rw [he]
    exact ⟨rfl, m⟩
  · exact ⟨D, Moved.refl h0, hI0, by rw [List.drop_zero]⟩
  · rintro e w' ⟨x, rfl, rfl, m⟩
    exact ⟨rfl, m⟩

theorem ent14 (args : Array Value) (W : World) : (callFunc 14 args).run Try.prog W = .ok (.enter 14 args) W := enters_ Try.func14 (by kernel_rfl) rfl args W
theorem ent15 (args : Array Value) (W : World) : (callFunc 15 args).run Try.prog W = .ok (.enter 15 args) W := enters_ Try.func15 (by kernel_rfl) rfl args W
theorem ent77 (args : Array Value) (W : World) : (callFunc 77 args).run Try.prog W = .ok (.enter 77 args) W := enters_ Try.func77 (by kernel_rfl) rfl args W
theorem ent79 (args : Array Value) (W : World) : (callFunc 79 args).run Try.prog W = .ok (.enter 79 args) W := enters_ Try.func79 (by kernel_rfl) rfl args W
theorem ent80 (args : Array Value) (W : World) : (callFunc 80 args).run Try.prog W = .ok (.enter 80 args) W := enters_ Try.func80 (by kernel_rfl) rfl args W
theorem ent82 (args : Array Value) (W : World) : (callFunc 82 args).run Try.prog W = .ok (.enter 82 args) W := enters_ Try.func82 (by kernel_rfl) rfl args W
theorem ent83 (args : Array Value) (W : World) : (callFunc 83 args).run Try.prog W = .ok (.enter 83 args) W := enters_ Try.func83 (by kernel_rfl) rfl args W
theorem ent84 (args : Array Value) (W : World) : (callFunc 84 args).run Try.prog W = .ok (.enter 84 args) W := enters_ Try.func84 (by kernel_rfl) rfl args W

theorem wf0 : (Lit.int .i64 0).wf = true := by decide
/-- Write and Flush, said as 'Moved'. -/
theorem write_moved (g : Nat) (B : Nat → Prop) (D : DS) (n : Int) (A : Option Addr) (cp : Nat) (b : List Int) (w : World) (i : Nat) (h : IsDisk w B g D) (ho : JOk i D) (hi : i ≤ 500000)
    (hwf : (Lit.int .i64 n).wf = true) (hb : Kd.C (Kd.int .u8) w A b.length b) (hcap : b.length ≤ cp) (hdis : ∀ ad, A = some ad → 0 < b.length → ¬ B ad.block) :
    Calls Try.prog 14 #[.pointer (some ⟨g, 0, none⟩), .int .i64 n, .slice A b.length cp] w fun e w' => e = .returned (.int .i64 (writeD D n b).1) ∧ Moved w B g w' (writeD D n b).2 :=
  (write_calls g B D n A cp b w h ⟨by have := ho.steps.1; omega, by have := ho.steps.2; omega⟩ ho.left hwf (by have := ho.u; omega) hb hcap hdis).mono fun e w' ⟨he, ⟨B', h1, h2⟩, h3⟩ => ⟨he, B', h1, h2, h3⟩
theorem flush_moved (g : Nat) (B : Nat → Prop) (D : DS) (w : World) (i : Nat) (h : IsDisk w B g D) (ho : JOk i D) (hi : i ≤ 500000) :
    Calls Try.prog 15 #[.pointer (some ⟨g, 0, none⟩)] w fun e w' => e = .returned (.int .i64 (flushD D).1) ∧ Moved w B g w' (flushD D).2 :=
  (flush_calls g B D w h ⟨by have := ho.steps.1; omega, by have := ho.steps.2; omega⟩ ho.left (by have := ho.u; omega) (by have := ho.u; omega)).mono fun e w' ⟨he, h1, h3⟩ => ⟨he, Moved.of h1 h3⟩

set_option maxHeartbeats 4000000 in
set_option maxRecDepth 100000 in
theorem lays1_calls (g : Nat) (B : Nat → Prop) (D : DS) (A : Option Addr) (cp : Nat) (b : List Int) (n0 n1 : Nat) (w : World) (i : Nat) (h : IsDisk w B g D) (ho : JOk i D) (hi : i ≤ 500000)
    (c0 : w.cell? ⟨n0, 0, none⟩ = some (.pointer (some ⟨g, 0, none⟩))) (c1 : w.cell? ⟨n1, 0, none⟩ = some (.slice A 64 cp)) (hl : b.length = 64) (hb : Kd.C (Kd.int .u8) w A 64 b) (hcap : 64 ≤ cp) (hdis : ∀ ad, A = some ad → ¬ B ad.block) :
    Calls Try.prog 84 #[.pointer (some ⟨n0, 0, none⟩), .pointer (some ⟨n1, 0, none⟩)] w fun e w' => e = .returned (.int .i64 (writeD D 0 b).1) ∧ Moved w B g w' (writeD D 0 b).2 := by
  have WC := Aside0.mk (write_moved g B D 0 A cp b w i h ho hi wf0 (by rw [hl]; exact hb) (by rw [hl]; exact hcap) (fun ad e _ => hdis ad e))
  rw [hl] at WC
  clear h ho hl hb hdis
  go_enter Try.func84, Try.ntmps84
  go_wp2_with fail
  refine WC.out.mono ?_
  rintro e w' ⟨rfl, m⟩
  have M := Aside0.mk m
  clear m
  go_wp2_with fail
  go_ret
  exact ⟨rfl, M.out⟩

/-- The row of lays, told of any world that looks like it. -/
theorem lays_row (g : Nat) (B : Nat → Prop) (D : DS) (A : Option Addr) (cp : Nat) (b : List Int) (n0 n1 n2 c : Nat) (W : World) (i : Nat) (h : IsDisk W B g D) (ho : JOk i D) (hi : i ≤ 400000)
    (c0 : W.cell? ⟨n0, 0, none⟩ = some (.pointer (some ⟨g, 0, none⟩))) (c1 : W.cell? ⟨n1, 0, none⟩ = some (.slice A 64 cp)) (b0 : ¬ B n0) (b1 : ¬ B n1) (b2 : ¬ B n2)
    (d0 : W.cell? ⟨n2, 0, none⟩ = some (.func (.func 84) #[] #[.pointer (some ⟨n0, 0, none⟩), .pointer (some ⟨n1, 0, none⟩)])) (d1 : W.cell? ⟨n2, 1, none⟩ = some (.func (.func 15) #[.pointer (some ⟨g, 0, none⟩)] #[]))
    (hl : b.length = 64) (hb : ∀ W', Fr B W W' → Kd.C (Kd.int .u8) W' A 64 b) (hcap : 64 ≤ cp) (hdis : ∀ ad, A = some ad → ¬ B ad.block) :
    Calls Try.prog 78 #[.slice (some ⟨n2, 0, none⟩) 2 c] W fun e w' => e = .returned (.int .i64 (laysD b D).1) ∧ Moved W B g w' (laysD b D).2 := by
  refine row_disk [(⟨84, #[], #[.pointer (some ⟨n0, 0, none⟩), .pointer (some ⟨n1, 0, none⟩)]⟩, fun D => writeD D 0 b), (⟨15, #[.pointer (some ⟨g, 0, none⟩)], #[]⟩, flushD)] 2 rfl (by omega) ⟨n2, 0, none⟩ c W B g D (fun k D => JOk (i + k) D) ?_ b2 ?_ ?_ ?_ h ho
  · intro j s hs
    match j, hs with
    | 0, hs => obtain rfl := Option.some.inj hs; exact d0
    | 1, hs => obtain rfl := Option.some.inj hs; exact d1
  · intro j s hs
    match j, hs with
    | 0, hs => obtain rfl := Option.some.inj hs; exact ent84
    | 1, hs => obtain rfl := Option.some.inj hs; exact ent15
  · intro j s W' D' hs hI m
    obtain ⟨B', h', hs', f'⟩ := m
    match j, hs with
    | 0, hs =>
      obtain rfl := Option.some.inj hs
      have hC := hb W' f'
      refine (lays1_calls g B' D' A cp b n0 n1 W' _ h' hI (by omega) (cellB f' b0 c0) (cellB f' b1 c1) hl hC hcap (fun ad e hB' => (hs' _ hB').elim (hdis ad e) (fun hge => ?_))).mono fun e w' ⟨he, m'⟩ => ⟨he, m'.back hs' f'⟩
      have := farC (0 : Int) (hb W (Fr.refl _ _)) ad e (by omega)
      omega
    | 1, hs =>
      obtain rfl := Option.some.inj hs
      exact (flush_moved g B' D' W' _ h' hI (by omega)).mono fun e w' ⟨he, m'⟩ => ⟨he, m'.back hs' f'⟩
  · intro j s D' hs hI
    match j, hs with
    | 0, hs => obtain rfl := Option.some.inj hs; exact hI.write 0 b
    | 1, hs => obtain rfl := Option.some.inj hs; exact hI.flush

theorem alloc3_cells {w : World} (a b c : Array Value) (t u v : TypeId) (j : Nat) :
    (((w.alloc (.cells a t)).alloc (.cells b u)).alloc (.cells c v)).cell? ⟨w.heap.size, j, none⟩ = a[j]? ∧ (((w.alloc (.cells a t)).alloc (.cells b u)).alloc (.cells c v)).cell? ⟨w.heap.size + 1, j, none⟩ = b[j]? ∧ (((w.alloc (.cells a t)).alloc (.cells b u)).alloc (.cells c v)).cell? ⟨w.heap.size + 1 + 1, j, none⟩ = c[j]? := by
  have e1 : (w.alloc (.cells a t)).heap.size = w.heap.size + 1 := by simp
  have e2 : ((w.alloc (.cells a t)).alloc (.cells b u)).heap.size = w.heap.size + 1 + 1 := by simp
  have h0 : (((w.alloc (.cells a t)).alloc (.cells b u)).alloc (.cells c v)).heap[w.heap.size]? = some (.cells a t (0, 0)) := by
    rw [Below.heap_alloc _ _ _ (by rw [e2]; omega), Below.heap_alloc _ _ _ (by rw [e1]; omega)]
    exact heap_alloc_new _ _
  have h1 : (((w.alloc (.cells a t)).alloc (.cells b u)).alloc (.cells c v)).heap[w.heap.size + 1]? = some (.cells b u (0, 0)) := by
    rw [Below.heap_alloc _ _ _ (by rw [e2]; omega), ← e1]
    exact heap_alloc_new _ _
  have h2 : (((w.alloc (.cells a t)).alloc (.cells b u)).alloc (.cells c v)).heap[w.heap.size + 1 + 1]? = some (.cells c v (0, 0)) := by
    rw [← e2]
    exact heap_alloc_new _ _
  exact ⟨cell_of_row _ _ _ _ _ _ h0, cell_of_row _ _ _ _ _ _ h1, cell_of_row _ _ _ _ _ _ h2⟩

set_option maxHeartbeats 4000000 in
set_option maxRecDepth 100000 in
theorem lays_calls (g : Nat) (B : Nat → Prop) (D : DS) (A : Option Addr) (cp : Nat) (b : List Int) (w : World) (i : Nat) (h : IsDisk w B g D) (ho : JOk i D) (hi : i ≤ 400000)
    (hl : b.length = 64) (hb : ∀ W, Fr B w W → Kd.C (Kd.int .u8) W A 64 b) (hcap : 64 ≤ cp) (hdis : ∀ ad, A = some ad → ¬ B ad.block) :
    Calls Try.prog 65 #[.pointer (some ⟨g, 0, none⟩), .slice A 64 cp] w fun e w' => e = .returned (.int .i64 (laysD b D).1) ∧ Moved w B g w' (laysD b D).2 := by
  have H := Aside0.mk h
  have HO := Aside0.mk ho
  have HB := Aside0.mk hb
  have HD := Aside0.mk hdis
  clear h ho hb hdis
  go_enter Try.func65, Try.ntmps65
  go_wp2_with fail
  have f3 : Fr (fun _ => False) w (((w.alloc (.cells #[.pointer (some ⟨g, 0, none⟩)] 29)).alloc (.cells #[.slice A 64 cp] 22)).alloc (.cells #[.func (.func 84) #[] #[.pointer (some ⟨w.heap.size, 0, none⟩), .pointer (some ⟨w.heap.size + 1, 0, none⟩)], .func (.func 15) #[.pointer (some ⟨g, 0, none⟩)] #[]] 38)) := (((Fr.refl _ _).alloc _).alloc _).alloc _
  have hc := alloc3_cells (w := w) #[.pointer (some ⟨g, 0, none⟩)] #[.slice A 64 cp] #[.func (.func 84) #[] #[.pointer (some ⟨w.heap.size, 0, none⟩), .pointer (some ⟨w.heap.size + 1, 0, none⟩)], .func (.func 15) #[.pointer (some ⟨g, 0, none⟩)] #[]] 29 22 38
  have hnB : ∀ k, w.heap.size ≤ k → ¬ B k := fun k hk h => by have := H.out.lt k h; omega
  have RC := Aside0.mk (lays_row g B D A cp b w.heap.size (w.heap.size + 1) (w.heap.size + 1 + 1) 2 _ i (H.out.fr f3 (fun _ _ h => h)) HO.out hi (hc 0).1 (hc 0).2.1 (hnB _ (Nat.le_refl _)) (hnB _ (by omega)) (hnB _ (by omega)) (hc 0).2.2 (hc 1).2.2 hl
    (fun W' f' => HB.out W' ((f3.mono (fun _ h => h.elim)).trans f' (fun _ h => .inl h))) hcap HD.out)
  have F3 := Aside0.mk f3
  clear hc f3 hnB
  refine RC.out.mono ?_
  rintro e w' ⟨rfl, m⟩
  have M := Aside0.mk (m.ahead F3.out)
  clear m RC F3
  go_wp2_with fail
  go_ret
  exact ⟨rfl, M.out⟩
end Go.Proofs.Ytppgbfkhiofjiaa.X
