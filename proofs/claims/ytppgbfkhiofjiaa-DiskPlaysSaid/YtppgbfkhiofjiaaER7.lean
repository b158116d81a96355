/-
  The contract of both: an act on the disk and on the reference's. Printed by wip/tools/mkboth.py.
-/
import Derived.Test.YtppgbfkhiofjiaaER6
import Derived.Test.YtppgbfkhiofjiaaED11
import Derived.Deep.RegionHeld3
namespace Go.Proofs.Ytppgbfkhiofjiaa.X
open Go.RowKit Go.Proofs.YtppgbfkhiofjiaaW.PrintWords Go.Proofs.YtppgbfkhiofjiaaW.PrintLast Go.Proofs.YtppgbfkhiofjiaaW.PrintMore
set_option linter.unusedVariables false
set_option linter.unusedSimpArgs false

theorem IsArr.set {w : World} {b : Nat} {l : List Int} (h : IsArr w b l) (i : Nat) (x : Int) : IsArr (w.setCell ⟨b, i, none⟩ (.int .u8 x)) b (l.set i x) := by
  unfold IsArr
  rw [heap_setCell_same w b i _ 91 _ h]
  congr 2
  apply Array.toList_inj.1
  simp [nums, List.map_set]
/-- What an act comes to. -/
def actD (D : DS) (o : OpV) : DS :=
  if o.kind = 1 then (writeD D o.n o.b).2 else if o.kind = 2 then (flushD D).2 else if o.kind = 3 then { D with left := if o.n < -1 then -1 else o.n } else if o.kind = 4 then mendD o.keep D else D
/-- Both disks are there, and stand alike. -/
def Pair (w : World) (lo : Nat) (g r : Nat) (D : DS) : Prop :=
  ∃ B R : Nat → Prop, IsDisk w B g D ∧ IsRef w R r D ∧ (∀ k, B k → ¬ R k) ∧ (∀ k, B k → lo ≤ k) ∧ (∀ k, R k → lo ≤ k)
theorem Pair.fr {w w' : World} {lo g r : Nat} {D : DS} (h : Pair w lo g r D) (hf : Fr (fun _ => False) w w') : Pair w' lo g r D := by
  obtain ⟨B, R, h1, h2, h3, h4, h5⟩ := h
  exact ⟨B, R, h1.fr hf (fun _ _ h => h), h2.fr hf (fun _ _ h => h), h3, h4, h5⟩
/-- The act's own cells. -/
def opCells (kd n : Int) (A : Option Addr) (m c : Nat) (A' : Option Addr) (kl c' : Nat) : Array Value := #[.int .i64 kd, .int .i64 n, .slice A m c, .slice A' kl c']
theorem both_pre1 {w : World} {kd n : Int} {A A' : Option Addr} {m c kl c' : Nat} {b : List Int} (hm : b.length = m) (v1 : Value) (w1 : World) (h1 : w1.ownsRow w.heap.size 5 1 v1 ([] ++ b).length (nums .u8 ([] ++ b))) (h2 : Below w.heap.size w w1)
    (h3 : ((w.alloc (.cells #[.int .i64 kd, .int .i64 n, .slice A m c, .slice A' kl c'] 36)).alloc (.cells #[] 5)).grownBy w1 (Value.slice (some ⟨w.heap.size + 1, 0, none⟩) 0 0).ownBlock) :
    ∃ A1 c1, v1 = .slice A1 m c1 ∧ Aside0 (w1.ownsRow w.heap.size 5 1 (.slice A1 m c1) b.length (nums .u8 b)) ∧ Aside0 (Below w.heap.size w w1) ∧ Aside0 (w1.heap[w.heap.size]? = some (.cells #[.int .i64 kd, .int .i64 n, .slice A m c, .slice A' kl c'] 36 (0, 0))) ∧ w.heap.size < w1.heap.size := by
  rw [List.nil_append] at h1
  obtain ⟨A1, c1, e, _⟩ := q_slice (q_of_own h1)
  rw [hm] at e
  have hb := (h3.block w.heap.size (by simp; omega) (by simp [Value.ownBlock])).trans (heap_alloc2_old w (.cells #[.int .i64 kd, .int .i64 n, .slice A m c, .slice A' kl c'] 36) (.cells #[] 5))
  exact ⟨A1, c1, e, ⟨e ▸ h1⟩, ⟨h2⟩, ⟨hb⟩, (Array.getElem?_eq_some_iff.1 hb).1⟩
theorem both_pre2 {w : World} {kd n : Int} {A A' : Option Addr} {m c kl c' : Nat} {b : List Int} (hm : b.length = m) (w1 : World) (A1 : Option Addr) (c1 : Nat) (v2 : Value) (w2 : World) (k1 : Aside0 (w1.ownsRow w.heap.size 5 1 (.slice A1 m c1) b.length (nums .u8 b)))
    (k2 : Aside0 (w1.heap[w.heap.size]? = some (.cells #[.int .i64 kd, .int .i64 n, .slice A m c, .slice A' kl c'] 36 (0, 0)))) (h1 : w2.ownsRow w.heap.size 5 1 v2 (b ++ [1]).length (nums .u8 (b ++ [1]))) (h2 : Below w.heap.size w w2) (h3 : (w1.alloc (.cells #[.int .u8 1] 5)).grownBy w2 (Value.slice A1 m c1).ownBlock) :
    ∃ A2 c2, v2 = .slice A2 (m + 1) c2 ∧ Aside0 (w2.ownsRow w.heap.size 5 1 (.slice A2 (m + 1) c2) (m + 1) (nums .u8 (b ++ [1]))) ∧ Aside0 (Fr (fun _ => False) w w2) ∧ Aside0 (w2.heap[w.heap.size]? = some (.cells #[.int .i64 kd, .int .i64 n, .slice A m c, .slice A' kl c'] 36 (0, 0))) ∧
      w2.cell? ⟨w.heap.size, 0, none⟩ = some (.int .i64 kd) ∧ w2.cell? ⟨w.heap.size, 1, none⟩ = some (.int .i64 n) ∧ w2.cell? ⟨w.heap.size, 2, none⟩ = some (.slice A m c) ∧ w2.cell? ⟨w.heap.size, 3, none⟩ = some (.slice A' kl c') ∧ w.heap.size < w2.heap.size := by
  obtain ⟨A2, c2, e, _⟩ := q_slice (q_of_own h1)
  rw [List.length_append, List.length_singleton, hm] at e
  have hlt := (Array.getElem?_eq_some_iff.1 k2.out).1
  have hb := (h3.block w.heap.size (by simp; omega) (fun e' => own_ne k1.out k2.out (by decide) e'.symm)).trans ((Below.heap_alloc w1 (.cells #[.int .u8 1] 5) _ hlt).trans k2.out)
  rw [List.length_append, List.length_singleton, hm] at h1
  refine ⟨A2, c2, e, ⟨e ▸ h1⟩, ⟨Fr.of_below h2 _⟩, ⟨hb⟩, ?_, ?_, ?_, ?_, (Array.getElem?_eq_some_iff.1 hb).1⟩ <;> rw [cell_of_row w2 _ _ _ 36 (0, 0) hb] <;> rfl
theorem info4r : (Try.prog.info? 4).map (fun i => (i.zero, i.size, i.bytes)) = some (some (.bool false), 1, 1) := by kernel_rfl
theorem both_pre3 {w w2 : World} {kd n : Int} {A A' : Option Addr} {m c kl c' : Nat} {kp : List Bool} (hk : kp.length = kl) (F2 : Aside0 (Fr (fun _ => False) w w2)) (B2 : Aside0 (w2.heap[w.heap.size]? = some (.cells #[.int .i64 kd, .int .i64 n, .slice A m c, .slice A' kl c'] 36 (0, 0)))) (v3 : Value) (w3 : World)
    (h1 : w3.ownsRow w.heap.size 4 1 v3 ([] ++ kp).length (encs Value.bool ([] ++ kp))) (h2 : Below w.heap.size w w3) (h3 : (w2.alloc (.cells #[] 4)).grownBy w3 (Value.slice (some ⟨w2.heap.size, 0, none⟩) 0 0).ownBlock) :
    ∃ A3 c3, v3 = .slice A3 kl c3 ∧ Aside0 (Kd.C Kd.bool w3 A3 kl kp) ∧ Aside0 (Fr (fun _ => False) w w3) ∧ Aside0 (Fr (fun _ => False) w2 w3) ∧ Aside0 (∀ ad, A3 = some ad → w.heap.size ≤ ad.block) ∧ w3.cell? ⟨w.heap.size, 3, none⟩ = some (.slice A' kl c') := by
  rw [List.nil_append] at h1
  obtain ⟨A3, c3, e, hr⟩ := own_reads_of (enc := Value.bool) (d := false) h1
  rw [hk] at e hr
  have hlt := (Array.getElem?_eq_some_iff.1 B2.out).1
  have f23 : Fr (fun _ => False) w2 w3 := ((Fr.refl _ w2).alloc (.cells #[] 4)).trans (Fr.of_grownBy h3) (fun k h => .inr (by
    have e : w2.heap.size = k := by simpa [Value.ownBlock] using h
    omega))
  refine ⟨A3, c3, e, ⟨Kd.C_of_reads (d := false) (h1 := fun _ => rfl) hr⟩, ⟨Fr.of_below h2 _⟩, ⟨f23⟩, ⟨fun ad e' => ?_⟩, ?_⟩
  · subst e'
    subst e
    exact (q_typed (q_of_own h1) ad.block rfl).1
  · rw [cell_of_row w3 _ _ _ 36 (0, 0) ((f23.keep _ hlt (fun h => h)).trans B2.out)]
    rfl

set_option maxHeartbeats 8000000 in
set_option maxRecDepth 100000 in
theorem both_flush (lo g r : Nat) (D : DS) (o : OpV) (A A' : Option Addr) (c c' : Nat) (w : World) (h : Pair w lo g r D) (hlo : lo ≤ w.heap.size) (hb : Kd.C (Kd.int .u8) w A o.b.length o.b) (hbc : o.b.length ≤ c) (hk : Kd.C Kd.bool w A' o.keep.length o.keep) (hkc : o.keep.length ≤ c')
    (hbl : o.b.length ≤ 140737488351232) (hkl : o.keep.length ≤ 140737488351232) (hwf : (Lit.int .i64 o.n).wf = true) (hs : 0 ≤ D.steps ∧ D.steps ≤ 1000000) (hl : D.left ≤ 9223372036854775807) (hc : D.c.length ≤ 100000) (hu : D.u ≤ 100000)
    (hbd : ∀ ad, A = some ad → 0 < o.b.length → ad.block < lo) (hkd : ∀ ad, A' = some ad → 0 < o.keep.length → ad.block < lo) (he : o.kind = 2) :
    Calls Try.prog 22 #[.pointer (some ⟨g, 0, none⟩), .pointer (some ⟨r, 0, none⟩), .agg #[.int .i64 o.kind, .int .i64 o.n, .slice A o.b.length c, .slice A' o.keep.length c']] w fun e w' => e = .returned (.bool true) ∧ Pair w' lo g r (actD D o) ∧ Fr (fun k => lo ≤ k) w w' := by
  obtain ⟨kd, n, b, kp⟩ := o
  dsimp only at *
  subst he
  have HPair := Aside0.mk h
  have HB := Aside0.mk (Kd.reads_of_C (enc := Value.int .u8) (d := (0 : Int)) (h1 := fun _ => rfl) hb)
  have HBC := Aside0.mk hb
  have HKC := Aside0.mk hk
  have HBD := Aside0.mk hbd
  have HKD := Aside0.mk hkd
  have HWF := Aside0.mk hwf
  obtain ⟨m, hm⟩ : ∃ m, b.length = m := ⟨_, rfl⟩
  obtain ⟨kl, hkll⟩ : ∃ kl, kp.length = kl := ⟨_, rfl⟩
  have HMM := Aside0.mk hm
  have HKL := Aside0.mk hkll
  rw [hm] at HB HBC hbc hbl HBD ⊢
  rw [hkll] at HKC hkc hkl HKD ⊢
  have HBb : Aside0 (Below w.heap.size w ((w.alloc (.cells #[.int .i64 2, .int .i64 n, .slice A m c, .slice A' kl c'] 36)).alloc (.cells #[] 5))) := ⟨((Below.refl _ w).alloc (Nat.le_refl _) _).alloc (by simp) _⟩
  have HO0 : Aside0 (((w.alloc (.cells #[.int .i64 2, .int .i64 n, .slice A m c, .slice A' kl c'] 36)).alloc (.cells #[] 5)).ownsRow w.heap.size 5 1 (.slice (some ⟨w.heap.size + 1, 0, none⟩) 0 0) ([] : List Int).length (nums .u8 [])) := ⟨⟨rfl, .inr ⟨w.heap.size + 1, 0, #[], rfl, by omega, by
    have := heap_alloc_new (w.alloc (.cells #[.int .i64 2, .int .i64 n, .slice A m c, .slice A' kl c'] 36)) (.cells #[] 5)
    simpa using this, Nat.le_refl _, by decide, rfl, rfl⟩⟩⟩
  have HRD : Aside0 (ReadsInt ((w.alloc (.cells #[.int .i64 2, .int .i64 n, .slice A m c, .slice A' kl c'] 36)).alloc (.cells #[] 5)) .u8 A m b) := ⟨HB.out.below HBb.out⟩
  clear h hb hk hbd hkd hwf hm hkll
  go_enter Try.func22, Try.ntmps22
  go_wp2_with (first
    | ((with_reducible refine gate_builtin (b := .append) (xs := #[.tmp 16, .tmp 18]) rfl ?_); at_builtin; refine print_append_row w.heap.size rfl (.tmp 16) (.tmp 18) 22 5 .u8 1 rfl Try.underlying22 info5 (by omega) (.slice (some ⟨w.heap.size + 1, 0, none⟩) 0 0) [] b A m c rfl rfl HO0.out HRD.out HBb.out (by simp; omega) (by simp; omega) ?_; intro v1 w1 h1 h2 h3 h4; obtain ⟨A1, c1, rfl, K1, K2, K3, K4⟩ := both_pre1 HMM.out v1 w1 h1 h2 h3; clear h1 h2 h3 h4)
    | ((with_reducible refine gate_builtin (b := .append) (xs := #[.tmp 19, .tmp 20]) rfl ?_); at_builtin; refine print_append_row w.heap.size rfl (.tmp 19) (.tmp 20) 22 5 .u8 1 rfl Try.underlying22 info5 (by omega) (.slice A1 m c1) b [1] (some ⟨w1.heap.size, 0, none⟩) 1 1 rfl rfl (ownsRow_kept K1.out (fun k e => Below.heap_alloc _ _ _ (q_lt (q_of_own K1.out) k e))) ⟨rfl, by omega, fun _ => ⟨_, rfl, fun j hj => by
        have hj0 : j = 0 := by omega
        subst hj0
        rw [Addr.add_mid, cell_of_row _ _ _ #[.int .u8 1] 5 (0, 0) (heap_alloc_new _ _)]
        rfl⟩⟩ (K2.out.alloc (by omega) _) (by simp; omega) (by have := HMM.out; omega) ?_; intro v2 w2 h1 h2 h3 h4; obtain ⟨A2, c2, rfl, O2, F2, B2, d0, d1, d2, d3, d4⟩ := both_pre2 HMM.out w1 A1 c1 v2 w2 K1 K3 h1 h2 h3; clear h1 h2 h3 h4 K1 K2 K3 K4))
  obtain ⟨B, R, hD, hR, hBR, hB, hRl⟩ := HPair.out
  have HD2 : Aside0 (IsDisk w2 B g D) := ⟨hD.fr F2.out (fun _ _ h => h)⟩
  have HR2 : Aside0 (IsRef w2 R r D) := ⟨hR.fr F2.out (fun _ _ h => h)⟩
  have HBR := Aside0.mk hBR
  have HB2 := Aside0.mk hB
  have HRl := Aside0.mk hRl
  have HBw := Aside0.mk hD.lt
  have HRw := Aside0.mk hR.lt
  have HW2 : Aside0 (w.heap.size < w2.heap.size) := ⟨(Array.getElem?_eq_some_iff.1 B2.out).1⟩
  have HnB : Aside0 (¬ B w.heap.size) := ⟨fun h => Nat.lt_irrefl _ (hD.lt _ h)⟩
  have HnR : Aside0 (¬ R w.heap.size) := ⟨fun h => Nat.lt_irrefl _ (hR.lt _ h)⟩
  clear hD hR hBR hB hRl
  clear d0 d1 d2 d3
  refine (flush_calls g B D w2 HD2.out ⟨by omega, by omega⟩ hl (by omega) (by omega)).mono ?_
  rintro e w3 ⟨rfl, hd3, hf3⟩
  have HD3 := Aside0.mk hd3
  have HF3 := Aside0.mk hf3
  clear hd3 hf3
  have RF := Aside0.mk (rflush_calls r R D w3 (HR2.out.fr HF3.out (fun k h h2 => HBR.out k h2 h)) ⟨by omega, by omega⟩ hl (by omega))
  go_wp2_with fail
  refine RF.out.mono ?_
  rintro e w4 ⟨rfl, hr4, hf4⟩
  have P4 : Aside0 (Pair w4 lo g r (flushD D).2) := ⟨B, R, HD3.out.fr hf4 (fun k h h2 => HBR.out k h h2), hr4, HBR.out, HB2.out, HRl.out⟩
  have F4 : Aside0 (Fr (fun k => lo ≤ k) w w4) := ⟨((F2.out.mono (fun k h => h.elim)).trans HF3.out (fun k h => .inl (HB2.out k h))).trans hf4 (fun k h => .inl (HRl.out k h))⟩
  clear hr4 hf4
  generalize (flushD D).1 = e0
  go_wp2_with fail
  go_ret
  exact ⟨by simp, P4.out, F4.out⟩

set_option maxHeartbeats 8000000 in
set_option maxRecDepth 100000 in
theorem both_arm (lo g r : Nat) (D : DS) (o : OpV) (A A' : Option Addr) (c c' : Nat) (w : World) (h : Pair w lo g r D) (hlo : lo ≤ w.heap.size) (hb : Kd.C (Kd.int .u8) w A o.b.length o.b) (hbc : o.b.length ≤ c) (hk : Kd.C Kd.bool w A' o.keep.length o.keep) (hkc : o.keep.length ≤ c')
    (hbl : o.b.length ≤ 140737488351232) (hkl : o.keep.length ≤ 140737488351232) (hwf : (Lit.int .i64 o.n).wf = true) (hs : 0 ≤ D.steps ∧ D.steps ≤ 1000000) (hl : D.left ≤ 9223372036854775807) (hc : D.c.length ≤ 100000) (hu : D.u ≤ 100000)
    (hbd : ∀ ad, A = some ad → 0 < o.b.length → ad.block < lo) (hkd : ∀ ad, A' = some ad → 0 < o.keep.length → ad.block < lo) (he : o.kind = 3) :
    Calls Try.prog 22 #[.pointer (some ⟨g, 0, none⟩), .pointer (some ⟨r, 0, none⟩), .agg #[.int .i64 o.kind, .int .i64 o.n, .slice A o.b.length c, .slice A' o.keep.length c']] w fun e w' => e = .returned (.bool true) ∧ Pair w' lo g r (actD D o) ∧ Fr (fun k => lo ≤ k) w w' := by
  obtain ⟨kd, n, b, kp⟩ := o
  dsimp only at *
  subst he
  have HPair := Aside0.mk h
  have HB := Aside0.mk (Kd.reads_of_C (enc := Value.int .u8) (d := (0 : Int)) (h1 := fun _ => rfl) hb)
  have HBC := Aside0.mk hb
  have HKC := Aside0.mk hk
  have HBD := Aside0.mk hbd
  have HKD := Aside0.mk hkd
  have HWF := Aside0.mk hwf
  obtain ⟨m, hm⟩ : ∃ m, b.length = m := ⟨_, rfl⟩
  obtain ⟨kl, hkll⟩ : ∃ kl, kp.length = kl := ⟨_, rfl⟩
  have HMM := Aside0.mk hm
  have HKL := Aside0.mk hkll
  rw [hm] at HB HBC hbc hbl HBD ⊢
  rw [hkll] at HKC hkc hkl HKD ⊢
  have HBb : Aside0 (Below w.heap.size w ((w.alloc (.cells #[.int .i64 3, .int .i64 n, .slice A m c, .slice A' kl c'] 36)).alloc (.cells #[] 5))) := ⟨((Below.refl _ w).alloc (Nat.le_refl _) _).alloc (by simp) _⟩
  have HO0 : Aside0 (((w.alloc (.cells #[.int .i64 3, .int .i64 n, .slice A m c, .slice A' kl c'] 36)).alloc (.cells #[] 5)).ownsRow w.heap.size 5 1 (.slice (some ⟨w.heap.size + 1, 0, none⟩) 0 0) ([] : List Int).length (nums .u8 [])) := ⟨⟨rfl, .inr ⟨w.heap.size + 1, 0, #[], rfl, by omega, by
    have := heap_alloc_new (w.alloc (.cells #[.int .i64 3, .int .i64 n, .slice A m c, .slice A' kl c'] 36)) (.cells #[] 5)
    simpa using this, Nat.le_refl _, by decide, rfl, rfl⟩⟩⟩
  have HRD : Aside0 (ReadsInt ((w.alloc (.cells #[.int .i64 3, .int .i64 n, .slice A m c, .slice A' kl c'] 36)).alloc (.cells #[] 5)) .u8 A m b) := ⟨HB.out.below HBb.out⟩
  clear h hb hk hbd hkd hwf hm hkll
  go_enter Try.func22, Try.ntmps22
  go_wp2_with (first
    | ((with_reducible refine gate_builtin (b := .append) (xs := #[.tmp 16, .tmp 18]) rfl ?_); at_builtin; refine print_append_row w.heap.size rfl (.tmp 16) (.tmp 18) 22 5 .u8 1 rfl Try.underlying22 info5 (by omega) (.slice (some ⟨w.heap.size + 1, 0, none⟩) 0 0) [] b A m c rfl rfl HO0.out HRD.out HBb.out (by simp; omega) (by simp; omega) ?_; intro v1 w1 h1 h2 h3 h4; obtain ⟨A1, c1, rfl, K1, K2, K3, K4⟩ := both_pre1 HMM.out v1 w1 h1 h2 h3; clear h1 h2 h3 h4)
    | ((with_reducible refine gate_builtin (b := .append) (xs := #[.tmp 19, .tmp 20]) rfl ?_); at_builtin; refine print_append_row w.heap.size rfl (.tmp 19) (.tmp 20) 22 5 .u8 1 rfl Try.underlying22 info5 (by omega) (.slice A1 m c1) b [1] (some ⟨w1.heap.size, 0, none⟩) 1 1 rfl rfl (ownsRow_kept K1.out (fun k e => Below.heap_alloc _ _ _ (q_lt (q_of_own K1.out) k e))) ⟨rfl, by omega, fun _ => ⟨_, rfl, fun j hj => by
        have hj0 : j = 0 := by omega
        subst hj0
        rw [Addr.add_mid, cell_of_row _ _ _ #[.int .u8 1] 5 (0, 0) (heap_alloc_new _ _)]
        rfl⟩⟩ (K2.out.alloc (by omega) _) (by simp; omega) (by have := HMM.out; omega) ?_; intro v2 w2 h1 h2 h3 h4; obtain ⟨A2, c2, rfl, O2, F2, B2, d0, d1, d2, d3, d4⟩ := both_pre2 HMM.out w1 A1 c1 v2 w2 K1 K3 h1 h2 h3; clear h1 h2 h3 h4 K1 K2 K3 K4))
  obtain ⟨B, R, hD, hR, hBR, hB, hRl⟩ := HPair.out
  have HD2 : Aside0 (IsDisk w2 B g D) := ⟨hD.fr F2.out (fun _ _ h => h)⟩
  have HR2 : Aside0 (IsRef w2 R r D) := ⟨hR.fr F2.out (fun _ _ h => h)⟩
  have HBR := Aside0.mk hBR
  have HB2 := Aside0.mk hB
  have HRl := Aside0.mk hRl
  have HBw := Aside0.mk hD.lt
  have HRw := Aside0.mk hR.lt
  have HW2 : Aside0 (w.heap.size < w2.heap.size) := ⟨(Array.getElem?_eq_some_iff.1 B2.out).1⟩
  have HnB : Aside0 (¬ B w.heap.size) := ⟨fun h => Nat.lt_irrefl _ (hD.lt _ h)⟩
  have HnR : Aside0 (¬ R w.heap.size) := ⟨fun h => Nat.lt_irrefl _ (hR.lt _ h)⟩
  clear hD hR hBR hB hRl
  clear d0 d2 d3
  refine (arm_calls g B D n w2 HD2.out).mono ?_
  rintro e w3 ⟨rfl, hd3, hf3⟩
  have HD3 := Aside0.mk hd3
  have HF3 := Aside0.mk hf3
  have d1' : w3.cell? ⟨w.heap.size, 1, none⟩ = some (.int .i64 n) := (World.cell?_of_block (w := w2) (hf3.keep _ HW2.out HnB.out)).trans d1
  clear hd3 hf3 d1
  have RF := Aside0.mk (arms_calls r R D n w3 (HR2.out.fr HF3.out (fun k h h2 => HBR.out k h2 h)))
  go_wp2_with fail
  refine RF.out.mono ?_
  rintro e w4 ⟨rfl, hr4, hf4⟩
  have P4 : Aside0 (Pair w4 lo g r { D with left := if n < -1 then -1 else n }) := ⟨B, R, HD3.out.fr hf4 (fun k h h2 => HBR.out k h h2), hr4, HBR.out, HB2.out, HRl.out⟩
  have F4 : Aside0 (Fr (fun k => lo ≤ k) w w4) := ⟨((F2.out.mono (fun k h => h.elim)).trans HF3.out (fun k h => .inl (HB2.out k h))).trans hf4 (fun k h => .inl (HRl.out k h))⟩
  clear hr4 hf4 d1'
  go_wp2_with fail
  go_ret
  exact ⟨rfl, P4.out, F4.out⟩

set_option maxHeartbeats 8000000 in
set_option maxRecDepth 100000 in
theorem both_mend (lo g r : Nat) (D : DS) (o : OpV) (A A' : Option Addr) (c c' : Nat) (w : World) (h : Pair w lo g r D) (hlo : lo ≤ w.heap.size) (hb : Kd.C (Kd.int .u8) w A o.b.length o.b) (hbc : o.b.length ≤ c) (hk : Kd.C Kd.bool w A' o.keep.length o.keep) (hkc : o.keep.length ≤ c')
    (hbl : o.b.length ≤ 140737488351232) (hkl : o.keep.length ≤ 140737488351232) (hwf : (Lit.int .i64 o.n).wf = true) (hs : 0 ≤ D.steps ∧ D.steps ≤ 1000000) (hl : D.left ≤ 9223372036854775807) (hc : D.c.length ≤ 100000) (hu : D.u ≤ 100000)
    (hbd : ∀ ad, A = some ad → 0 < o.b.length → ad.block < lo) (hkd : ∀ ad, A' = some ad → 0 < o.keep.length → ad.block < lo) (he : o.kind = 4) :
    Calls Try.prog 22 #[.pointer (some ⟨g, 0, none⟩), .pointer (some ⟨r, 0, none⟩), .agg #[.int .i64 o.kind, .int .i64 o.n, .slice A o.b.length c, .slice A' o.keep.length c']] w fun e w' => e = .returned (.bool true) ∧ Pair w' lo g r (actD D o) ∧ Fr (fun k => lo ≤ k) w w' := by
  obtain ⟨kd, n, b, kp⟩ := o
  dsimp only at *
  subst he
  have HPair := Aside0.mk h
  have HB := Aside0.mk (Kd.reads_of_C (enc := Value.int .u8) (d := (0 : Int)) (h1 := fun _ => rfl) hb)
  have HBC := Aside0.mk hb
  have HKC := Aside0.mk hk
  have HBD := Aside0.mk hbd
  have HKD := Aside0.mk hkd
  have HWF := Aside0.mk hwf
  obtain ⟨m, hm⟩ : ∃ m, b.length = m := ⟨_, rfl⟩
  obtain ⟨kl, hkll⟩ : ∃ kl, kp.length = kl := ⟨_, rfl⟩
  have HMM := Aside0.mk hm
  have HKL := Aside0.mk hkll
  rw [hm] at HB HBC hbc hbl HBD ⊢
  rw [hkll] at HKC hkc hkl HKD ⊢
  have HBb : Aside0 (Below w.heap.size w ((w.alloc (.cells #[.int .i64 4, .int .i64 n, .slice A m c, .slice A' kl c'] 36)).alloc (.cells #[] 5))) := ⟨((Below.refl _ w).alloc (Nat.le_refl _) _).alloc (by simp) _⟩
  have HO0 : Aside0 (((w.alloc (.cells #[.int .i64 4, .int .i64 n, .slice A m c, .slice A' kl c'] 36)).alloc (.cells #[] 5)).ownsRow w.heap.size 5 1 (.slice (some ⟨w.heap.size + 1, 0, none⟩) 0 0) ([] : List Int).length (nums .u8 [])) := ⟨⟨rfl, .inr ⟨w.heap.size + 1, 0, #[], rfl, by omega, by
    have := heap_alloc_new (w.alloc (.cells #[.int .i64 4, .int .i64 n, .slice A m c, .slice A' kl c'] 36)) (.cells #[] 5)
    simpa using this, Nat.le_refl _, by decide, rfl, rfl⟩⟩⟩
  have HRD : Aside0 (ReadsInt ((w.alloc (.cells #[.int .i64 4, .int .i64 n, .slice A m c, .slice A' kl c'] 36)).alloc (.cells #[] 5)) .u8 A m b) := ⟨HB.out.below HBb.out⟩
  have HKR := Aside0.mk (Kd.reads_of_C (enc := Value.bool) (d := false) (h1 := fun _ => rfl) HKC.out)
  clear h hb hk hbd hkd hwf hm hkll
  go_enter Try.func22, Try.ntmps22
  go_wp2_with (first
    | ((with_reducible refine gate_builtin (b := .append) (xs := #[.tmp 16, .tmp 18]) rfl ?_); at_builtin; refine print_append_row w.heap.size rfl (.tmp 16) (.tmp 18) 22 5 .u8 1 rfl Try.underlying22 info5 (by omega) (.slice (some ⟨w.heap.size + 1, 0, none⟩) 0 0) [] b A m c rfl rfl HO0.out HRD.out HBb.out (by simp; omega) (by simp; omega) ?_; intro v1 w1 h1 h2 h3 h4; obtain ⟨A1, c1, rfl, K1, K2, K3, K4⟩ := both_pre1 HMM.out v1 w1 h1 h2 h3; clear h1 h2 h3 h4)
    | ((with_reducible refine gate_builtin (b := .append) (xs := #[.tmp 19, .tmp 20]) rfl ?_); at_builtin; refine print_append_row w.heap.size rfl (.tmp 19) (.tmp 20) 22 5 .u8 1 rfl Try.underlying22 info5 (by omega) (.slice A1 m c1) b [1] (some ⟨w1.heap.size, 0, none⟩) 1 1 rfl rfl (ownsRow_kept K1.out (fun k e => Below.heap_alloc _ _ _ (q_lt (q_of_own K1.out) k e))) ⟨rfl, by omega, fun _ => ⟨_, rfl, fun j hj => by
        have hj0 : j = 0 := by omega
        subst hj0
        rw [Addr.add_mid, cell_of_row _ _ _ #[.int .u8 1] 5 (0, 0) (heap_alloc_new _ _)]
        rfl⟩⟩ (K2.out.alloc (by omega) _) (by simp; omega) (by have := HMM.out; omega) ?_; intro v2 w2 h1 h2 h3 h4; obtain ⟨A2, c2, rfl, O2, F2, B2, d0, d1, d2, d3, d4⟩ := both_pre2 HMM.out w1 A1 c1 v2 w2 K1 K3 h1 h2 h3; clear h1 h2 h3 h4 K1 K2 K3 K4)
    | ((with_reducible refine gate_builtin (b := .append) (xs := #[.tmp 123, .tmp 125]) rfl ?_); at_builtin; refine print_append_row_of (w0 := w) Value.bool false w.heap.size rfl (.tmp 123) (.tmp 125) 27 4 (.bool false) 1 rfl Try.underlying27 info4r rfl (by omega) (fun _ => rfl) (.slice (some ⟨w2.heap.size, 0, none⟩) 0 0) [] kp A' kl c' rfl rfl ⟨rfl, .inr ⟨w2.heap.size, 0, #[], rfl, F2.out.size, heap_alloc_new _ _, Nat.le_refl _, by decide, rfl, rfl⟩⟩ (HKR.out.below ((F2.out.below (fun k h => h.elim) (Nat.le_refl _)).alloc F2.out.size _)) ((F2.out.below (fun k h => h.elim) (Nat.le_refl _)).alloc F2.out.size _) (by have := F2.out.size; simp; omega) (by simp; omega) ?_; intro v3 w3 h1 h2 h3 h4; obtain ⟨A3, c3, rfl, C3, F3, F23, P3, e3⟩ := both_pre3 HKL.out F2 B2 v3 w3 h1 h2 h3; clear h1 h2 h3 h4))
  obtain ⟨B, R, hD, hR, hBR, hB, hRl⟩ := HPair.out
  have HD2 : Aside0 (IsDisk w2 B g D) := ⟨hD.fr F2.out (fun _ _ h => h)⟩
  have HR2 : Aside0 (IsRef w2 R r D) := ⟨hR.fr F2.out (fun _ _ h => h)⟩
  have HBR := Aside0.mk hBR
  have HB2 := Aside0.mk hB
  have HRl := Aside0.mk hRl
  have HBw := Aside0.mk hD.lt
  have HRw := Aside0.mk hR.lt
  have HW2 : Aside0 (w.heap.size < w2.heap.size) := ⟨(Array.getElem?_eq_some_iff.1 B2.out).1⟩
  have HnB : Aside0 (¬ B w.heap.size) := ⟨fun h => Nat.lt_irrefl _ (hD.lt _ h)⟩
  have HnR : Aside0 (¬ R w.heap.size) := ⟨fun h => Nat.lt_irrefl _ (hR.lt _ h)⟩
  clear hD hR hBR hB hRl
  have K3D := Aside0.mk (fun (ad : Addr) (e : A3 = some ad) (h0 : 0 < kp.length) (hB : B ad.block) => Nat.lt_irrefl _ (Nat.lt_of_lt_of_le (HBw.out _ hB) (P3.out ad e)))
  have MD := Aside0.mk (mend_calls g B D A3 c3 kp w3 (HD2.out.fr F23.out (fun _ _ h => h)) (by omega) (by omega) (by rw [HKL.out]; exact C3.out) K3D.out)
  rw [HKL.out] at MD
  clear d0 d1 d2 d3
  refine MD.out.mono ?_
  rintro e w4 ⟨rfl, hd4, hf4⟩
  have HD4 := Aside0.mk hd4
  have HF4 := Aside0.mk hf4
  have hW3 : w.heap.size < w3.heap.size := Nat.lt_of_lt_of_le HW2.out F23.out.size
  have d3' : w4.cell? ⟨w.heap.size, 3, none⟩ = some (.slice A' kl c') := (World.cell?_of_block (w := w3) (hf4.keep _ hW3 HnB.out)).trans e3
  have F04 : Aside0 (Fr B w w4) := ⟨(F3.out.mono (fun k h => h.elim)).trans hf4 (fun k h => .inl h)⟩
  clear hd4 hf4 e3 hW3
  have RM := Aside0.mk (rmend_calls r R D A' c' kp w4 ((HR2.out.fr F23.out (fun _ _ h => h)).fr HF4.out (fun k h h2 => HBR.out k h2 h)) (by omega) (by rw [HKL.out]; exact C_fr false HKC.out F04.out (fun ad e h0 hB => by have := HB2.out _ hB; have := HKD.out ad e h0; omega))
    (fun ad e h0 hR => by have := HRl.out _ hR; have := HKD.out ad e (by rw [← HKL.out]; exact h0); omega))
  rw [HKL.out] at RM
  go_wp2_with fail
  refine RM.out.mono ?_
  rintro e w5 ⟨rfl, hr5, hf5⟩
  have P5 : Aside0 (Pair w5 lo g r (mendD kp D)) := ⟨B, R, HD4.out.fr hf5 (fun k h h2 => HBR.out k h h2), hr5, HBR.out, HB2.out, HRl.out⟩
  have F5 : Aside0 (Fr (fun k => lo ≤ k) w w5) := ⟨((F3.out.mono (fun k h => h.elim)).trans HF4.out (fun k h => .inl (HB2.out k h))).trans hf5 (fun k h => .inl (HRl.out k h))⟩
  clear hr5 hf5 d3'
  go_wp2_with fail
  go_ret
  exact ⟨rfl, P5.out, F5.out⟩

set_option maxHeartbeats 8000000 in
set_option maxRecDepth 100000 in
theorem both_read0 (lo g r : Nat) (D : DS) (o : OpV) (A A' : Option Addr) (c c' : Nat) (w : World) (h : Pair w lo g r D) (hlo : lo ≤ w.heap.size) (hb : Kd.C (Kd.int .u8) w A o.b.length o.b) (hbc : o.b.length ≤ c) (hk : Kd.C Kd.bool w A' o.keep.length o.keep) (hkc : o.keep.length ≤ c')
    (hbl : o.b.length ≤ 140737488351232) (hkl : o.keep.length ≤ 140737488351232) (hwf : (Lit.int .i64 o.n).wf = true) (hs : 0 ≤ D.steps ∧ D.steps ≤ 1000000) (hl : D.left ≤ 9223372036854775807) (hc : D.c.length ≤ 100000) (hu : D.u ≤ 100000)
    (hbd : ∀ ad, A = some ad → 0 < o.b.length → ad.block < lo) (hkd : ∀ ad, A' = some ad → 0 < o.keep.length → ad.block < lo) (hk0 : o.kind = 0) (he : lookD D o.n ≠ 0) :
    Calls Try.prog 22 #[.pointer (some ⟨g, 0, none⟩), .pointer (some ⟨r, 0, none⟩), .agg #[.int .i64 o.kind, .int .i64 o.n, .slice A o.b.length c, .slice A' o.keep.length c']] w fun e w' => e = .returned (.bool true) ∧ Pair w' lo g r (actD D o) ∧ Fr (fun k => lo ≤ k) w w' := by
  obtain ⟨kd, n, b, kp⟩ := o
  dsimp only at *
  subst hk0
  have HPair := Aside0.mk h
  have HB := Aside0.mk (Kd.reads_of_C (enc := Value.int .u8) (d := (0 : Int)) (h1 := fun _ => rfl) hb)
  have HBC := Aside0.mk hb
  have HKC := Aside0.mk hk
  have HBD := Aside0.mk hbd
  have HKD := Aside0.mk hkd
  have HWF := Aside0.mk hwf
  obtain ⟨m, hm⟩ : ∃ m, b.length = m := ⟨_, rfl⟩
  obtain ⟨kl, hkll⟩ : ∃ kl, kp.length = kl := ⟨_, rfl⟩
  have HMM := Aside0.mk hm
  have HKL := Aside0.mk hkll
  rw [hm] at HB HBC hbc hbl HBD ⊢
  rw [hkll] at HKC hkc hkl HKD ⊢
  have HBb : Aside0 (Below w.heap.size w ((w.alloc (.cells #[.int .i64 0, .int .i64 n, .slice A m c, .slice A' kl c'] 36)).alloc (.cells #[] 5))) := ⟨((Below.refl _ w).alloc (Nat.le_refl _) _).alloc (by simp) _⟩
  have HO0 : Aside0 (((w.alloc (.cells #[.int .i64 0, .int .i64 n, .slice A m c, .slice A' kl c'] 36)).alloc (.cells #[] 5)).ownsRow w.heap.size 5 1 (.slice (some ⟨w.heap.size + 1, 0, none⟩) 0 0) ([] : List Int).length (nums .u8 [])) := ⟨⟨rfl, .inr ⟨w.heap.size + 1, 0, #[], rfl, by omega, by
    have := heap_alloc_new (w.alloc (.cells #[.int .i64 0, .int .i64 n, .slice A m c, .slice A' kl c'] 36)) (.cells #[] 5)
    simpa using this, Nat.le_refl _, by decide, rfl, rfl⟩⟩⟩
  have HRD : Aside0 (ReadsInt ((w.alloc (.cells #[.int .i64 0, .int .i64 n, .slice A m c, .slice A' kl c'] 36)).alloc (.cells #[] 5)) .u8 A m b) := ⟨HB.out.below HBb.out⟩
  clear h hb hk hbd hkd hwf hm hkll
  go_enter Try.func22, Try.ntmps22
  go_wp2_with (first
    | ((with_reducible refine gate_builtin (b := .append) (xs := #[.tmp 16, .tmp 18]) rfl ?_); at_builtin; refine print_append_row w.heap.size rfl (.tmp 16) (.tmp 18) 22 5 .u8 1 rfl Try.underlying22 info5 (by omega) (.slice (some ⟨w.heap.size + 1, 0, none⟩) 0 0) [] b A m c rfl rfl HO0.out HRD.out HBb.out (by simp; omega) (by simp; omega) ?_; intro v1 w1 h1 h2 h3 h4; obtain ⟨A1, c1, rfl, K1, K2, K3, K4⟩ := both_pre1 HMM.out v1 w1 h1 h2 h3; clear h1 h2 h3 h4)
    | ((with_reducible refine gate_builtin (b := .append) (xs := #[.tmp 19, .tmp 20]) rfl ?_); at_builtin; refine print_append_row w.heap.size rfl (.tmp 19) (.tmp 20) 22 5 .u8 1 rfl Try.underlying22 info5 (by omega) (.slice A1 m c1) b [1] (some ⟨w1.heap.size, 0, none⟩) 1 1 rfl rfl (ownsRow_kept K1.out (fun k e => Below.heap_alloc _ _ _ (q_lt (q_of_own K1.out) k e))) ⟨rfl, by omega, fun _ => ⟨_, rfl, fun j hj => by
        have hj0 : j = 0 := by omega
        subst hj0
        rw [Addr.add_mid, cell_of_row _ _ _ #[.int .u8 1] 5 (0, 0) (heap_alloc_new _ _)]
        rfl⟩⟩ (K2.out.alloc (by omega) _) (by simp; omega) (by have := HMM.out; omega) ?_; intro v2 w2 h1 h2 h3 h4; obtain ⟨A2, c2, rfl, O2, F2, B2, d0, d1, d2, d3, d4⟩ := both_pre2 HMM.out w1 A1 c1 v2 w2 K1 K3 h1 h2 h3; clear h1 h2 h3 h4 K1 K2 K3 K4))
  obtain ⟨B, R, hD, hR, hBR, hB, hRl⟩ := HPair.out
  have HD2 : Aside0 (IsDisk w2 B g D) := ⟨hD.fr F2.out (fun _ _ h => h)⟩
  have HR2 : Aside0 (IsRef w2 R r D) := ⟨hR.fr F2.out (fun _ _ h => h)⟩
  have HBR := Aside0.mk hBR
  have HB2 := Aside0.mk hB
  have HRl := Aside0.mk hRl
  have HBw := Aside0.mk hD.lt
  have HRw := Aside0.mk hR.lt
  have HW2 : Aside0 (w.heap.size < w2.heap.size) := ⟨(Array.getElem?_eq_some_iff.1 B2.out).1⟩
  have HnB : Aside0 (¬ B w.heap.size) := ⟨fun h => Nat.lt_irrefl _ (hD.lt _ h)⟩
  have HnR : Aside0 (¬ R w.heap.size) := ⟨fun h => Nat.lt_irrefl _ (hR.lt _ h)⟩
  clear hD hR hBR hB hRl
  refine (read_bad g B D n w2 HD2.out he).mono ?_
  rintro e w3 ⟨rfl, ⟨q3, rfl⟩⟩
  have RB := Aside0.mk (rread_bad r R D n (w2.drewN q3) (HR2.out.move (Nat.le_refl _) (fun _ _ => rfl)) he)
  go_wp2_with fail
  refine RB.out.mono ?_
  rintro e w4 ⟨rfl, ⟨q4, rfl⟩⟩
  obtain ⟨W4, hW4⟩ : ∃ W4, (w2.drewN q3).drewN q4 = W4 := ⟨_, rfl⟩
  have P4 : Aside0 (Pair W4 lo g r D) := ⟨by subst hW4; exact HPair.out.fr ((F2.out.drewN q3).drewN q4)⟩
  have F4 : Aside0 (Fr (fun k => lo ≤ k) w W4) := ⟨by subst hW4; exact ((F2.out.mono (fun k h => h.elim)).drewN q3).drewN q4⟩
  have s1 : (convert 22 9 (.slice none 0 0)).run Try.prog W4 = .ok (.string (strOfNums [])) W4 := Kd.C_string Try.underlying22 Try.underlying5 Try.underlying9 (xs := []) (Kd.C_of_reads (d := (0 : Int)) (h1 := fun _ => rfl) ⟨rfl, by omega, fun h => absurd h (Nat.lt_irrefl 0)⟩)
  rw [hW4]
  generalize strOfNums [] = S0 at s1
  generalize lookD D n = e0
  clear hW4 d0 d1 d2 d3
  go_wp2_with fail
  go_loopg [13] 0 (fun kq v13 w' => v13 = .int .i64 0 ∧ w' = W4)
  case atStart => exact ⟨rfl, rfl⟩
  case round =>
    obtain ⟨rfl, rfl⟩ := hrel
    go_wp2_with fail
    go_ret
    exact ⟨rfl, P4.out, F4.out⟩

set_option maxHeartbeats 8000000 in
set_option maxRecDepth 100000 in
theorem both_read1 (lo g r : Nat) (D : DS) (o : OpV) (A A' : Option Addr) (c c' : Nat) (w : World) (h : Pair w lo g r D) (hlo : lo ≤ w.heap.size) (hb : Kd.C (Kd.int .u8) w A o.b.length o.b) (hbc : o.b.length ≤ c) (hk : Kd.C Kd.bool w A' o.keep.length o.keep) (hkc : o.keep.length ≤ c')
    (hbl : o.b.length ≤ 140737488351232) (hkl : o.keep.length ≤ 140737488351232) (hwf : (Lit.int .i64 o.n).wf = true) (hs : 0 ≤ D.steps ∧ D.steps ≤ 1000000) (hl : D.left ≤ 9223372036854775807) (hc : D.c.length ≤ 100000) (hu : D.u ≤ 100000)
    (hbd : ∀ ad, A = some ad → 0 < o.b.length → ad.block < lo) (hkd : ∀ ad, A' = some ad → 0 < o.keep.length → ad.block < lo) (hk0 : o.kind = 0) (he : lookD D o.n = 0) :
    Calls Try.prog 22 #[.pointer (some ⟨g, 0, none⟩), .pointer (some ⟨r, 0, none⟩), .agg #[.int .i64 o.kind, .int .i64 o.n, .slice A o.b.length c, .slice A' o.keep.length c']] w fun e w' => e = .returned (.bool true) ∧ Pair w' lo g r (actD D o) ∧ Fr (fun k => lo ≤ k) w w' := by
  obtain ⟨kd, n, b, kp⟩ := o
  dsimp only at *
  subst hk0
  have HPair := Aside0.mk h
  have HB := Aside0.mk (Kd.reads_of_C (enc := Value.int .u8) (d := (0 : Int)) (h1 := fun _ => rfl) hb)
  have HBC := Aside0.mk hb
  have HKC := Aside0.mk hk
  have HBD := Aside0.mk hbd
  have HKD := Aside0.mk hkd
  have HWF := Aside0.mk hwf
  obtain ⟨m, hm⟩ : ∃ m, b.length = m := ⟨_, rfl⟩
  obtain ⟨kl, hkll⟩ : ∃ kl, kp.length = kl := ⟨_, rfl⟩
  have HMM := Aside0.mk hm
  have HKL := Aside0.mk hkll
  rw [hm] at HB HBC hbc hbl HBD ⊢
  rw [hkll] at HKC hkc hkl HKD ⊢
  have HBb : Aside0 (Below w.heap.size w ((w.alloc (.cells #[.int .i64 0, .int .i64 n, .slice A m c, .slice A' kl c'] 36)).alloc (.cells #[] 5))) := ⟨((Below.refl _ w).alloc (Nat.le_refl _) _).alloc (by simp) _⟩
  have HO0 : Aside0 (((w.alloc (.cells #[.int .i64 0, .int .i64 n, .slice A m c, .slice A' kl c'] 36)).alloc (.cells #[] 5)).ownsRow w.heap.size 5 1 (.slice (some ⟨w.heap.size + 1, 0, none⟩) 0 0) ([] : List Int).length (nums .u8 [])) := ⟨⟨rfl, .inr ⟨w.heap.size + 1, 0, #[], rfl, by omega, by
    have := heap_alloc_new (w.alloc (.cells #[.int .i64 0, .int .i64 n, .slice A m c, .slice A' kl c'] 36)) (.cells #[] 5)
    simpa using this, Nat.le_refl _, by decide, rfl, rfl⟩⟩⟩
  have HRD : Aside0 (ReadsInt ((w.alloc (.cells #[.int .i64 0, .int .i64 n, .slice A m c, .slice A' kl c'] 36)).alloc (.cells #[] 5)) .u8 A m b) := ⟨HB.out.below HBb.out⟩
  clear h hb hk hbd hkd hwf hm hkll
  go_enter Try.func22, Try.ntmps22
  go_wp2_with (first
    | ((with_reducible refine gate_builtin (b := .append) (xs := #[.tmp 16, .tmp 18]) rfl ?_); at_builtin; refine print_append_row w.heap.size rfl (.tmp 16) (.tmp 18) 22 5 .u8 1 rfl Try.underlying22 info5 (by omega) (.slice (some ⟨w.heap.size + 1, 0, none⟩) 0 0) [] b A m c rfl rfl HO0.out HRD.out HBb.out (by simp; omega) (by simp; omega) ?_; intro v1 w1 h1 h2 h3 h4; obtain ⟨A1, c1, rfl, K1, K2, K3, K4⟩ := both_pre1 HMM.out v1 w1 h1 h2 h3; clear h1 h2 h3 h4)
    | ((with_reducible refine gate_builtin (b := .append) (xs := #[.tmp 19, .tmp 20]) rfl ?_); at_builtin; refine print_append_row w.heap.size rfl (.tmp 19) (.tmp 20) 22 5 .u8 1 rfl Try.underlying22 info5 (by omega) (.slice A1 m c1) b [1] (some ⟨w1.heap.size, 0, none⟩) 1 1 rfl rfl (ownsRow_kept K1.out (fun k e => Below.heap_alloc _ _ _ (q_lt (q_of_own K1.out) k e))) ⟨rfl, by omega, fun _ => ⟨_, rfl, fun j hj => by
        have hj0 : j = 0 := by omega
        subst hj0
        rw [Addr.add_mid, cell_of_row _ _ _ #[.int .u8 1] 5 (0, 0) (heap_alloc_new _ _)]
        rfl⟩⟩ (K2.out.alloc (by omega) _) (by simp; omega) (by have := HMM.out; omega) ?_; intro v2 w2 h1 h2 h3 h4; obtain ⟨A2, c2, rfl, O2, F2, B2, d0, d1, d2, d3, d4⟩ := both_pre2 HMM.out w1 A1 c1 v2 w2 K1 K3 h1 h2 h3; clear h1 h2 h3 h4 K1 K2 K3 K4))
  obtain ⟨B, R, hD, hR, hBR, hB, hRl⟩ := HPair.out
  have HD2 : Aside0 (IsDisk w2 B g D) := ⟨hD.fr F2.out (fun _ _ h => h)⟩
  have HR2 : Aside0 (IsRef w2 R r D) := ⟨hR.fr F2.out (fun _ _ h => h)⟩
  have HBR := Aside0.mk hBR
  have HB2 := Aside0.mk hB
  have HRl := Aside0.mk hRl
  have HBw := Aside0.mk hD.lt
  have HRw := Aside0.mk hR.lt
  have HW2 : Aside0 (w.heap.size < w2.heap.size) := ⟨(Array.getElem?_eq_some_iff.1 B2.out).1⟩
  have HnB : Aside0 (¬ B w.heap.size) := ⟨fun h => Nat.lt_irrefl _ (hD.lt _ h)⟩
  have HnR : Aside0 (¬ R w.heap.size) := ⟨fun h => Nat.lt_irrefl _ (hR.lt _ h)⟩
  clear hD hR hBR hB hRl
  refine (read_calls g B D n w2 HD2.out he HWF.out (by omega)).mono ?_
  rintro e w3 ⟨ra, rfl, hra, har, hf3⟩
  have HF3 := Aside0.mk hf3
  have HAR := Aside0.mk har
  have HRA := Aside0.mk hra
  have d1' : w3.cell? ⟨w.heap.size, 1, none⟩ = some (.int .i64 n) := (World.cell?_of_block (w := w2) (hf3.keep _ HW2.out (fun h => h))).trans d1
  have hl64 : Aside0 ((readC n D.c (D.f n)).length = 64) := ⟨by
    have := HD2.out.good
    have key : ∀ (c : List (Int × List Int)) (b : List Int), Good c → b.length = 64 → (readC n c b).length = 64 := by
      intro c
      induction c with
      | nil => intro b _ h; exact h
      | cons p c ih =>
        intro b hg h
        rw [readC]
        exact ih _ (fun q hq => hg q (by simp [hq])) (by split; exact (hg p (by simp)).1; exact h)
    exact key _ _ this.1 (this.2 n)⟩
  clear hf3 har hra d0 d1 d2 d3
  have RB := Aside0.mk (rread_calls r R D n w3 (HR2.out.fr HF3.out (fun _ _ h => h)) he (by omega))
  go_wp2_with fail
  refine RB.out.mono ?_
  rintro e W4 ⟨g1, cap1, rfl, ho1, hf4⟩
  have P4 : Aside0 (Pair W4 lo g r D) := ⟨(HPair.out.fr F2.out).fr (HF3.out.trans hf4 (fun k h => .inl h))⟩
  have F4 : Aside0 (Fr (fun k => lo ≤ k) w W4) := ⟨((F2.out.trans HF3.out (fun k h => .inl h)).trans hf4 (fun k h => .inl h)).mono (fun k h => h.elim)⟩
  have FW : Aside0 (Fr (fun _ => False) w W4) := ⟨(F2.out.trans HF3.out (fun k h => .inl h)).trans hf4 (fun k h => .inl h)⟩
  have HA4 : Aside0 (IsArr W4 ra (readC n D.c (D.f n)) ∧ (readC n D.c (D.f n)).length = 64) := ⟨HAR.out.kept (hf4.keep _ HAR.out.lt (fun h => h)), hl64.out⟩
  have HRA4 : Aside0 (lo ≤ ra ∧ w.heap.size ≤ ra) := ⟨by have := HRA.out; have := F2.out.size; omega, by have := HRA.out; have := F2.out.size; omega⟩
  have s1 := Kd.C_string Try.underlying22 Try.underlying5 Try.underlying9 (c := 64) (HA4.out.1.C (by rw [hl64.out]; decide))
  rw [hl64.out] at s1
  have s2 : (convert 22 9 (.slice (some ⟨g1, 0, none⟩) 64 cap1)).run Try.prog W4 = .ok (.string (strOfNums (readC n D.c (D.f n)))) W4 := by
    obtain ⟨A, c, e, hr⟩ := own_reads_of (enc := Value.int .u8) (d := (0 : Int)) ho1
    injection e with e1 e2 e3
    subst e1
    exact Kd.C_string Try.underlying22 Try.underlying5 Try.underlying9 (Kd.C_of_reads (d := (0 : Int)) (h1 := fun _ => rfl) hr)
  generalize strOfNums (readC n D.c (D.f n)) = S0 at s1 s2
  generalize readC n D.c (D.f n) = l0 at HA4
  have HF0 := Aside0.mk (Fr.refl (fun k => k = ra) W4)
  clear ho1 hf4 d1' hl64 HAR
  go_wp2_with fail
  clear s1 s2
  go_loopg [13] 64 (fun kq v13 w' => ∃ (i : Nat) (l1 : List Int), v13 = .int .i64 (i : Int) ∧ Aside0 (i + kq = 64) ∧ Aside0 (IsArr w' ra l1 ∧ l1.length = 64) ∧ Aside0 (Fr (fun k => k = ra) W4 w'))
  case atStart => exact ⟨0, l0, rfl, ⟨rfl⟩, HA4, HF0⟩
  case round =>
    clear HA4 HF0
    obtain ⟨i, l1, rfl, HI, HA, HF⟩ := hrel
    cases gk with
    | zero =>
      have hi : i = 64 := by have := HI.out; omega
      subst hi
      have P5 : Aside0 (Pair wr lo g r D) := ⟨by
        obtain ⟨B', R', q1, q2, q3, q4, q5⟩ := HPair.out
        have f : Fr (fun k => k = ra) w wr := (FW.out.mono (fun k h => h.elim)).trans HF.out (fun k h => .inl h)
        exact ⟨B', R', q1.fr f (fun k h e => by have := q1.lt k h; have := HRA4.out.2; omega), q2.fr f (fun k h e => by have := q2.lt k h; have := HRA4.out.2; omega), q3, q4, q5⟩⟩
      have F5 : Aside0 (Fr (fun k => lo ≤ k) w wr) := ⟨F4.out.trans HF.out (fun k h => .inl (by rw [h]; exact HRA4.out.1))⟩
      go_wp2_with fail
      go_ret
      exact ⟨rfl, P5.out, F5.out⟩
    | succ k1 =>
      have hi : i < 64 := by have := HI.out; omega
      have hi0 : (0 : Int) ≤ (i : Int) := by omega
      have hi1 : (i : Int) < 64 := by omega
      have c1' := HA.out.1.cell i (by rw [HA.out.2]; exact hi)
      have f1' : wr.frozen? ⟨ra, i, none⟩ = false := frozen_of_row wr _ _ _ 91 HA.out.1
      have HI2 : Aside0 (i + 1 + k1 = 64) := ⟨by have := HI.out; omega⟩
      generalize l1.getD i 0 = x at c1'
      have HA2 : Aside0 (IsArr (wr.setCell ⟨ra, i, none⟩ (.int .u8 ((x + 1) % 256))) ra (l1.set i ((x + 1) % 256)) ∧ (l1.set i ((x + 1) % 256)).length = 64) := ⟨HA.out.1.set i _, by rw [List.length_set]; exact HA.out.2⟩
      have HF2 : Aside0 (Fr (fun k => k = ra) W4 (wr.setCell ⟨ra, i, none⟩ (.int .u8 ((x + 1) % 256)))) := ⟨HF.out.setCell (.inl rfl) _⟩
      go_wp2_with fail
      go_roundg k1
      case measure => omega
      case rel => exact ⟨i + 1, _, by go_num, HI2, HA2, HF2⟩

set_option maxHeartbeats 8000000 in
set_option maxRecDepth 100000 in
theorem both_write (lo g r : Nat) (D : DS) (o : OpV) (A A' : Option Addr) (c c' : Nat) (w : World) (h : Pair w lo g r D) (hlo : lo ≤ w.heap.size) (hb : Kd.C (Kd.int .u8) w A o.b.length o.b) (hbc : o.b.length ≤ c) (hk : Kd.C Kd.bool w A' o.keep.length o.keep) (hkc : o.keep.length ≤ c')
    (hbl : o.b.length ≤ 140737488351232) (hkl : o.keep.length ≤ 140737488351232) (hwf : (Lit.int .i64 o.n).wf = true) (hs : 0 ≤ D.steps ∧ D.steps ≤ 1000000) (hl : D.left ≤ 9223372036854775807) (hc : D.c.length ≤ 100000) (hu : D.u ≤ 100000)
    (hbd : ∀ ad, A = some ad → 0 < o.b.length → ad.block < lo) (hkd : ∀ ad, A' = some ad → 0 < o.keep.length → ad.block < lo) (hk0 : o.kind = 1) :
    Calls Try.prog 22 #[.pointer (some ⟨g, 0, none⟩), .pointer (some ⟨r, 0, none⟩), .agg #[.int .i64 o.kind, .int .i64 o.n, .slice A o.b.length c, .slice A' o.keep.length c']] w fun e w' => e = .returned (.bool true) ∧ Pair w' lo g r (actD D o) ∧ Fr (fun k => lo ≤ k) w w' := by
  obtain ⟨kd, n, b, kp⟩ := o
  dsimp only at *
  subst hk0
  have HPair := Aside0.mk h
  have HB := Aside0.mk (Kd.reads_of_C (enc := Value.int .u8) (d := (0 : Int)) (h1 := fun _ => rfl) hb)
  have HBC := Aside0.mk hb
  have HKC := Aside0.mk hk
  have HBD := Aside0.mk hbd
  have HKD := Aside0.mk hkd
  have HWF := Aside0.mk hwf
  obtain ⟨m, hm⟩ : ∃ m, b.length = m := ⟨_, rfl⟩
  obtain ⟨kl, hkll⟩ : ∃ kl, kp.length = kl := ⟨_, rfl⟩
  have HMM := Aside0.mk hm
  have HKL := Aside0.mk hkll
  rw [hm] at HB HBC hbc hbl HBD ⊢
  rw [hkll] at HKC hkc hkl HKD ⊢
  have HBb : Aside0 (Below w.heap.size w ((w.alloc (.cells #[.int .i64 1, .int .i64 n, .slice A m c, .slice A' kl c'] 36)).alloc (.cells #[] 5))) := ⟨((Below.refl _ w).alloc (Nat.le_refl _) _).alloc (by simp) _⟩
  have HO0 : Aside0 (((w.alloc (.cells #[.int .i64 1, .int .i64 n, .slice A m c, .slice A' kl c'] 36)).alloc (.cells #[] 5)).ownsRow w.heap.size 5 1 (.slice (some ⟨w.heap.size + 1, 0, none⟩) 0 0) ([] : List Int).length (nums .u8 [])) := ⟨⟨rfl, .inr ⟨w.heap.size + 1, 0, #[], rfl, by omega, by
    have := heap_alloc_new (w.alloc (.cells #[.int .i64 1, .int .i64 n, .slice A m c, .slice A' kl c'] 36)) (.cells #[] 5)
    simpa using this, Nat.le_refl _, by decide, rfl, rfl⟩⟩⟩
  have HRD : Aside0 (ReadsInt ((w.alloc (.cells #[.int .i64 1, .int .i64 n, .slice A m c, .slice A' kl c'] 36)).alloc (.cells #[] 5)) .u8 A m b) := ⟨HB.out.below HBb.out⟩
  clear h hb hk hbd hkd hwf hm hkll
  go_enter Try.func22, Try.ntmps22
  go_wp2_with (first
    | ((with_reducible refine gate_builtin (b := .append) (xs := #[.tmp 16, .tmp 18]) rfl ?_); at_builtin; refine print_append_row w.heap.size rfl (.tmp 16) (.tmp 18) 22 5 .u8 1 rfl Try.underlying22 info5 (by omega) (.slice (some ⟨w.heap.size + 1, 0, none⟩) 0 0) [] b A m c rfl rfl HO0.out HRD.out HBb.out (by simp; omega) (by simp; omega) ?_; intro v1 w1 h1 h2 h3 h4; obtain ⟨A1, c1, rfl, K1, K2, K3, K4⟩ := both_pre1 HMM.out v1 w1 h1 h2 h3; clear h1 h2 h3 h4)
    | ((with_reducible refine gate_builtin (b := .append) (xs := #[.tmp 19, .tmp 20]) rfl ?_); at_builtin; refine print_append_row w.heap.size rfl (.tmp 19) (.tmp 20) 22 5 .u8 1 rfl Try.underlying22 info5 (by omega) (.slice A1 m c1) b [1] (some ⟨w1.heap.size, 0, none⟩) 1 1 rfl rfl (ownsRow_kept K1.out (fun k e => Below.heap_alloc _ _ _ (q_lt (q_of_own K1.out) k e))) ⟨rfl, by omega, fun _ => ⟨_, rfl, fun j hj => by
        have hj0 : j = 0 := by omega
        subst hj0
        rw [Addr.add_mid, cell_of_row _ _ _ #[.int .u8 1] 5 (0, 0) (heap_alloc_new _ _)]
        rfl⟩⟩ (K2.out.alloc (by omega) _) (by simp; omega) (by have := HMM.out; omega) ?_; intro v2 w2 h1 h2 h3 h4; obtain ⟨A2, c2, rfl, O2, F2, B2, d0, d1, d2, d3, d4⟩ := both_pre2 HMM.out w1 A1 c1 v2 w2 K1 K3 h1 h2 h3; clear h1 h2 h3 h4 K1 K2 K3 K4))
  obtain ⟨B, R, hD, hR, hBR, hB, hRl⟩ := HPair.out
  have HD2 : Aside0 (IsDisk w2 B g D) := ⟨hD.fr F2.out (fun _ _ h => h)⟩
  have HR2 : Aside0 (IsRef w2 R r D) := ⟨hR.fr F2.out (fun _ _ h => h)⟩
  have HBR := Aside0.mk hBR
  have HB2 := Aside0.mk hB
  have HRl := Aside0.mk hRl
  have HBw := Aside0.mk hD.lt
  have HRw := Aside0.mk hR.lt
  have HW2 : Aside0 (w.heap.size < w2.heap.size) := ⟨(Array.getElem?_eq_some_iff.1 B2.out).1⟩
  have HnB : Aside0 (¬ B w.heap.size) := ⟨fun h => Nat.lt_irrefl _ (hD.lt _ h)⟩
  have HnR : Aside0 (¬ R w.heap.size) := ⟨fun h => Nat.lt_irrefl _ (hR.lt _ h)⟩
  clear hD hR hBR hB hRl
  obtain ⟨ob, c2', hA2, hmc2⟩ : ∃ ob c2', (Value.slice A2 (m + 1) c2) = .slice (some ⟨ob, 0, none⟩) (m + 1) c2' ∧ m + 1 ≤ c2' := by
    rcases O2.out.2 with ⟨e, h0⟩ | ⟨ob, cap, cur, e, _, _, hnc, _⟩
    · omega
    · exact ⟨ob, cap, e, hnc⟩
  injection hA2 with hA2 _ hc2
  subst hA2
  subst hc2
  have OB : Aside0 (w.heap.size ≤ ob) := ⟨(q_typed (q_of_own O2.out) ob rfl).1⟩
  have CO : Aside0 (Kd.C (Kd.int .u8) w2 (some ⟨ob, 0, none⟩) m b) := ⟨by
    obtain ⟨A3, c3, e, hr⟩ := own_reads_of (enc := Value.int .u8) (d := (0 : Int)) O2.out
    injection e with e1 e2 e3
    subst e1
    have ht := hr.take_ m (by omega)
    rw [List.take_left' HMM.out] at ht
    exact Kd.C_of_reads (d := (0 : Int)) (h1 := fun _ => rfl) ht⟩
  have W14 := Aside0.mk (write_calls g B D n (some ⟨ob, 0, none⟩) c2 b w2.drew (HD2.out.drew) ⟨by omega, by omega⟩ hl HWF.out (by omega) (by rw [HMM.out]; exact Kd.C_drew CO.out) (by rw [HMM.out]; omega) (fun ad e _ h => by injection e with e; subst e; exact Nat.lt_irrefl _ (Nat.lt_of_lt_of_le (HBw.out _ h) OB.out)))
  rw [HMM.out] at W14
  have W50 : Aside0 (∀ W : World, Fr B w2 W → Calls Try.prog 50 #[.pointer (some ⟨r, 0, none⟩), .int .i64 n, .slice A m c] W fun e w' => e = .returned (.int .i64 (writeD D n b).1) ∧ (∃ R', IsRef w' R' r (writeD D n b).2 ∧ ∀ k, R' k → R k ∨ W.heap.size ≤ k) ∧ Fr R W w') := ⟨fun W hf => by
    have q := rwrite_calls r R D n A c b W (HR2.out.fr hf (fun k h h2 => HBR.out k h2 h)) ⟨by omega, by omega⟩ hl (by omega) (by rw [HMM.out]; exact C_fr (0 : Int) HBC.out ((F2.out.mono (fun k h => h.elim)).trans hf (fun k h => .inl h)) (fun ad e h0 hB => by have := HB2.out _ hB; have := HBD.out ad e h0; omega)) (by rw [HMM.out]; exact hbc)
      (fun ad e h0 hR => by have := HRl.out _ hR; have := HBD.out ad e (by rw [← HMM.out]; exact h0); omega)
    rwa [HMM.out] at q⟩
  obtain ⟨e0, he0⟩ : ∃ e0, (writeD D n b).1 = e0 := ⟨_, rfl⟩
  rw [he0] at W14 W50
  have D1 := Aside0.mk d1
  have D2 := Aside0.mk d2
  have XS : Aside0 (∀ w3 w4 : World, Fr B w2 w3 → Fr R w3 w4 → (convert 22 9 (.slice (some ⟨ob, 0, none⟩) m c2)).run Try.prog w4 = .ok (.string (strOfNums b)) w4 ∧ (convert 22 9 (.slice A m c)).run Try.prog w4 = .ok (.string (strOfNums b)) w4) := ⟨fun w3 w4 f3 f4 => by
    have f : Fr (fun k => B k ∨ R k) w2 w4 := (f3.mono (fun k h => .inl (.inl h))).trans f4 (fun k h => .inl (.inr h))
    exact ⟨Kd.C_string Try.underlying22 Try.underlying5 Try.underlying9 (C_fr (0 : Int) CO.out f (fun ad e h0 h => by injection e with e; subst e; exact h.elim (fun h => Nat.lt_irrefl _ (Nat.lt_of_lt_of_le (HBw.out _ h) OB.out)) (fun h => Nat.lt_irrefl _ (Nat.lt_of_lt_of_le (HRw.out _ h) OB.out)))),
      Kd.C_string Try.underlying22 Try.underlying5 Try.underlying9 (C_fr (0 : Int) HBC.out ((F2.out.mono (fun k h => h.elim)).trans f (fun k h => .inl h)) (fun ad e h0 h => by have := HBD.out ad e h0; exact h.elim (fun h => by have := HB2.out _ h; omega) (fun h => by have := HRl.out _ h; omega)))⟩⟩
  have XC : Aside0 (∀ w3 : World, Fr B w2 w3 → w3.cell? ⟨w.heap.size, 1, none⟩ = some (.int .i64 n) ∧ w3.cell? ⟨w.heap.size, 2, none⟩ = some (.slice A m c)) := ⟨fun w3 f => ⟨(World.cell?_of_block (w := w2) (f.keep _ HW2.out HnB.out)).trans D1.out, (World.cell?_of_block (w := w2) (f.keep _ HW2.out HnB.out)).trans D2.out⟩⟩
  have XC2 : Aside0 (∀ w3 w4 : World, Fr B w2 w3 → Fr R w3 w4 → w4.cell? ⟨w.heap.size, 1, none⟩ = some (.int .i64 n) ∧ w4.cell? ⟨w.heap.size, 2, none⟩ = some (.slice A m c)) := ⟨fun w3 w4 f f4 => ⟨(World.cell?_of_block (w := w3) (f4.keep _ (Nat.lt_of_lt_of_le HW2.out f.size) HnR.out)).trans (XC.out w3 f).1, (World.cell?_of_block (w := w3) (f4.keep _ (Nat.lt_of_lt_of_le HW2.out f.size) HnR.out)).trans (XC.out w3 f).2⟩⟩
  have hm1 : m ≤ c2 := by omega
  have hm2 : (m : Int) ≤ (c2 : Int) := by omega
  have hm3 : (0 : Int) ≤ (m : Int) := by omega
  clear d0 d3 d4
  have T0 : Aside0 ((convert 22 9 (.slice (some ⟨ob, 0, none⟩) m c2)).run Try.prog w2.drew = .ok (.string (strOfNums b)) w2.drew ∧ (convert 22 9 (.slice A m c)).run Try.prog w2.drew = .ok (.string (strOfNums b)) w2.drew) := ⟨XS.out w2.drew w2.drew ((Fr.refl _ _).drew) (Fr.refl _ _)⟩
  generalize strOfNums b = S0 at XS T0
  go_region_held3 (fun W => W.cell? ⟨w.heap.size, 1, none⟩ = some (.int .i64 n) ∧ W.cell? ⟨w.heap.size, 2, none⟩ = some (.slice A m c) ∧ (convert 22 9 (.slice (some ⟨ob, 0, none⟩) m c2)).run Try.prog W = .ok (.string S0) W ∧ (convert 22 9 (.slice A m c)).run Try.prog W = .ok (.string S0) W) (first | exact ⟨D1.out, D2.out, T0.out.1, T0.out.2⟩ | exact ⟨S4.out.1, S4.out.2, T4.out.1, T4.out.2⟩ | exact ⟨S3.out.1, S3.out.2, T3.out.1, T3.out.2⟩) (first
    | (go_at_call 14; refine W14.out.mono ?_; rintro e w3 ⟨rfl, hd3, hf3d⟩; have hf3 : Fr B w2 w3 := ⟨hf3d.os, hf3d.tape, hf3d.output, hf3d.size, hf3d.keep⟩; have HD3 := Aside0.mk hd3; have HF3 := Aside0.mk hf3; have S3 := Aside0.mk (XC.out w3 hf3); have T3 := Aside0.mk (XS.out w3 w3 hf3 (Fr.refl _ _)); clear hd3 hf3 hf3d)
    | (go_at_call 50; refine (W50.out _ HF3.out).mono ?_; rintro e w4 ⟨rfl, hr4, hf4⟩; have HR4 := Aside0.mk hr4; have HF4 := Aside0.mk hf4; have S4 := Aside0.mk (XC2.out w3 w4 HF3.out hf4); have T4 := Aside0.mk (XS.out w3 w4 HF3.out hf4); clear hr4 hf4))
  all_goals (
    obtain ⟨B', q1, q2⟩ := HD3.out
    obtain ⟨R', q3, q4⟩ := HR4.out
    have OW : Aside0 (w4.ownsRow w.heap.size 5 1 (.slice (some ⟨ob, 0, none⟩) (m + 1) c2) (m + 1) (nums .u8 (b ++ [1]))) := ⟨ownsRow_kept O2.out (fun k e => by
      have e : ob = k := by simpa [Value.ownBlock] using e
      subst e
      have hl2 : ob < w2.heap.size := q_lt (q_of_own O2.out) ob rfl
      exact (HF4.out.keep ob (Nat.lt_of_lt_of_le hl2 HF3.out.size) (fun h => Nat.lt_irrefl _ (Nat.lt_of_lt_of_le (HRw.out _ h) OB.out))).trans (HF3.out.keep ob hl2 (fun h => Nat.lt_irrefl _ (Nat.lt_of_lt_of_le (HBw.out _ h) OB.out))))⟩
    have OL : Aside0 (ob < w2.heap.size) := ⟨q_lt (q_of_own O2.out) ob rfl⟩
    have Q1 : Aside0 (IsDisk w4 B' g (writeD D n b).2) := ⟨q1.fr HF4.out (fun k h h2 => (q2 k h).elim (fun h => HBR.out k h h2) (fun h => by have := HRw.out k h2; have := F2.out.size; have h : w2.heap.size ≤ k := h; omega))⟩
    have Q3 : Aside0 (IsRef w4 R' r (writeD D n b).2) := ⟨q3⟩
    have QB : Aside0 (∀ k, B' k → k ≠ ob ∧ lo ≤ k ∧ ¬ R' k) := ⟨fun k h => by
      have hk : B k ∨ w2.heap.size ≤ k := q2 k h
      have hB3 := q1.lt k h
      have hb := OB.out
      have hl2 := OL.out
      have h02 := F2.out.size
      refine ⟨?_, ?_, fun hr => ?_⟩
      · rcases hk with hk | hk
        · have := HBw.out k hk; omega
        · omega
      · rcases hk with hk | hk
        · exact HB2.out k hk
        · omega
      · rcases q4 k hr with hr | hr
        · rcases hk with hk | hk
          · exact HBR.out k hk hr
          · have := HRw.out k hr; omega
        · omega⟩
    have QR : Aside0 (∀ k, R' k → k ≠ ob ∧ lo ≤ k) := ⟨fun k h => by
      have hb := OB.out
      have hl2 := OL.out
      have h02 := F2.out.size
      have h23 := HF3.out.size
      rcases q4 k h with hr | hr
      · have := HRw.out k hr; have := HRl.out k hr; omega
      · omega⟩
    have F4 : Aside0 (Fr (fun k => lo ≤ k) w w4) := ⟨((F2.out.mono (fun k h => h.elim)).trans HF3.out (fun k h => .inl (HB2.out k h))).trans HF4.out (fun k h => .inl (HRl.out k h))⟩
    have HF0 := Aside0.mk (Fr.refl (fun k => k = ob) w4)
    clear q1 q2 q3 q4 W14 W50 XS XC XC2 S3 S4 HD3 HR4 CO
    go_wp2_with fail
    go_loopg [15] (m + 1) (fun kq v15 w' => ∃ (i : Nat) (l2 : List Int), v15 = .int .i64 (i : Int) ∧ Aside0 (i + kq = m + 1) ∧ Aside0 (w'.ownsRow w.heap.size 5 1 (.slice (some ⟨ob, 0, none⟩) (m + 1) c2) (m + 1) (nums .u8 l2)) ∧ Aside0 (Fr (fun k => k = ob) w4 w'))
    case atStart => exact ⟨0, b ++ [1], rfl, ⟨by omega⟩, OW, HF0⟩
    case round =>
      clear OW HF0
      obtain ⟨i, l2, rfl, HI, HOW, HF⟩ := hrel
      have hi0 : (0 : Int) ≤ (i : Int) := by omega
      cases gk with
      | zero =>
        have hi : i = m + 1 := by have := HI.out; omega
        subst hi
        have P5 : Aside0 (Pair wr lo g r (writeD D n b).2) := ⟨⟨B', R', Q1.out.fr HF.out (fun k h e => (QB.out k h).1 e), Q3.out.fr HF.out (fun k h e => (QR.out k h).1 e), fun k h => (QB.out k h).2.2, fun k h => (QB.out k h).2.1, fun k h => (QR.out k h).2⟩⟩
        have F5 : Aside0 (Fr (fun k => lo ≤ k) w wr) := ⟨F4.out.trans HF.out (fun k h => .inl (by rw [h]; exact Nat.le_trans hlo OB.out))⟩
        go_wp2_with fail
        go_ret
        exact ⟨rfl, P5.out, F5.out⟩
      | succ k1 =>
        have hi : i < m + 1 := by have := HI.out; omega
        have hi1 : (i : Int) < ((m + 1 : Nat) : Int) := by omega
        obtain ⟨c1', f1'⟩ := own_at HOW.out (i : Int) hi0 hi1
        rw [Int.toNat_natCast] at c1' f1'
        have ST := own_store HOW.out (i : Int) 77
        rw [Int.toNat_natCast] at ST
        have HOW2 := Aside0.mk ST.1
        have HF2 : Aside0 (Fr (fun k => k = ob) w4 (wr.setCell ⟨ob, i, none⟩ (.int .u8 77))) := ⟨HF.out.setCell (.inl rfl) _⟩
        have HI2 : Aside0 (i + 1 + k1 = m + 1) := ⟨by have := HI.out; omega⟩
        clear ST
        go_wp2_with fail
        go_roundg k1
        case measure => omega
        case rel => exact ⟨i + 1, _, by go_num, HI2, HOW2, HF2⟩)

set_option maxHeartbeats 8000000 in
set_option maxRecDepth 100000 in
theorem both_other (lo g r : Nat) (D : DS) (o : OpV) (A A' : Option Addr) (c c' : Nat) (w : World) (h : Pair w lo g r D) (hlo : lo ≤ w.heap.size) (hb : Kd.C (Kd.int .u8) w A o.b.length o.b) (hbc : o.b.length ≤ c) (hk : Kd.C Kd.bool w A' o.keep.length o.keep) (hkc : o.keep.length ≤ c')
    (hbl : o.b.length ≤ 140737488351232) (hkl : o.keep.length ≤ 140737488351232) (hwf : (Lit.int .i64 o.n).wf = true) (hs : 0 ≤ D.steps ∧ D.steps ≤ 1000000) (hl : D.left ≤ 9223372036854775807) (hc : D.c.length ≤ 100000) (hu : D.u ≤ 100000)
    (hbd : ∀ ad, A = some ad → 0 < o.b.length → ad.block < lo) (hkd : ∀ ad, A' = some ad → 0 < o.keep.length → ad.block < lo) (he : o.kind ≠ 0 ∧ o.kind ≠ 1 ∧ o.kind ≠ 2 ∧ o.kind ≠ 3 ∧ o.kind ≠ 4) :
    Calls Try.prog 22 #[.pointer (some ⟨g, 0, none⟩), .pointer (some ⟨r, 0, none⟩), .agg #[.int .i64 o.kind, .int .i64 o.n, .slice A o.b.length c, .slice A' o.keep.length c']] w fun e w' => e = .returned (.bool true) ∧ Pair w' lo g r (actD D o) ∧ Fr (fun k => lo ≤ k) w w' := by
  obtain ⟨kd, n, b, kp⟩ := o
  dsimp only at *
  obtain ⟨n0, n1, n2, n3, n4⟩ := he
  have b0 : (kd == 0) = false := by simpa using n0
  have b1 : (kd == 1) = false := by simpa using n1
  have b2 : (kd == 2) = false := by simpa using n2
  have b3 : (kd == 3) = false := by simpa using n3
  have b4 : (kd == 4) = false := by simpa using n4
  replace n1 := Aside0.mk n1
  replace n2 := Aside0.mk n2
  replace n3 := Aside0.mk n3
  replace n4 := Aside0.mk n4
  have HPair := Aside0.mk h
  have HB := Aside0.mk (Kd.reads_of_C (enc := Value.int .u8) (d := (0 : Int)) (h1 := fun _ => rfl) hb)
  have HBC := Aside0.mk hb
  have HKC := Aside0.mk hk
  have HBD := Aside0.mk hbd
  have HKD := Aside0.mk hkd
  have HWF := Aside0.mk hwf
  obtain ⟨m, hm⟩ : ∃ m, b.length = m := ⟨_, rfl⟩
  obtain ⟨kl, hkll⟩ : ∃ kl, kp.length = kl := ⟨_, rfl⟩
  have HMM := Aside0.mk hm
  have HKL := Aside0.mk hkll
  rw [hm] at HB HBC hbc hbl HBD ⊢
  rw [hkll] at HKC hkc hkl HKD ⊢
  have HBb : Aside0 (Below w.heap.size w ((w.alloc (.cells #[.int .i64 kd, .int .i64 n, .slice A m c, .slice A' kl c'] 36)).alloc (.cells #[] 5))) := ⟨((Below.refl _ w).alloc (Nat.le_refl _) _).alloc (by simp) _⟩
  have HO0 : Aside0 (((w.alloc (.cells #[.int .i64 kd, .int .i64 n, .slice A m c, .slice A' kl c'] 36)).alloc (.cells #[] 5)).ownsRow w.heap.size 5 1 (.slice (some ⟨w.heap.size + 1, 0, none⟩) 0 0) ([] : List Int).length (nums .u8 [])) := ⟨⟨rfl, .inr ⟨w.heap.size + 1, 0, #[], rfl, by omega, by
    have := heap_alloc_new (w.alloc (.cells #[.int .i64 kd, .int .i64 n, .slice A m c, .slice A' kl c'] 36)) (.cells #[] 5)
    simpa using this, Nat.le_refl _, by decide, rfl, rfl⟩⟩⟩
  have HRD : Aside0 (ReadsInt ((w.alloc (.cells #[.int .i64 kd, .int .i64 n, .slice A m c, .slice A' kl c'] 36)).alloc (.cells #[] 5)) .u8 A m b) := ⟨HB.out.below HBb.out⟩
  clear h hb hk hbd hkd hwf hm hkll
  go_enter Try.func22, Try.ntmps22
  go_wp2_with (first
    | ((with_reducible refine gate_builtin (b := .append) (xs := #[.tmp 16, .tmp 18]) rfl ?_); at_builtin; refine print_append_row w.heap.size rfl (.tmp 16) (.tmp 18) 22 5 .u8 1 rfl Try.underlying22 info5 (by omega) (.slice (some ⟨w.heap.size + 1, 0, none⟩) 0 0) [] b A m c rfl rfl HO0.out HRD.out HBb.out (by simp; omega) (by simp; omega) ?_; intro v1 w1 h1 h2 h3 h4; obtain ⟨A1, c1, rfl, K1, K2, K3, K4⟩ := both_pre1 HMM.out v1 w1 h1 h2 h3; clear h1 h2 h3 h4)
    | ((with_reducible refine gate_builtin (b := .append) (xs := #[.tmp 19, .tmp 20]) rfl ?_); at_builtin; refine print_append_row w.heap.size rfl (.tmp 19) (.tmp 20) 22 5 .u8 1 rfl Try.underlying22 info5 (by omega) (.slice A1 m c1) b [1] (some ⟨w1.heap.size, 0, none⟩) 1 1 rfl rfl (ownsRow_kept K1.out (fun k e => Below.heap_alloc _ _ _ (q_lt (q_of_own K1.out) k e))) ⟨rfl, by omega, fun _ => ⟨_, rfl, fun j hj => by
        have hj0 : j = 0 := by omega
        subst hj0
        rw [Addr.add_mid, cell_of_row _ _ _ #[.int .u8 1] 5 (0, 0) (heap_alloc_new _ _)]
        rfl⟩⟩ (K2.out.alloc (by omega) _) (by simp; omega) (by have := HMM.out; omega) ?_; intro v2 w2 h1 h2 h3 h4; obtain ⟨A2, c2, rfl, O2, F2, B2, d0, d1, d2, d3, d4⟩ := both_pre2 HMM.out w1 A1 c1 v2 w2 K1 K3 h1 h2 h3; clear h1 h2 h3 h4 K1 K2 K3 K4))
  go_ret
  have e : actD D ⟨kd, n, b, kp⟩ = D := by unfold actD; simp [n1.out, n2.out, n3.out, n4.out]
  rw [e]
  exact ⟨rfl, HPair.out.fr F2.out, F2.out.mono (fun k h => h.elim)⟩

set_option maxHeartbeats 8000000 in
set_option maxRecDepth 100000 in
theorem both_calls (lo g r : Nat) (D : DS) (o : OpV) (A A' : Option Addr) (c c' : Nat) (w : World) (h : Pair w lo g r D) (hlo : lo ≤ w.heap.size) (hb : Kd.C (Kd.int .u8) w A o.b.length o.b) (hbc : o.b.length ≤ c) (hk : Kd.C Kd.bool w A' o.keep.length o.keep) (hkc : o.keep.length ≤ c')
    (hbl : o.b.length ≤ 140737488351232) (hkl : o.keep.length ≤ 140737488351232) (hwf : (Lit.int .i64 o.n).wf = true) (hs : 0 ≤ D.steps ∧ D.steps ≤ 1000000) (hl : D.left ≤ 9223372036854775807) (hc : D.c.length ≤ 100000) (hu : D.u ≤ 100000)
    (hbd : ∀ ad, A = some ad → 0 < o.b.length → ad.block < lo) (hkd : ∀ ad, A' = some ad → 0 < o.keep.length → ad.block < lo)  :
    Calls Try.prog 22 #[.pointer (some ⟨g, 0, none⟩), .pointer (some ⟨r, 0, none⟩), .agg #[.int .i64 o.kind, .int .i64 o.n, .slice A o.b.length c, .slice A' o.keep.length c']] w fun e w' => e = .returned (.bool true) ∧ Pair w' lo g r (actD D o) ∧ Fr (fun k => lo ≤ k) w w' := by
  by_cases k0 : o.kind = 0
  · by_cases he : lookD D o.n = 0
    · exact both_read1 lo g r D o A A' c c' w h hlo hb hbc hk hkc hbl hkl hwf hs hl hc hu hbd hkd k0 he
    · exact both_read0 lo g r D o A A' c c' w h hlo hb hbc hk hkc hbl hkl hwf hs hl hc hu hbd hkd k0 he
  · by_cases k1 : o.kind = 1
    · exact both_write lo g r D o A A' c c' w h hlo hb hbc hk hkc hbl hkl hwf hs hl hc hu hbd hkd k1
    · by_cases k2 : o.kind = 2
      · exact both_flush lo g r D o A A' c c' w h hlo hb hbc hk hkc hbl hkl hwf hs hl hc hu hbd hkd k2
      · by_cases k3 : o.kind = 3
        · exact both_arm lo g r D o A A' c c' w h hlo hb hbc hk hkc hbl hkl hwf hs hl hc hu hbd hkd k3
        · by_cases k4 : o.kind = 4
          · exact both_mend lo g r D o A A' c c' w h hlo hb hbc hk hkc hbl hkl hwf hs hl hc hu hbd hkd k4
          · exact both_other lo g r D o A A' c c' w h hlo hb hbc hk hkc hbl hkl hwf hs hl hc hu hbd hkd ⟨k0, k1, k2, k3, k4⟩
end Go.Proofs.Ytppgbfkhiofjiaa.X
