/-
  The contract of works (redlinelaw23).
-/
import Derived.Test.YtppgbfkhiofjiaaED5
import Derived.Deep.CutRange
namespace Go.Proofs.Ytppgbfkhiofjiaa.X
open Go.RowKit Go.Proofs.YtppgbfkhiofjiaaW.PrintWords Go.Proofs.YtppgbfkhiofjiaaW.PrintLast Go.Proofs.YtppgbfkhiofjiaaW.PrintMore
set_option linter.unusedVariables false
set_option linter.unusedSimpArgs false

/-- A block that is a row of bytes. -/
def IsBytes (w : World) (b : Nat) (l : List Int) : Prop := w.heap[b]? = some (.cells (nums .u8 l).toArray 5 (0, 0))
theorem make64 (w : World) : (Instr.makeSlice 22 (.int .i64 64) (.int .i64 64)).run Try.prog w = .ok (.slice (some ⟨w.heap.size, 0, none⟩) 64 64) (w.alloc (.cells (nums .u8 zeros64).toArray 5)) := by
  have h := run_make_row' (P := Try.prog) 22 5 (.int .u8 0) 1 Try.underlying22 info5 rfl .i64 .i64 64 (by omega) (by omega) w
  have e : madeCells #[Value.int .u8 0] 64 = (nums .u8 zeros64).toArray := by kernel_rfl
  rw [e] at h
  exact h
theorem IsBytes.new (w : World) (l : List Int) : IsBytes (w.alloc (.cells (nums .u8 l).toArray 5)) w.heap.size l := heap_alloc_new _ _
theorem IsBytes.lt {w : World} {b : Nat} {l : List Int} (h : IsBytes w b l) : b < w.heap.size := by
  unfold IsBytes at h
  exact (Array.getElem?_eq_some_iff.1 h).1
theorem IsBytes.kept {w w' : World} {b : Nat} {l : List Int} (h : IsBytes w b l) (hk : w'.heap[b]? = w.heap[b]?) : IsBytes w' b l := hk.trans h
theorem IsBytes.cell {w : World} {b : Nat} {l : List Int} (h : IsBytes w b l) (i : Nat) (hi : i < l.length) : w.cell? ⟨b, i, none⟩ = some (.int .u8 (l.getD i 0)) := by
  rw [cell_of_row w b _ _ 5 (0, 0) h, List.getElem?_toArray]
  simp [nums, hi]
theorem IsBytes.free {w : World} {b : Nat} {l : List Int} (h : IsBytes w b l) (i : Nat) : w.frozen? ⟨b, i, none⟩ = false := frozen_of_row w b _ _ 5 h
theorem IsBytes.set {w : World} {b : Nat} {l : List Int} (h : IsBytes w b l) (i : Nat) (x : Int) : IsBytes (w.setCell ⟨b, i, none⟩ (.int .u8 x)) b (l.set i x) := by
  unfold IsBytes
  rw [heap_setCell_same w b i _ 5 _ h]
  congr 2
  apply Array.toList_inj.1
  simp [nums, List.map_set]
theorem IsBytes.C {w : World} {b : Nat} {l : List Int} (h : IsBytes w b l) (hl : l.length ≤ 9223372036854775807) : Kd.C (Kd.int .u8) w (some ⟨b, 0, none⟩) l.length l :=
  Kd.C_of_reads (enc := Value.int .u8) (d := (0 : Int)) (h1 := fun _ => rfl) ⟨rfl, hl, fun _ => ⟨_, rfl, fun j hj => by
    rw [Addr.add_mid, Nat.zero_add]
    exact h.cell j hj⟩⟩
theorem IsArr.cell {w : World} {b : Nat} {l : List Int} (h : IsArr w b l) (i : Nat) (hi : i < l.length) : w.cell? ⟨b, i, none⟩ = some (.int .u8 (l.getD i 0)) := by
  rw [cell_of_row w b _ _ 91 (0, 0) h, List.getElem?_toArray]
  simp [nums, hi]

/-- A block that is a row of truths. -/
def IsBools (w : World) (b : Nat) (l : List Bool) : Prop := w.heap[b]? = some (.cells (l.map Value.bool).toArray 4 (0, 0))
theorem IsBools.kept {w w' : World} {b : Nat} {l : List Bool} (h : IsBools w b l) (hk : w'.heap[b]? = w.heap[b]?) : IsBools w' b l := hk.trans h
theorem IsBools.cell {w : World} {b : Nat} {l : List Bool} (h : IsBools w b l) (i : Nat) (hi : i < l.length) : w.cell? ⟨b, i, none⟩ = some (.bool (l.getD i false)) := by
  rw [cell_of_row w b _ _ 4 (0, 0) h, List.getElem?_toArray]
  simp [hi]
theorem IsBools.C {w : World} {b : Nat} {l : List Bool} (h : IsBools w b l) (hl : l.length ≤ 9223372036854775807) : Kd.C Kd.bool w (some ⟨b, 0, none⟩) l.length l :=
  Kd.C_of_reads (enc := Value.bool) (d := false) (h1 := fun _ => rfl) ⟨rfl, hl, fun _ => ⟨_, rfl, fun j hj => by
    rw [Addr.add_mid, Nat.zero_add]
    exact h.cell j hj⟩⟩
def rowA : List Int := zeros64.set 0 1
def rowB : List Int := zeros64.set 0 2
def wD1 : DS := { newD 4 with c := [(1, rowA)], steps := 1 }
def wD2 : DS := { newD 4 with c := [(1, rowA), (1, rowB)], steps := 2 }
theorem work1 : writeD (newD 4) 1 rowA = (0, wD1) := by rfl
theorem work2 : writeD wD1 1 rowB = (0, wD2) := by rfl
theorem work3 : readC 1 wD2.c (wD2.f 1) = rowB := by rfl
theorem work4 : readC 1 (mendD [true, false] wD2).c ((mendD [true, false] wD2).f 1) = rowA := by rfl

set_option maxHeartbeats 4000000 in
set_option maxRecDepth 100000 in
theorem works_calls (w : World) : Calls Try.prog 12 #[] w fun e w' => e = .returned (.bool true) ∧ Fr (fun _ => False) w w' := by
  have hmk := make64
  go_enter Try.func12, Try.ntmps12
  go_wp2_with fail
  refine (new_calls 4 w (by omega) (by omega)).mono ?_
  rintro e w1 ⟨g, rfl, ⟨B, hd, hB⟩, hb⟩
  have HD := Aside0.mk hd
  have HB := Aside0.mk hB
  have HF := Aside0.mk (Fr.of_below hb (fun _ => False))
  have HLT := Aside0.mk hd.lt
  clear hd hB hb
  go_wp2
  go_cut [3, 4] from 19 to 20 (fun v3 v4 wx => ∃ ka kb, v3 = .slice (some ⟨ka, 0, none⟩) 64 64 ∧ v4 = .slice (some ⟨kb, 0, none⟩) 64 64 ∧ ka ≠ kb ∧ kb ≠ ka ∧ Aside0 (IsBytes wx ka zeros64) ∧ Aside0 (IsBytes wx kb zeros64) ∧
    Aside0 (IsDisk wx B g (newD 4)) ∧ Aside0 (Fr (fun _ => False) w wx) ∧ Aside0 (¬ B ka) ∧ Aside0 (¬ B kb) ∧ Aside0 (w.heap.size ≤ ka) ∧ Aside0 (w.heap.size ≤ kb))
  case first =>
    go_region
    all_goals (go_wp2_with fail; go_meet)
    · refine ⟨_, _, rfl, rfl, by omega, by omega, ⟨?_⟩, ⟨?_⟩, ⟨((HD.out.alloc _).alloc _).drew⟩, ⟨((HF.out.alloc _).alloc _).drew⟩, ⟨?_⟩, ⟨?_⟩, ⟨?_⟩, ⟨?_⟩⟩
      · exact heap_alloc2_old _ _ _
      · exact heap_alloc2_new _ _ _
      · intro h; have := HLT.out _ h; omega
      · intro h; have := HLT.out _ h; omega
      · exact HF.out.size
      · have := HF.out.size; omega
    · refine ⟨_, _, rfl, rfl, by omega, by omega, ⟨?_⟩, ⟨?_⟩, ⟨((HD.out.alloc _).alloc _).drew⟩, ⟨((HF.out.alloc _).alloc _).drew⟩, ⟨?_⟩, ⟨?_⟩, ⟨?_⟩, ⟨?_⟩⟩
      · exact heap_alloc2_new _ _ _
      · exact heap_alloc2_old _ _ _
      · intro h; have := HLT.out _ h; omega
      · intro h; have := HLT.out _ h; omega
      · have := HF.out.size; omega
      · exact HF.out.size
  clear HD HF HLT hmk
  obtain ⟨ka, kb, rfl, rfl, hab, hba, HA, HB1, HD, HF, hnA, hnB, hkA, hkB⟩ := hcut
  have ca := HA.out.cell 0 (by show 0 < 64; omega)
  have cb := HB1.out.cell 0 (by show 0 < 64; omega)
  have fa := HA.out.free 0
  have fb := HB1.out.free 0
  go_wp2_with fail
  clear ca cb fa fb
  have HW1 : Aside0 (IsBytes ((wc.setCell ⟨ka, 0, none⟩ (.int .u8 1)).setCell ⟨kb, 0, none⟩ (.int .u8 2)) ka rowA) := ⟨(HA.out.set 0 1).kept (Below.heap_setCell _ ⟨kb, 0, none⟩ _ _ hab)⟩
  have HW2 : Aside0 (IsBytes ((wc.setCell ⟨ka, 0, none⟩ (.int .u8 1)).setCell ⟨kb, 0, none⟩ (.int .u8 2)) kb rowB) := ⟨(HB1.out.kept (Below.heap_setCell _ ⟨ka, 0, none⟩ _ _ hba)).set 0 2⟩
  have HFw : Fr (fun k => k = ka ∨ k = kb) wc ((wc.setCell ⟨ka, 0, none⟩ (.int .u8 1)).setCell ⟨kb, 0, none⟩ (.int .u8 2)) := ((Fr.refl _ _).setCell (.inl (.inl rfl)) _).setCell (.inl (.inr rfl)) _
  have HF2 : Aside0 (Fr (fun _ => False) w ((wc.setCell ⟨ka, 0, none⟩ (.int .u8 1)).setCell ⟨kb, 0, none⟩ (.int .u8 2))) := ⟨HF.out.trans HFw (fun k h => .inr (h.elim (fun e => e ▸ hkA.out) (fun e => e ▸ hkB.out)))⟩
  have HD2 : Aside0 (IsDisk ((wc.setCell ⟨ka, 0, none⟩ (.int .u8 1)).setCell ⟨kb, 0, none⟩ (.int .u8 2)) B g (newD 4)) := ⟨HD.out.fr HFw (fun k hk h => h.elim (fun e => hnA.out (e ▸ hk)) (fun e => hnB.out (e ▸ hk)))⟩
  clear HA HB1 HD HF HFw
  generalize ((wc.setCell ⟨ka, 0, none⟩ (.int .u8 1)).setCell ⟨kb, 0, none⟩ (.int .u8 2)) = W1 at *
  refine (write_calls g B (newD 4) 1 (some ⟨ka, 0, none⟩) 64 rowA W1 HD2.out ⟨by decide, by decide⟩ (by decide) (by decide) (by decide) (HW1.out.C (by decide)) (by decide) (fun ad e _ => by injection e with e; subst e; exact hnA.out)).mono ?_
  rw [work1]
  rintro e W2 ⟨rfl, ⟨B2, hd2, hb2⟩, hf2⟩
  have HD3 := Aside0.mk hd2
  have HW3 : Aside0 (IsBytes W2 kb rowB) := ⟨HW2.out.kept (hf2.keep _ HW2.out.lt hnB.out)⟩
  have hnB2 : Aside0 (¬ B2 kb) := ⟨fun h => (hb2 _ h).elim hnB.out (fun h => by have := HW2.out.lt; omega)⟩
  have hB2 : Aside0 (∀ k, B2 k → w.heap.size ≤ k) := ⟨fun k h => (hb2 _ h).elim (HB.out k) (fun h => Nat.le_trans HF2.out.size h)⟩
  have HF3 : Aside0 (Fr (fun _ => False) w W2) := ⟨HF2.out.trans hf2 (fun k h => .inr (HB.out k h))⟩
  clear hd2 hb2 hf2 HW1 HW2 HF2 HD2
  go_wp2_with fail
  refine (write_calls g B2 wD1 1 (some ⟨kb, 0, none⟩) 64 rowB W2 HD3.out ⟨by decide, by decide⟩ (by decide) (by decide) (by decide) (HW3.out.C (by decide)) (by decide) (fun ad e _ => by injection e with e; subst e; exact hnB2.out)).mono ?_
  rw [work2]
  rintro e W3 ⟨rfl, ⟨B3, hd3, hb3⟩, hf3⟩
  have HD4 := Aside0.mk hd3
  have hB3 : Aside0 (∀ k, B3 k → w.heap.size ≤ k) := ⟨fun k h => (hb3 _ h).elim (hB2.out k) (fun h => Nat.le_trans HF3.out.size h)⟩
  have HF4 : Aside0 (Fr (fun _ => False) w W3) := ⟨HF3.out.trans hf3 (fun k h => .inr (hB2.out k h))⟩
  clear hd3 hb3 hf3 HW3 HF3 HD3
  go_wp2_with fail
  refine (read_calls g B3 wD2 1 W3 HD4.out (by rfl) (by decide) (by decide)).mono ?_
  rw [work3]
  rintro e W4 ⟨ra, rfl, hra, ha, hf4⟩
  have HA1 := Aside0.mk ha
  have HD5 := Aside0.mk (HD4.out.fr hf4 (fun _ _ h => h))
  have HF5 : Aside0 (Fr (fun _ => False) w W4) := ⟨HF4.out.trans hf4 (fun k h => .inl h)⟩
  have hra' : Aside0 (¬ B3 ra) := ⟨fun h => by have := HD4.out.lt _ h; omega⟩
  clear ha hf4 HD4 HF4 hra
  go_wp2_with fail
  have hbl : IsBools (W4.alloc (.cells #[.bool true, .bool false] 4)) W4.heap.size [true, false] := heap_alloc_new _ _
  refine (mend_calls g B3 wD2 (some ⟨W4.heap.size, 0, none⟩) 2 [true, false] _ (HD5.out.alloc _) (by decide) (by decide) (hbl.C (by decide)) (fun ad e _ h => by injection e with e; subst e; have := HD5.out.lt _ h; exact Nat.lt_irrefl _ this)).mono ?_
  rintro e W5 ⟨rfl, hd5, hf5⟩
  have HD6 := Aside0.mk hd5
  have hf6 := ((Fr.refl B3 W4).alloc _).trans hf5 (fun k h => .inl h)
  have HF6 : Aside0 (Fr (fun _ => False) w W5) := ⟨HF5.out.trans hf6 (fun k h => .inr (hB3.out k h))⟩
  have HA2 : Aside0 (IsArr W5 ra rowB) := ⟨HA1.out.kept (hf6.keep _ HA1.out.lt hra'.out)⟩
  clear hd5 hf5 hf6 HD5 HF5 HA1 hbl
  go_wp2_with fail
  refine (read_calls g B3 (mendD [true, false] wD2) 1 W5 HD6.out (by rfl) (by decide) (by decide)).mono ?_
  rw [work4]
  rintro e W6 ⟨rb, rfl, hrb, hb, hf7⟩
  have HF7 : Aside0 (Fr (fun _ => False) w W6) := ⟨HF6.out.trans hf7 (fun k h => .inl h)⟩
  have a1 := (HA2.out.kept (hf7.keep _ HA2.out.lt (fun h => h))).cell 0 (by decide)
  have a2 := hb.cell 0 (by decide)
  rw [show rowB.getD 0 0 = 2 from rfl] at a1
  rw [show rowA.getD 0 0 = 1 from rfl] at a2
  clear hb hf7 HD6 HF6 HA2 hrb
  go_wp2
  go_ret
  exact ⟨rfl, HF7.out⟩
end Go.Proofs.Ytppgbfkhiofjiaa.X
