/-
  DiskEnds: the walk.
-/
import Derived.Test.YtppgbfkhiofjiaaED10
import Derived.Test.YtppgbfkhiofjiaaPureEnds
namespace Go.Proofs.Ytppgbfkhiofjiaa.X
open Go.RowKit Go.Proofs.YtppgbfkhiofjiaaW.PrintWords Go.Proofs.YtppgbfkhiofjiaaW.PrintLast Go.Proofs.YtppgbfkhiofjiaaW.PrintMore
set_option linter.unusedVariables false
set_option linter.unusedSimpArgs false

theorem info4' : (Try.prog.info? 4).map (fun i => (i.zero, i.size, i.bytes)) = some (some (.bool false), 1, 1) := by kernel_rfl
theorem make300 (w : World) : (Instr.makeSlice 27 (.int .i64 300) (.int .i64 300)).run Try.prog w = .ok (.slice (some ⟨w.heap.size, 0, none⟩) 300 300) (w.alloc (.cells ((List.replicate 300 false).map Value.bool).toArray 4)) := by
  have h := run_make_row' (P := Try.prog) 27 4 (.bool false) 1 Try.underlying27 info4' rfl .i64 .i64 300 (by omega) (by omega) w
  have e : madeCells #[Value.bool false] 300 = ((List.replicate 300 false).map Value.bool).toArray := by kernel_rfl
  rw [e] at h
  exact h
theorem IsBools.free {w : World} {b : Nat} {l : List Bool} (h : IsBools w b l) (i : Nat) : w.frozen? ⟨b, i, none⟩ = false := frozen_of_row w b _ _ 4 h
theorem IsBools.lt {w : World} {b : Nat} {l : List Bool} (h : IsBools w b l) : b < w.heap.size := by
  unfold IsBools at h
  exact (Array.getElem?_eq_some_iff.1 h).1
theorem IsBools.set {w : World} {b : Nat} {l : List Bool} (h : IsBools w b l) (i : Nat) (x : Bool) : IsBools (w.setCell ⟨b, i, none⟩ (.bool x)) b (l.set i x) := by
  unfold IsBools
  rw [heap_setCell_same w b i _ 4 _ h]
  congr 2
  apply Array.toList_inj.1
  simp [List.map_set]
def allB (i : Nat) : List Bool := List.replicate i true ++ List.replicate (300 - i) false
theorem allB_length (i : Nat) (h : i ≤ 300) : (allB i).length = 300 := by simp [allB]; omega
theorem allB_set (i : Nat) (h : i < 300) : (allB i).set i true = allB (i + 1) := by
  unfold allB
  rw [List.set_append_right _ _ (by simp), List.length_replicate, Nat.sub_self, show 300 - i = (300 - (i + 1)) + 1 by omega, List.replicate_succ, List.set_cons_zero, List.replicate_succ', List.append_assoc]
  rfl
theorem IsArr.C {w : World} {b : Nat} {l : List Int} (h : IsArr w b l) (hl : l.length ≤ 9223372036854775807) : Kd.C (Kd.int .u8) w (some ⟨b, 0, none⟩) l.length l :=
  Kd.C_of_reads (enc := Value.int .u8) (d := (0 : Int)) (h1 := fun _ => rfl) ⟨rfl, hl, fun _ => ⟨_, rfl, fun j hj => by
    rw [Addr.add_mid, Nat.zero_add]
    exact h.cell j hj⟩⟩
theorem rest4 (x : Int) : ∃ m : Nat, m < 4 ∧ wrap64 ((IntKind.u64.wrap x).tmod 4) = (m : Int) := by
  have h0 : 0 ≤ IntKind.u64.wrap x := by
    show 0 ≤ x % 18446744073709551616
    omega
  refine ⟨((IntKind.u64.wrap x) % 4).toNat, by omega, ?_⟩
  rw [Int.tmod_eq_emod_of_nonneg h0]
  unfold wrap64
  omega
/-- What holds in each round. -/
def SE (w w' : World) (g ab lg i : Nat) : Prop := ∃ (D E : DS) (B L : Nat → Prop), IsDisk w' B g D ∧ IsDisk w' L lg E ∧ EInv i D E ∧ (∀ k, L k → ¬ B k) ∧ (∀ k, B k → w.heap.size ≤ k) ∧ (∀ k, L k → w.heap.size ≤ k) ∧ IsBools w' ab (allB 300) ∧ ¬ B ab ∧ w.heap.size ≤ ab ∧ Fr (fun _ => False) w w'

set_option maxHeartbeats 8000000 in
set_option maxRecDepth 100000 in
theorem ends_calls (A0 : Option Addr) (cap0 : Nat) (l : List OpV) (w : World) (hl : Ops w A0 l) (hl63 : l.length ≤ 9223372036854775807) :
    Calls Try.prog 5 #[.slice A0 l.length cap0] w fun e w' => e = .returned (.bool true) ∧ Fr (fun _ => False) w w' := by
  have hmk := make64
  have hmk3 := make300
  have HL := Aside0.mk hl
  clear hl
  go_enter Try.func5, Try.ntmps5
  go_wp2_with fail
  refine (works_calls w).mono ?_
  rintro e w1 ⟨rfl, hf1⟩
  have HF1 := Aside0.mk hf1
  clear hf1
  go_wp2_with fail
  refine (new_calls 4 w1 (by omega) (by omega)).mono ?_
  rintro e w2 ⟨g, rfl, ⟨B, hd, hB⟩, hb⟩
  have HD := Aside0.mk hd
  have HB : Aside0 (∀ k, B k → w.heap.size ≤ k) := ⟨fun k h => Nat.le_trans HF1.out.size (hB k h)⟩
  have HF2 : Aside0 (Fr (fun _ => False) w w2) := ⟨HF1.out.trans (Fr.of_below hb (fun _ => False)) (fun k h => .inl h)⟩
  clear hd hB hb HF1
  go_wp2_with fail
  have HA : Aside0 (IsBools (w2.alloc (.cells ((List.replicate 300 false).map Value.bool).toArray 4)) w2.heap.size (allB 0)) := ⟨heap_alloc_new _ _⟩
  have HF3 : Aside0 (Fr (fun k => k = w2.heap.size) w2 (w2.alloc (.cells ((List.replicate 300 false).map Value.bool).toArray 4))) := ⟨(Fr.refl _ _).alloc _⟩
  go_loopg [6] 300 (fun kq v6 w' => ∃ (i : Nat), v6 = .int .i64 (i : Int) ∧ Aside0 (i + kq = 300) ∧ Aside0 (IsBools w' w2.heap.size (allB i)) ∧ Aside0 (Fr (fun k => k = w2.heap.size) w2 w'))
  case atStart => exact ⟨0, rfl, ⟨rfl⟩, HA, HF3⟩
  case round =>
    clear HA HF3
    obtain ⟨i, rfl, HI, HA, HF3⟩ := hrel
    cases gk with
    | zero =>
      have hi : i = 300 := by have := HI.out; omega
      subst hi
      obtain ⟨ab, hab⟩ : ∃ ab, w2.heap.size = ab := ⟨_, rfl⟩
      have HD1 : Aside0 (IsDisk wr B g (newD 4)) := ⟨HD.out.fr HF3.out (fun k h e => by have := HD.out.lt k h; omega)⟩
      have HnB : Aside0 (¬ B ab) := ⟨fun h => by have := HD.out.lt _ h; omega⟩
      have hab2 : Aside0 (w.heap.size ≤ ab) := ⟨by have := HF2.out.size; omega⟩
      have HF4 : Aside0 (Fr (fun _ => False) w wr) := ⟨HF2.out.trans HF3.out (fun k h => .inr (by rw [h]; exact HF2.out.size))⟩
      rw [hab] at HA
      clear HD HF2 HF3 HI
      rw [hab]
      clear hab
      go_wp2_with fail
      refine (clone_calls g B (newD 4) wr HD1.out (by decide)).mono ?_
      rintro e w3 ⟨lg, rfl, ⟨L, hl, hL⟩, hf3⟩
      have HS : Aside0 (SE w w3 g ab lg 0) := ⟨newD 4, newD 4, B, L, HD1.out.fr hf3 (fun _ _ h => h), hl, einv_new, fun k h h2 => by have := HD1.out.lt k h2; have := hL k h; omega, HB.out, fun k h => Nat.le_trans HF4.out.size (hL k h), HA.out.kept (hf3.keep _ HA.out.lt (fun h => h)), HnB.out, hab2.out, HF4.out.trans hf3 (fun k h => .inl h)⟩
      clear hl hL hf3 HD1 HnB hab2 HF4 HA HB
      go_wp2_with fail
      obtain ⟨N, hN⟩ : ∃ N, min l.length 150 = N := ⟨_, rfl⟩
      go_loopg [7, 8] N (fun kq v7 v8 w' => ∃ (lg i : Nat), v7 = .pointer (some ⟨lg, 0, none⟩) ∧ v8 = .int .i64 (i : Int) ∧ Aside0 (i + kq = N) ∧ Aside0 (SE w w' g ab lg i))
      case atStart => exact ⟨lg, 0, rfl, rfl, ⟨by omega⟩, HS⟩
      case round =>
        clear HS
        obtain ⟨lg, i, rfl, rfl, HI, HS⟩ := hrel
        cases gk with
        | zero =>
          obtain ⟨D, E, B, L, hD, hE, hInv, hLB, hB, hLs, hA, hnB, hab, hF⟩ := HS.out
          have hi5 : i ≤ 150 := by have := HI.out; omega
          have hor : l.length ≤ i ∨ (i < l.length ∧ i = 150) := by have := HI.out; omega
          have INV := Aside0.mk (fun k (hk : k < 4) => einv_ends hInv hi5 hk)
          have hst : Aside0 (-1 ≤ D.steps ∧ D.steps < 9223372036854775807) := ⟨by have := hInv.steps; omega, by have := hInv.steps; omega⟩
          have hlf : Aside0 (D.left ≤ 9223372036854775807) := ⟨by rw [hInv.left]; decide⟩
          have hcl : Aside0 (D.c.length ≤ 1000000) := ⟨by have := hInv.u; omega⟩
          have hul : Aside0 (D.u ≤ 1000000) := ⟨by have := hInv.u; omega⟩
          have hec : Aside0 (E.c.length ≤ 1000000) := ⟨by rw [hInv.ec]; exact Nat.zero_le _⟩
          have hfc : Aside0 ((flushD D).2.c.length ≤ 1000000) := ⟨by rw [flush_never hInv.down hInv.left]; exact Nat.zero_le _⟩
          have HD := Aside0.mk hD
          have HE := Aside0.mk hE
          have HLB := Aside0.mk hLB
          have HB := Aside0.mk hB
          have HA := Aside0.mk hA
          have HnB := Aside0.mk hnB
          have HF := Aside0.mk hF
          clear hD hE hInv hLB hB hLs hA hnB hab hF HL HS HI hmk hmk3
          have hi0 : (0 : Int) ≤ (i : Int) := by omega
          rcases hor with hor | ⟨hor, hi6⟩
          rotate_left
          subst hi6
          all_goals (
            go_wp2_with fail
            refine (clone_calls g B D wr HD.out hcl.out).mono ?_
            rintro e W1 ⟨gx, rfl, ⟨X, hx, hX⟩, hf1⟩
            have HX := Aside0.mk hx
            have HXs := Aside0.mk hX
            have HF1 := Aside0.mk hf1
            clear hx hX hf1
            go_wp2_with fail
            refine (clone_calls g B D W1 (HD.out.fr HF1.out (fun _ _ h => h)) hcl.out).mono ?_
            rintro e W2 ⟨gy, rfl, ⟨Y, hy, hY⟩, hf2⟩
            have HXB : Aside0 (∀ k, X k → ¬ B k ∧ ¬ L k ∧ ¬ Y k) := ⟨fun k h => ⟨fun h2 => by have := HXs.out k h; have := HD.out.lt k h2; omega, fun h2 => by have := HXs.out k h; have := HE.out.lt k h2; omega, fun h2 => by have := HX.out.lt k h; have := hY k h2; omega⟩⟩
            have HYB : Aside0 (∀ k, Y k → ¬ B k ∧ ¬ L k) := ⟨fun k h => ⟨fun h2 => by have := hY k h; have := HD.out.lt k h2; have := HF1.out.size; omega, fun h2 => by have := hY k h; have := HE.out.lt k h2; have := HF1.out.size; omega⟩⟩
            have HX2 : Aside0 (IsDisk W2 X gx D) := ⟨HX.out.fr hf2 (fun _ _ h => h)⟩
            have HY2 := Aside0.mk hy
            have HD2 : Aside0 (IsDisk W2 B g D) := ⟨(HD.out.fr HF1.out (fun _ _ h => h)).fr hf2 (fun _ _ h => h)⟩
            have HE2 : Aside0 (IsDisk W2 L lg E) := ⟨(HE.out.fr HF1.out (fun _ _ h => h)).fr hf2 (fun _ _ h => h)⟩
            have HF2 : Aside0 (Fr (fun _ => False) w W2) := ⟨(HF.out.trans HF1.out (fun k h => .inl h)).trans hf2 (fun k h => .inl h)⟩
            have HA2 : Aside0 (IsBools W2 ab (List.replicate 300 true)) := ⟨by
              have a := (HA.out.kept (HF1.out.keep _ HA.out.lt (fun h => h))).kept (hf2.keep _ (Nat.lt_of_lt_of_le HA.out.lt HF1.out.size) (fun h => h))
              rwa [show allB 300 = List.replicate 300 true by unfold allB; rw [Nat.sub_self, List.replicate_zero, List.append_nil]] at a⟩
            have HAX : Aside0 (¬ X ab) := ⟨fun h => by have := HXs.out _ h; have := HA.out.lt; omega⟩
            have HXw : Aside0 (∀ k, X k → w.heap.size ≤ k) := ⟨fun k h => Nat.le_trans HF.out.size (HXs.out k h)⟩
            have HYw : Aside0 (∀ k, Y k → w.heap.size ≤ k) := ⟨fun k h => Nat.le_trans HF.out.size (Nat.le_trans HF1.out.size (hY k h))⟩
            clear hy hY hf2 HX HD HE HF HA HF1 HXs
            go_wp2_with fail
            refine (mend_calls gx X D (some ⟨ab, 0, none⟩) 300 (List.replicate 300 true) W2 HX2.out hcl.out hul.out (HA2.out.C (by simp)) (fun ad e _ => by injection e with e; subst e; exact HAX.out)).mono ?_
            rintro e W3 ⟨rfl, hx3, hf3⟩
            have HX3 := Aside0.mk hx3
            have HY3 : Aside0 (IsDisk W3 Y gy D) := ⟨HY2.out.fr hf3 (fun k h h2 => (HXB.out k h2).2.2 h)⟩
            have HD3 : Aside0 (IsDisk W3 B g D) := ⟨HD2.out.fr hf3 (fun k h h2 => (HXB.out k h2).1 h)⟩
            have HE3 : Aside0 (IsDisk W3 L lg E) := ⟨HE2.out.fr hf3 (fun k h h2 => (HXB.out k h2).2.1 h)⟩
            have HF3 : Aside0 (Fr (fun _ => False) w W3) := ⟨HF2.out.trans hf3 (fun k h => .inr (HXw.out k h))⟩
            clear hx3 hf3 HX2 HY2 HD2 HE2 HF2 HA2 HAX
            go_wp2_with fail
            refine (mend_calls gy Y D none 0 [] W3 HY3.out hcl.out hul.out (Kd.C_of_reads (d := false) (h1 := fun _ => rfl) ⟨rfl, by simp, fun h => absurd h (Nat.lt_irrefl 0)⟩) (fun ad e _ => by cases e)).mono ?_
            rintro e W4 ⟨rfl, hy4, hf4⟩
            have HY4 := Aside0.mk hy4
            have HX4 : Aside0 (IsDisk W4 X gx (mendD (List.replicate 300 true) D)) := ⟨HX3.out.fr hf4 (fun k h h2 => (HXB.out k h).2.2 h2)⟩
            have HD4 : Aside0 (IsDisk W4 B g D) := ⟨HD3.out.fr hf4 (fun k h h2 => (HYB.out k h2).1 h)⟩
            have HE4 : Aside0 (IsDisk W4 L lg E) := ⟨HE3.out.fr hf4 (fun k h h2 => (HYB.out k h2).2 h)⟩
            have HF4 : Aside0 (Fr (fun _ => False) w W4) := ⟨HF3.out.trans hf4 (fun k h => .inr (HYw.out k h))⟩
            clear hy4 hf4 HX3 HY3 HD3 HE3 HF3
            go_wp2_with fail
            refine (flush_calls g B D W4 HD4.out hst.out hlf.out hcl.out hul.out).mono ?_
            rintro e W5 ⟨rfl, hd5, hf5⟩
            have HD5 := Aside0.mk hd5
            have HX5 : Aside0 (IsDisk W5 X gx (mendD (List.replicate 300 true) D)) := ⟨HX4.out.fr hf5 (fun k h h2 => (HXB.out k h).1 h2)⟩
            have HY5 : Aside0 (IsDisk W5 Y gy (mendD [] D)) := ⟨HY4.out.fr hf5 (fun k h h2 => (HYB.out k h).1 h2)⟩
            have HE5 : Aside0 (IsDisk W5 L lg E) := ⟨HE4.out.fr hf5 (fun k h h2 => HLB.out k h h2)⟩
            have HF5 : Aside0 (Fr (fun _ => False) w W5) := ⟨HF4.out.trans hf5 (fun k h => .inr (HB.out k h))⟩
            clear hd5 hf5 HX4 HY4 HD4 HE4 HF4 HXB HYB HLB HXw HYw HB HnB
            obtain ⟨Dx, hDx⟩ : ∃ Dx, mendD (List.replicate 300 true) D = Dx := ⟨_, rfl⟩
            obtain ⟨Dy, hDy⟩ : ∃ Dy, mendD [] D = Dy := ⟨_, rfl⟩
            obtain ⟨Dz, hDz⟩ : ∃ Dz, (flushD D).2 = Dz := ⟨_, rfl⟩
            have hxc : Aside0 (Dx.c = []) := ⟨by rw [← hDx]; rfl⟩
            have hyc : Aside0 (Dy.c = []) := ⟨by rw [← hDy]; rfl⟩
            rw [hDx] at HX5 INV
            rw [hDy] at HY5 INV
            rw [hDz] at HD5 INV hfc
            clear hDx hDy hDz hst hlf hul
            have HF0 := Aside0.mk (Fr.refl (fun _ => False) W5)
            go_wp2_with fail
            go_loopg [13] 4 (fun kq v13 w' => ∃ (k : Nat), v13 = .int .i64 (k : Int) ∧ Aside0 (k + kq = 4) ∧ Aside0 (Fr (fun _ => False) W5 w'))
            case atStart => exact ⟨0, rfl, ⟨rfl⟩, HF0⟩
            case round =>
              clear HF0
              obtain ⟨k, rfl, HK3, HF0⟩ := hrel
              cases gk with
              | zero =>
                have hk3 : k = 4 := by have := HK3.out; omega
                subst hk3
                go_wp2_with fail
                go_ret
                exact ⟨rfl, HF5.out.trans HF0.out (fun k h => .inl h)⟩
              | succ k2 =>
                have hk3 : k < 4 := by have := HK3.out; omega
                have hk0 : (0 : Int) ≤ (k : Int) := by omega
                have hk1 : (k : Int) < 4 := by omega
                have IV := Aside0.mk (INV.out k hk3)
                have hwk : Aside0 ((Lit.int .i64 (k : Int)).wf = true) := ⟨WalkArith.wf_i64 (by omega)⟩
                have HK4 : Aside0 (k + 1 + k2 = 4) := ⟨by have := HK3.out; omega⟩
                go_wp2_with fail
                refine (read_calls gx X Dx k wr (HX5.out.fr HF0.out (fun _ _ h => h)) IV.out.1 hwk.out (by rw [hxc.out]; exact Nat.zero_le _)).mono ?_
                rintro e V1 ⟨ra, rfl, _, ar1, fr1⟩
                have HR1 := Aside0.mk ar1
                have HG1 : Aside0 (Fr (fun _ => False) W5 V1) := ⟨HF0.out.trans fr1 (fun k h => .inl h)⟩
                clear ar1 fr1
                go_wp2_with fail
                refine (read_calls g B Dz k V1 (HD5.out.fr HG1.out (fun _ _ h => h)) IV.out.2.2.1 hwk.out hfc.out).mono ?_
                rintro e V2 ⟨rb, rfl, _, ar2, fr2⟩
                have HR2 := Aside0.mk ar2
                have HG2 : Aside0 (Fr (fun _ => False) V1 V2) := ⟨fr2⟩
                clear ar2 fr2
                go_wp2_with fail
                refine (read_calls gy Y Dy k V2 ((HY5.out.fr HG1.out (fun _ _ h => h)).fr HG2.out (fun _ _ h => h)) IV.out.2.1 hwk.out (by rw [hyc.out]; exact Nat.zero_le _)).mono ?_
                rintro e V3 ⟨rc, rfl, _, ar3, fr3⟩
                have HR3 := Aside0.mk ar3
                have HG3 : Aside0 (Fr (fun _ => False) V2 V3) := ⟨fr3⟩
                clear ar3 fr3
                go_wp2_with fail
                refine (read_calls lg L E k V3 (((HE5.out.fr HG1.out (fun _ _ h => h)).fr HG2.out (fun _ _ h => h)).fr HG3.out (fun _ _ h => h)) IV.out.2.2.2.1 hwk.out hec.out).mono ?_
                rintro e V4 ⟨rd, rfl, _, ar4, fr4⟩
                have HG4 : Aside0 (Fr (fun _ => False) V3 V4) := ⟨fr4⟩
                have hG : Fr (fun _ => False) V1 V4 := (HG2.out.trans HG3.out (fun k h => .inl h)).trans fr4 (fun k h => .inl h)
                have a1 : IsArr V4 ra (readC k Dx.c (Dx.f k)) := HR1.out.kept (hG.keep _ HR1.out.lt (fun h => h))
                have a2 : IsArr V4 rb (readC k Dx.c (Dx.f k)) := by
                  rw [IV.out.2.2.2.2.1]
                  exact HR2.out.kept ((HG3.out.trans fr4 (fun k h => .inl h)).keep _ HR2.out.lt (fun h => h))
                have a3 : IsArr V4 rc (readC k E.c (E.f k)) := by
                  rw [← IV.out.2.2.2.2.2]
                  exact HR3.out.kept (fr4.keep _ HR3.out.lt (fun h => h))
                have l1 : (readC k Dx.c (Dx.f k)).length = 64 := by rw [hxc.out]; exact HX5.out.good.2 k
                have l2 : (readC k E.c (E.f k)).length = 64 := by
                  rw [← IV.out.2.2.2.2.2, hyc.out]; exact HY5.out.good.2 k
                have s1 := Kd.C_string Try.underlying22 Try.underlying5 Try.underlying9 (c := 64) (a1.C (by rw [l1]; decide))
                have s2 := Kd.C_string Try.underlying22 Try.underlying5 Try.underlying9 (c := 64) (a2.C (by rw [l1]; decide))
                have s3 := Kd.C_string Try.underlying22 Try.underlying5 Try.underlying9 (c := 64) (a3.C (by rw [l2]; decide))
                have s4 := Kd.C_string Try.underlying22 Try.underlying5 Try.underlying9 (c := 64) (ar4.C (by rw [l2]; decide))
                rw [l1] at s1 s2
                rw [l2] at s3 s4
                generalize strOfNums (readC k Dx.c (Dx.f k)) = S1 at s1 s2
                generalize strOfNums (readC k E.c (E.f k)) = S2 at s3 s4
                have HG5 : Aside0 (Fr (fun _ => False) W5 V4) := ⟨HG1.out.trans hG (fun k h => .inl h)⟩
                have HPD : Aside0 (Calls Try.prog 20 #[.pointer (some ⟨gx, 0, none⟩)] V4 fun e w' => ∃ A c, e = .returned (.slice A 0 c) ∧ Fr (fun _ => False) V4 w') := ⟨by
                  refine (pending_calls gx X Dx V4 (HX5.out.fr HG5.out (fun _ _ h => h)) (by rw [hxc.out]; exact Nat.zero_le _)).mono ?_
                  rintro e w' ⟨v, rfl, ho, hf⟩
                  obtain ⟨A, c, e, _⟩ := q_slice (q_of_own ho)
                  rw [hxc.out] at e
                  exact ⟨A, c, by rw [e]; rfl, hf⟩⟩
                clear a1 a2 a3 ar4 fr4 hG l1 l2
                go_wp2_with fail
                refine HPD.out.mono ?_
                rintro e V5 ⟨A, c, rfl, hf6⟩
                have HG6 : Aside0 (Fr (fun _ => False) W5 V5) := ⟨HG5.out.trans hf6 (fun k h => .inl h)⟩
                clear hf6 s1 s2 s3 s4
                go_wp2_with fail
                go_roundg k2
                case measure => omega
                case rel => exact ⟨k + 1, by go_num, HK4, HG6⟩)
        | succ k1 =>
          have hi1 : i < l.length := by have := HI.out; omega
          have hi2 : i < 150 := by have := HI.out; omega
          obtain ⟨o, ho⟩ : ∃ o, l[i]? = some o := ⟨_, List.getElem?_eq_getElem hi1⟩
          obtain ⟨D, E, B, L, hD, hE, hInv, hLB, hB, hLs, hA, hnB, hab, hF⟩ := HS.out
          obtain ⟨ad, rfl, hk, hn, hwf, hrest⟩ := (HL.out.kept hF) i o ho
          have hi0 : (0 : Int) ≤ (i : Int) := by omega
          have hi3 : (i : Int) < (l.length : Int) := by omega
          have hi4 : (i : Int) < 150 := by omega
          obtain ⟨m, hm4, hm⟩ := rest4 o.n
          have HI2 : Aside0 (i + 1 + k1 = N) := ⟨by have := HI.out; omega⟩
          by_cases k1e : o.kind = 1
          · rw [k1e] at hk
            have hbl : (ad.add (i * 4)).block < wr.heap.size := World.block_lt_of_cell? wr _ hk
            have hrow : IsBytes (wr.alloc (.cells (nums .u8 (rowN i)).toArray 5)) wr.heap.size (rowN i) := IsBytes.new _ _
            have hrc := rowN_cells i
            have hb1 := hrow.C (by rw [rowN_length]; omega)
            rw [rowN_length] at hb1
            have WR := Aside0.mk (write_calls g B D m (some ⟨wr.heap.size, 0, none⟩) 64 (rowN i) (wr.alloc (.cells (nums .u8 (rowN i)).toArray 5)) (hD.alloc _) ⟨by have := hInv.steps; omega, by have := hInv.steps; omega⟩ (by rw [hInv.left]; decide) (WalkArith.wf_i64 (by omega)) (by have := hInv.u; omega)
              (hrow.C (by rw [rowN_length]; omega)) (by rw [rowN_length]; exact Nat.le_refl _) (fun ad e _ h => by injection e with e; subst e; have := hD.lt _ h; exact Nat.lt_irrefl _ this))
            have INV := Aside0.mk (einv_write hInv m (rowN i))
            have HD := Aside0.mk hD
            have HE := Aside0.mk hE
            have HLB := Aside0.mk hLB
            have HB := Aside0.mk hB
            have HLs := Aside0.mk hLs
            have HA := Aside0.mk hA
            have HnB := Aside0.mk hnB
            have HAB := Aside0.mk hab
            have HF := Aside0.mk hF
            clear hrest hD hE hInv hLB hB hLs hA hnB hab hF hb1 hrow
            go_wp2_with fail
            rw [rowN_length] at WR
            refine WR.out.mono ?_
            clear WR
            rintro e W2 ⟨rfl, ⟨B2, hd2, hb2⟩, hf2⟩
            have HS2 : Aside0 (SE w W2 g ab lg (i + 1)) := ⟨_, E, B2, L, hd2, (HE.out.alloc _).fr hf2 HLB.out, INV.out, fun k h h2 => (hb2 k h2).elim (HLB.out k h) (fun h3 => by have := HE.out.lt k h; simp at h3; omega),
              fun k h => (hb2 k h).elim (HB.out k) (fun h => by have := HF.out.size; simp at h; omega), HLs.out, (HA.out.kept (Below.heap_alloc _ _ _ HA.out.lt)).kept (hf2.keep _ (by have := HA.out.lt; simp; omega) HnB.out), fun h => (hb2 _ h).elim HnB.out (fun h => by have := HA.out.lt; simp at h; omega), HAB.out, (HF.out.alloc _).trans hf2 (fun k h => .inr (HB.out k h))⟩
            clear hd2 hb2 hf2
            go_wp2_with fail
            go_roundg k1
            case measure => omega
            case rel => exact ⟨lg, i + 1, rfl, by go_num, HI2, HS2⟩
          · have e1 : (o.kind == 1) = false := by simpa using k1e
            by_cases k2e : o.kind = 2
            · rw [k2e] at hk e1
              have FL := Aside0.mk (flush_calls g B D wr hD ⟨by have := hInv.steps; omega, by have := hInv.steps; omega⟩ (by rw [hInv.left]; decide) (by have := hInv.u; omega) (by have := hInv.u; omega))
              have INV := Aside0.mk (einv_flush hInv)
              have hcl : (flushD D).2.c.length ≤ 1000000 := by rw [flush_never hInv.down hInv.left]; exact Nat.zero_le _
              have HD := Aside0.mk hD
              have HB := Aside0.mk hB
              have HA := Aside0.mk hA
              have HnB := Aside0.mk hnB
              have HAB := Aside0.mk hab
              have HF := Aside0.mk hF
              clear hrest hD hE hInv hLB hB hLs hA hnB hab hF
              go_wp2_with fail
              refine FL.out.mono ?_
              clear FL
              rintro e W2 ⟨rfl, hd2, hf2⟩
              have HD2 := Aside0.mk hd2
              have HF2 := Aside0.mk hf2
              clear hd2 hf2
              go_wp2_with fail
              refine (clone_calls g B (flushD D).2 W2 HD2.out hcl).mono ?_
              rintro e W3 ⟨lg2, rfl, ⟨L2, hl2, hL2⟩, hf3⟩
              have HS2 : Aside0 (SE w W3 g ab lg2 (i + 1)) := ⟨_, _, B, L2, HD2.out.fr hf3 (fun _ _ h => h), hl2, INV.out, fun k h h2 => by have := HD2.out.lt k h2; have := hL2 k h; omega, HB.out, fun k h => Nat.le_trans HF.out.size (Nat.le_trans HF2.out.size (hL2 k h)),
                (HA.out.kept (HF2.out.keep _ HA.out.lt HnB.out)).kept (hf3.keep _ (Nat.lt_of_lt_of_le HA.out.lt HF2.out.size) (fun h => h)), HnB.out, HAB.out, (HF.out.trans HF2.out (fun k h => .inr (HB.out k h))).trans hf3 (fun k h => .inl h)⟩
              clear hl2 hL2 hf3
              go_wp2_with fail
              go_roundg k1
              case measure => omega
              case rel => exact ⟨lg2, i + 1, rfl, by go_num, HI2, HS2⟩
            · have e2 : (o.kind == 2) = false := by simpa using k2e
              have HS2 : Aside0 (SE w wr g ab lg (i + 1)) := ⟨D, E, B, L, hD, hE, hInv.up, hLB, hB, hLs, hA, hnB, hab, hF⟩
              clear hrest hD hE hInv hLB hB hLs hA hnB hab hF
              go_wp2_with fail
              go_roundg k1
              case measure => omega
              case rel => exact ⟨lg, i + 1, rfl, by go_num, HI2, HS2⟩
    | succ k1 =>
      have hi : i < 300 := by have := HI.out; omega
      have hi0 : (0 : Int) ≤ (i : Int) := by omega
      have hi1 : (i : Int) < 300 := by omega
      have c1 := HA.out.cell i (by rw [allB_length i (by omega)]; exact hi)
      have f1 := HA.out.free i
      have HA2 : Aside0 (IsBools (wr.setCell ⟨w2.heap.size, i, none⟩ (.bool true)) w2.heap.size (allB (i + 1))) := ⟨by rw [← allB_set i hi]; exact HA.out.set i true⟩
      have HF4 : Aside0 (Fr (fun k => k = w2.heap.size) w2 (wr.setCell ⟨w2.heap.size, i, none⟩ (.bool true))) := ⟨HF3.out.setCell (.inl rfl) _⟩
      have HI2 : Aside0 (i + 1 + k1 = 300) := ⟨by have := HI.out; omega⟩
      go_wp2_with fail
      go_roundg k1
      case measure => omega
      case rel => exact ⟨i + 1, by go_num, HI2, HA2, HF4⟩
end Go.Proofs.Ytppgbfkhiofjiaa.X
