/-
  Of the proof of JournalPlays (put together by wip/tools/mkclaimj.py):
  JournalPlays: the contract of act, whatever it is; and of the reference's Pending beside the program's.
  JournalPlays: the contract. Printed by wip/tools/mkEQ8.py.
-/
import Derived.Test.YtppgbfkhiofjiaaQK
import Derived.Test.YtppgbfkhiofjiaaQL
import Derived.Test.YtppgbfkhiofjiaaQM
import Derived.Test.YtppgbfkhiofjiaaQN
namespace Go.Proofs.Ytppgbfkhiofjiaa.X
open Go.RowKit Go.Proofs.YtppgbfkhiofjiaaW.PrintWords Go.Proofs.YtppgbfkhiofjiaaW.PrintLast Go.Proofs.YtppgbfkhiofjiaaW.PrintMore Go.Proofs.Ytppgbfkhiofjiaa.Y
set_option linter.unusedVariables false
set_option linter.unusedSimpArgs false

theorem act_calls (lo x i : Nat) (W : World) (D : DS) (oo : Option Bool) (o : OpJ) (Aw : Option Addr) (cw : Nat) (Ak : Option Addr) (ck : Nat) (Ab : Option Addr) (cb : Nat) (h : JP lo x W D oo i) (hi : i ≤ 100000) (hN : 0 ≤ D.n ∧ D.n ≤ 4096)
    (ho : OpC lo W o Aw cw Ak ck Ab cb) : Calls Try.prog 37 #[.pointer (some ⟨x, 0, none⟩), opV o Aw cw Ak ck Ab cb] W (ActEnd lo x i D W) := by
  by_cases k2 : o.kind = 2
  · exact act_arm lo x i W D oo o Aw cw Ak ck Ab cb h hi hN ho k2
  · by_cases k3 : o.kind = 3
    · exact act_open lo x i W D oo o Aw cw Ak ck Ab cb h hi hN ho k3
    · by_cases k4 : o.kind = 4
      · exact act_spoil lo x i W D oo o Aw cw Ak ck Ab cb h hi hN ho k4
      · cases hoo : oo with
        | none => exact act_nil lo x i W D none o Aw cw Ak ck Ab cb (hoo ▸ h) hi hN ho ⟨k2, k3, k4⟩ rfl
        | some dn =>
          rw [hoo] at h
          by_cases k0 : o.kind = 0
          · exact act_commit lo x i W D (some dn) o Aw cw Ak ck Ab cb h hi hN ho k0 dn rfl
          · by_cases k5 : o.kind = 5
            · exact act_move lo x i W D (some dn) o Aw cw Ak ck Ab cb h hi hN ho k5 dn rfl
            · exact act_read lo x i W D (some dn) o Aw cw Ak ck Ab cb h hi hN ho ⟨k2, k3, k4⟩ ⟨k0, k5⟩ dn rfl
end Go.Proofs.Ytppgbfkhiofjiaa.X

namespace Go.Proofs.Ytppgbfkhiofjiaa.X
open Go.RowKit Go.Proofs.YtppgbfkhiofjiaaW.PrintWords Go.Proofs.YtppgbfkhiofjiaaW.PrintLast Go.Proofs.YtppgbfkhiofjiaaW.PrintMore Go.Proofs.Ytppgbfkhiofjiaa.Y
set_option linter.unusedVariables false
set_option linter.unusedSimpArgs false

theorem wpAnyH_weaken {P : Program} {md : Region.Mode} {ops : Array Oper} {Q : Exit → Act → World → Prop} {S S' : World → Prop} (hS : ∀ w, S' w → S w) : ∀ (fuel : Nat) (listed : Array Bool) (a : Act) (w : World), wpAnyH P md ops Q S' fuel listed a w → wpAnyH P md ops Q S fuel listed a w
  | 0, _, _, _, h => h
  | fuel + 1, listed, a, w, h => ⟨h.1, fun i hi => wpOp_mono (fun a' w' h' => ⟨hS w' h'.1, wpAnyH_weaken hS fuel _ a' w' h'.2⟩) (h.2 i hi)⟩
theorem rest40p (y : Int) : ∃ m : Nat, m < 40 ∧ wrap64 ((IntKind.u64.wrap y).tmod 40) = (m : Int) := by
  have h0 : 0 ≤ IntKind.u64.wrap y := by
    show 0 ≤ y % 18446744073709551616
    omega
  refine ⟨((IntKind.u64.wrap y) % 40).toNat, by omega, ?_⟩
  rw [Int.tmod_eq_emod_of_nonneg h0]
  unfold wrap64
  omega
theorem jok_format {i : Nat} {D : DS} (h : JOk i D) : JOk (i + 2) (formatD D).2 := by
  unfold formatD
  split
  · exact h.mono (by omega)
  · exact h.lays _
theorem n_format (D : DS) : (formatD D).2.n = D.n := by
  unfold formatD
  split
  · rfl
  · exact n_lays D _
/-- An act among the arguments, whatever has been made since. -/
theorem opc_of {w W : World} {ad : Addr} {o : OpJ} (h : OpJAt w ad o) (hs : SizJ o) (hf : Fr (fun _ => False) w W) : ∃ Aw cw Ak ck Ab cb, OpC w.heap.size W o Aw cw Ak ck Ab cb ∧
    w.cell? ad = some (.int .i64 o.kind) ∧ w.cell? ⟨ad.block, ad.off + 1, none⟩ = some (.slice Aw o.w.length cw) ∧ w.cell? ⟨ad.block, ad.off + 2, none⟩ = some (.int .i64 o.n) ∧ w.cell? ⟨ad.block, ad.off + 3, none⟩ = some (.slice Ak o.keep.length ck) ∧ w.cell? ⟨ad.block, ad.off + 4, none⟩ = some (.slice Ab o.b.length cb) := by
  obtain ⟨h0, h2, hwf, ⟨Aw, cw, c1, d1, e1⟩, ⟨Ak, ck, c3, d3, e3⟩, ⟨Ab, cb, c4, d4, e4⟩, hb, hw⟩ := h
  have kp : ∀ W', Fr (fun k => w.heap.size ≤ k) W W' → Below w.heap.size w W' := fun W' f => (hf.mono (fun _ h => h.elim)).trans f (fun k h => .inl h) |>.below (fun k h => h) (Nat.le_refl _)
  exact ⟨Aw, cw, Ak, ck, Ab, cb, ⟨fun W' f => Kd.C_below d1 (kp W' f), fun W' f => Kd.C_below d3 (kp W' f), fun W' f => Kd.C_below d4 (kp W' f), e1, e3, e4, hs, hwf, fun y hy => wf8 (hb y hy), fun s hs y hy => wf8 (hw s hs y hy)⟩, h0, c1, h2, c3, c4⟩

set_option maxHeartbeats 8000000 in
set_option maxRecDepth 100000 in
theorem jplays_calls (s0 : Int) (A0 : Option Addr) (c0 : Nat) (l : List OpJ) (w : World) (h0 : OpsJ w A0 l) (hl63 : l.length ≤ 9223372036854775807) (hsz : ∀ o ∈ l, SizJ o) :
    Calls Try.prog 9 #[.int .i64 s0, .slice A0 l.length c0] w fun e w' => e = .returned (.bool true) ∧ Fr (fun _ => False) w w' := by
  obtain ⟨n0, hn0⟩ : ∃ n, l.length = n := ⟨_, rfl⟩
  rw [hn0]
  rw [hn0] at hl63
  have HL0 := Aside0.mk h0
  have HN0 := Aside0.mk hn0
  have HSZ := Aside0.mk hsz
  obtain ⟨m, hm40, hm⟩ := rest40p s0
  have NW := Aside0.mk (new_calls (60 + (m : Int)) w (by omega) (by omega))
  have RN : Aside0 (∀ W, Calls Try.prog 21 #[.int .i64 (60 + (m : Int))] W fun e w' => ∃ r, e = .returned (.tuple #[.pointer (some ⟨r, 0, none⟩), .int .i64 0]) ∧ (∃ R, IsRef w' R r (newD (60 + (m : Int))) ∧ ∀ k, R k → W.heap.size ≤ k) ∧ Below W.heap.size W w') := ⟨fun W => by
    have := rnew_calls (60 + m) W (by omega) (by omega)
    rw [show ((60 + m : Nat) : Int) = 60 + (m : Int) by omega] at this
    exact this⟩
  clear h0 hn0 hsz
  go_enter Try.func9, Try.ntmps9
  go_wp2_with fail
  refine NW.out.mono ?_
  rintro e w1 ⟨g, rfl, ⟨B, d1, b1⟩, f1⟩
  have HD1 := Aside0.mk d1
  have HB1 := Aside0.mk b1
  have HF1 := Aside0.mk f1
  have RN1 := Aside0.mk (RN.out w1)
  clear d1 b1 f1 NW RN
  go_wp2_with fail
  refine RN1.out.mono ?_
  rintro e w2 ⟨r, rfl, ⟨R, e2, r2⟩, f2⟩
  have HX3 : Aside0 (XAt (w2.alloc (.cells #[.pointer (some ⟨g, 0, none⟩), .pointer none, .pointer (some ⟨r, 0, none⟩), .pointer none] 75)) w2.heap.size g r (.pointer none) (.pointer none)) := ⟨heap_alloc_new _ _⟩
  obtain ⟨w3, hw3⟩ : ∃ W, w2.alloc (.cells #[.pointer (some ⟨g, 0, none⟩), .pointer none, .pointer (some ⟨r, 0, none⟩), .pointer none] 75) = W := ⟨_, rfl⟩
  have hf23 : Fr (fun _ => False) w2 w3 := by rw [← hw3]; exact (Fr.refl _ w2).alloc _
  have hs3 : w2.heap.size < w3.heap.size := by rw [← hw3]; simp
  have HC3 : Aside0 (JC w.heap.size w2.heap.size g r B R w3 (newD (60 + (m : Int)))) := ⟨⟨(HD1.out.below f2).fr hf23 (fun _ _ h => h), e2.fr hf23 (fun _ _ h => h), fun k hb hr => by have := HD1.out.lt k hb; have := r2 k hr; omega, HB1.out, fun k hr => Nat.le_trans HF1.out.size (r2 k hr), fun hb => by have := HD1.out.lt _ hb; have := f2.size; omega, fun hr => by have := e2.lt _ hr; omega, Nat.le_trans HF1.out.size f2.size⟩⟩
  have HF3 : Aside0 (Fr (fun _ => False) w w3) := ⟨((Fr.of_below HF1.out (fun _ => False)).trans (Fr.of_below f2 (fun _ => False)) (fun _ h => h.elim)).trans hf23 (fun _ h => h.elim)⟩
  rw [hw3] at HX3
  obtain ⟨x, hx⟩ : ∃ x, w2.heap.size = x := ⟨_, rfl⟩
  rw [hx] at HX3 HC3 hs3
  have FM := Aside0.mk (format_calls g B (newD (60 + (m : Int))) w3 0 HC3.out.d (jok_new _) (by omega))
  have RF : Aside0 (∀ W, Fr B w3 W → Calls Try.prog 35 #[.pointer (some ⟨r, 0, none⟩)] W fun e w' => e = .returned (.int .i64 (formatD (newD (60 + (m : Int)))).1) ∧ RMoved W R r w' (formatD (newD (60 + (m : Int)))).2) := ⟨fun W f => rformat_calls r R (newD (60 + (m : Int))) W 0 (HC3.out.e.fr f (fun k hr hb => HC3.out.apart k hb hr)) (jok_new _) (by omega)⟩
  have HS3 := Aside0.mk hs3
  have HJF := Aside0.mk (jok_format (jok_new (60 + (m : Int))))
  have HBF := Aside0.mk (byt_new (60 + (m : Int))).format
  have HNF : Aside0 ((formatD (newD (60 + (m : Int)))).2.n = 60 + (m : Int)) := ⟨n_format _⟩
  obtain ⟨q, hq⟩ : ∃ q, formatD (newD (60 + (m : Int))) = q := ⟨_, rfl⟩
  rw [hq] at FM RF HJF HBF HNF
  obtain ⟨q1, D1⟩ := q
  clear e2 r2 f2 hf23 hs3 hq RN1
  go_wp2_with fail
  clear hw3 hx
  refine FM.out.mono ?_
  rintro e w4 ⟨rfl, B', d4, b4, f4⟩
  have HD4 := Aside0.mk d4
  have HB4 := Aside0.mk b4
  have HF4 := Aside0.mk f4
  have RF4 := Aside0.mk (RF.out w4 f4)
  clear d4 b4 f4 FM RF
  go_wp2_with fail
  refine RF4.out.mono ?_
  rintro e w5 ⟨rfl, R', e5, r5, f5⟩
  have hjp : JP w.heap.size x w5 D1 none 2 := ⟨g, r, B', R', _, _, (HX3.out.kept (HF4.out.keep _ HX3.out.lt HC3.out.xb)).kept (f5.keep _ (by have := HX3.out.lt; have := HF4.out.size; omega) HC3.out.xr), HC3.out.step HX3.out.lt HF3.out.size HD4.out HB4.out HF4.out e5 r5 f5, ⟨rfl, rfl⟩, HJF.out, HBF.out⟩
  have HF5 : Aside0 (Fr (fun k => w.heap.size ≤ k) w w5) := ⟨((HF3.out.mono (fun _ h => h.elim)).trans HF4.out (fun k h => .inl (HC3.out.lb k h))).trans f5 (fun k h => .inl (HC3.out.lr k h))⟩
  have OP := Aside0.mk (opens_calls w.heap.size x 2 w5 D1 none hjp (by omega) (by have := HNF.out; omega))
  clear e5 r5 f5 hjp RF4
  go_wp2_with fail
  refine OP.out.mono ?_
  rintro e w6 ⟨rfl, jp6, f6⟩
  have HJ0 : Aside0 (∃ D o, JP w.heap.size x w6 D o (72 + 230 * 0) ∧ D.n = 60 + (m : Int) ∧ Fr (fun _ => False) w w6) := ⟨_, _, jp6, (n_open D1).trans HNF.out, (HF5.out.trans f6 (fun k h => .inl h)).mono (fun k h => .inr h)⟩
  clear jp6 f6 OP HF5 HF4 HB4 HD4 HC3 HX3 HS3 HF3 HJF HBF HNF HD1 HB1 HF1
  go_wp2_with fail
  obtain ⟨K, hK⟩ : ∃ K, min n0 60 = K := ⟨_, rfl⟩
  have HKK := Aside0.mk hK
  go_loopg [10] K (fun kq v10 W => ∃ (k : Nat), v10 = .int .i64 (k : Int) ∧ Aside0 (k + kq = K) ∧ Aside0 (∃ D o, JP w.heap.size x W D o (72 + 230 * k) ∧ D.n = 60 + (m : Int) ∧ Fr (fun _ => False) w W))
  case atStart => exact ⟨0, rfl, ⟨by omega⟩, HJ0⟩
  case round =>
    clear HJ0
    obtain ⟨k, rfl, HI, HJ⟩ := hrel
    have hk0 : (0 : Int) ≤ (k : Int) := by omega
    cases gk with
    | zero =>
      have hk2 : (n0 : Int) ≤ k ∨ ((k : Int) < n0 ∧ k = 60) := by have := HI.out; omega
      obtain ⟨D, oo, hjp, hdn, hfr⟩ := HJ.out
      obtain ⟨g, r, B, R, lv, mv, hx, hc, hl, hj, hb⟩ := hjp
      have hu : D.c.length ≤ 1000000 ∧ D.u ≤ 1000000 := by have := hj.u; have := HI.out; omega
      have hrt : ∀ W, Kd.C Kd.bool W none 0 [] := fun W => Kd.C_nil _ _
      have MC : Aside0 (Calls Try.prog 17 #[.pointer (some ⟨g, 0, none⟩), .slice none 0 0] wr fun e w' => e = .returned (.tuple #[]) ∧ IsDisk w' B g (mendD [] D) ∧ Fr B wr w') := ⟨mend_calls g B D none 0 [] wr hc.d hu.1 hu.2 (hrt wr) (fun ad e _ => by cases e)⟩
      have MR : Aside0 (∀ W, Fr B wr W → Calls Try.prog 24 #[.pointer (some ⟨r, 0, none⟩), .slice none 0 0] W fun e w' => e = .returned (.tuple #[]) ∧ IsRef w' R r (mendD [] D) ∧ Fr R W w') := ⟨fun W f => rmend_calls r R D none 0 [] W (hc.e.fr f (fun k hr hb => hc.apart k hb hr)) hu.1 (hrt W) (fun ad e _ => by cases e)⟩
      have HX := Aside0.mk hx
      have HC := Aside0.mk hc
      have HFR := Aside0.mk hfr
      have HDN := Aside0.mk hdn
      have c0' := hx.cells.1
      clear hx hc hl hj hb hu hrt hdn hfr HJ hK
      have hkk : (n0 : Int) ≤ k ∨ ((k : Int) < n0 ∧ k = 60) := hk2
      clear hk2
      rcases hkk with hk2 | ⟨hk2, hk3⟩
      rotate_left
      subst hk3
      all_goals (
        go_wp2_with fail
        refine MC.out.mono ?_
        rintro e w7 ⟨rfl, d7, f7⟩
        have HD7 := Aside0.mk d7
        have HF7 := Aside0.mk f7
        have HX7 := Aside0.mk (HX.out.kept (f7.keep _ HX.out.lt HC.out.xb))
        have MR7 := Aside0.mk (MR.out w7 f7)
        have c2' := HX7.out.cells.2.2.1
        clear d7 f7 MC MR c0'
        go_wp2_with fail
        refine MR7.out.mono ?_
        rintro e w8 ⟨rfl, e8, f8⟩
        have hc8 := HC.out.step HX.out.lt (Nat.le_trans HC.out.lx (Nat.le_of_lt HX.out.lt)) HD7.out (fun _ h => .inl h) HF7.out e8 (fun _ h => .inl h) f8
        have HC8 := Aside0.mk hc8
        have HX8 := Aside0.mk (HX7.out.kept (f8.keep _ HX7.out.lt HC.out.xr))
        have HF8 : Aside0 (Fr (fun _ => False) w w8) := ⟨(HFR.out.trans HF7.out (fun k h => .inr (HC.out.lb k h))).trans f8 (fun k h => .inr (HC.out.lr k h))⟩
        have HN8 : Aside0 ((mendD [] D).n = 60 + (m : Int)) := ⟨HDN.out⟩
        have RD : Aside0 (∀ (j : Nat) W, Fr (fun _ => False) w8 W → (j : Int) < 60 + (m : Int) → Calls Try.prog 18 #[.pointer (some ⟨g, 0, none⟩), .int .i64 (j : Int)] W fun e w' => ∃ gb, e = .returned (.tuple #[.slice (some ⟨gb, 0, none⟩) 64 64, .int .i64 0]) ∧ (∀ W2, Fr (fun _ => False) w' W2 → (convert 22 9 (.slice (some ⟨gb, 0, none⟩) 64 64)).run Try.prog W2 = .ok (.string (strOfNums (rd64 (mendD [] D) j))) W2) ∧ Fr (fun _ => False) W w') := ⟨fun j W f hj => by
          have hlk : lookD (mendD [] D) (j : Int) = 0 := by unfold lookD; rw [if_neg (show ¬ (mendD [] D).down = true from (by decide : ¬ (false = true))), if_neg (by omega), if_neg (by rw [HN8.out]; omega)]
          refine (read_calls g B (mendD [] D) (j : Int) W (HC8.out.d.fr f (fun _ _ h => h)) hlk (WalkArith.wf_i64 (by omega)) (Nat.zero_le _)).mono ?_
          rintro e w' ⟨gb, rfl, _, har, hf⟩
          refine ⟨gb, rfl, fun W2 f2 => ?_, hf⟩
          have har2 : IsArr W2 gb (rd64 (mendD [] D) (j : Int)) := har.kept (f2.keep _ har.lt (fun h => h))
          exact Kd.C_string Try.underlying22 Try.underlying5 Try.underlying9 (Kd.C_of_reads (d := (0 : Int)) (h1 := fun _ => rfl) (IsArr.reads har2 (HC8.out.d.rd64_length (j : Int))))⟩
        have RR : Aside0 (∀ (j : Nat) W, Fr (fun _ => False) w8 W → (j : Int) < 60 + (m : Int) → Calls Try.prog 42 #[.pointer (some ⟨r, 0, none⟩), .int .i64 (j : Int)] W fun e w' => ∃ gb cap, e = .returned (.tuple #[.slice (some ⟨gb, 0, none⟩) 64 cap, .int .i64 0]) ∧ (convert 22 9 (.slice (some ⟨gb, 0, none⟩) 64 cap)).run Try.prog w' = .ok (.string (strOfNums (rd64 (mendD [] D) j))) w' ∧ Fr (fun _ => False) W w') := ⟨fun j W f hj => by
          have hlk : lookD (mendD [] D) (j : Int) = 0 := by unfold lookD; rw [if_neg (show ¬ (mendD [] D).down = true from (by decide : ¬ (false = true))), if_neg (by omega), if_neg (by rw [HN8.out]; omega)]
          refine (rread_calls r R (mendD [] D) (j : Int) W (HC8.out.e.fr f (fun _ _ h => h)) hlk (Nat.zero_le _)).mono ?_
          rintro e w' ⟨gb, cap, rfl, hown, hf⟩
          exact ⟨gb, cap, rfl, Kd.C_string Try.underlying22 Try.underlying5 Try.underlying9 (own_reads64 hown (HC8.out.e.rd64_length (by omega) (by rw [HN8.out]; exact hj))).2, hf⟩⟩
        have c0s : Aside0 (∀ W, Fr (fun _ => False) w8 W → W.cell? ⟨x, 0, none⟩ = some (.pointer (some ⟨g, 0, none⟩)) ∧ W.cell? ⟨x, 2, none⟩ = some (.pointer (some ⟨r, 0, none⟩))) := ⟨fun W f => ⟨cellK f HX8.out.cells.1, cellK f HX8.out.cells.2.2.1⟩⟩
        generalize (mendD [] D) = D2 at *
        have HR0 := Aside0.mk (Fr.refl (fun _ => False) w8)
        clear e8 f8 hc8 MR7 c2' HC8 HX8 HD7 HF7 HX7 HX HC HFR HDN
        go_wp2_with fail
        go_loopg [11, 12, 13, 14, 15] (60 + m) (fun kq v11 v12 v13 v14 v15 W => ∃ (j : Nat), v11 = .int .i64 (j : Int) ∧ Aside0 (j + kq = 60 + m) ∧ Aside0 (Fr (fun _ => False) w8 W))
        case atStart => exact ⟨0, rfl, ⟨by omega⟩, HR0⟩
        case round =>
          clear HR0
          obtain ⟨j, rfl, HJ2, HW⟩ := hrel
          have hj0 : (0 : Int) ≤ (j : Int) := by omega
          cases gk with
          | zero =>
            have hj1 : 60 + (m : Int) ≤ (j : Int) := by have := HJ2.out; omega
            have HE : Aside0 (Fr (fun _ => False) w wr) := ⟨HF8.out.trans HW.out (fun _ h => h.elim)⟩
            go_wp2_with fail
            go_ret
            exact ⟨rfl, HE.out⟩
          | succ k1 =>
            have hj1 : (j : Int) < 60 + (m : Int) := by have := HJ2.out; omega
            have HJ3 : Aside0 (j + 1 + k1 = 60 + m) := ⟨by have := HJ2.out; omega⟩
            have RD1 := Aside0.mk (RD.out j wr HW.out hj1)
            have q0 := (c0s.out _ HW.out).1
            go_wp2_with fail
            refine RD1.out.mono ?_
            rintro e w9 ⟨gb, rfl, h1, f9⟩
            have HF9 := Aside0.mk (HW.out.trans f9 (fun _ h => h.elim))
            have HS9 := Aside0.mk h1
            have RR1 := Aside0.mk (RR.out j w9 HF9.out hj1)
            have q2 := (c0s.out _ HF9.out).2
            clear h1 f9 RD1 q0
            go_wp2_with fail
            refine RR1.out.mono ?_
            rintro e w10 ⟨gb2, cap2, rfl, h2, f10⟩
            have h1 := HS9.out w10 f10
            have HF10 := Aside0.mk (HF9.out.trans f10 (fun _ h => h.elim))
            generalize strOfNums (rd64 D2 (j : Int)) = S at h1 h2
            clear f10 RR1 q2 HS9
            go_wp2_with fail
            go_roundg k1
            case measure => omega
            case rel => exact ⟨j + 1, by go_num, HJ3, HF10⟩)
    | succ k1 =>
      have hk1 : (k : Int) < (n0 : Int) := by have := HI.out; omega
      have hk2 : (k : Int) < 60 := by have := HI.out; omega
      have HI3 : Aside0 (k + 1 + k1 = K) := ⟨by have := HI.out; omega⟩
      obtain ⟨o, ho⟩ : ∃ o, l[k]? = some o := ⟨_, List.getElem?_eq_getElem (by rw [HN0.out]; omega)⟩
      obtain ⟨ad, rfl, hat⟩ := HL0.out k o ho
      obtain ⟨D, oo, hjp, hdn, hfr⟩ := HJ.out
      obtain ⟨Aw, cw, Ak, ck, Ab, cb, hop, q0, q1, q2, q3, q4⟩ := opc_of hat (HSZ.out o (List.mem_of_getElem? ho)) hfr
      have q0 := cellK hfr q0
      have q1 := cellK hfr q1
      have q2 := cellK hfr q2
      have q3 := cellK hfr q3
      have q4 := cellK hfr q4
      have HFR := Aside0.mk hfr
      have HDK := Aside0.mk hdn
      have HOPC := Aside0.mk hop
      have HJPK := Aside0.mk hjp
      have AC : Aside0 (∀ W', Fr (fun _ => False) wr W' → Calls Try.prog 37 #[.pointer (some ⟨x, 0, none⟩), .agg #[.int .i64 o.kind, .slice Aw o.w.length cw, .int .i64 o.n, .slice Ak o.keep.length ck, .slice Ab o.b.length cb]] W' (ActEnd w.heap.size x (72 + 230 * k) D W')) := ⟨fun W' f => act_calls w.heap.size x (72 + 230 * k) W' D oo o Aw cw Ak ck Ab cb (HJPK.out.quiet f) (by have := HI3.out; omega) (by have := HDK.out; omega) ⟨fun W'' f' => HOPC.out.w W'' ((f.mono (fun _ h => h.elim)).trans f' (fun k h => .inl h)), fun W'' f' => HOPC.out.k W'' ((f.mono (fun _ h => h.elim)).trans f' (fun k h => .inl h)), fun W'' f' => HOPC.out.b W'' ((f.mono (fun _ h => h.elim)).trans f' (fun k h => .inl h)), HOPC.out.cw, HOPC.out.ck, HOPC.out.cb, HOPC.out.siz, HOPC.out.wf, HOPC.out.bb, HOPC.out.wb⟩⟩
      clear hat hjp hdn hfr hop HJ ho
      generalize o.kind = kd at *
      generalize o.n = nn at *
      go_wp2_with fail
      refine wp_region_held_drew (S := fun _ => True) (by kernel_rfl) trivial (fun hHeld => ?_)
      refine wpAnyH_take (i := 0) (oi := ⟨some 65, _, _, _, _, _⟩) (v := ?_) rfl (by kernel_rfl) (by kernel_rfl) (by kernel_rfl) (fun _ _ _ h => h) (Or.inl ⟨by rfl, ?hyQ1⟩) (by assumption) ?rsQ1
      case hyQ1 => (intro w' hSw; (try dsimp only at hSw); (first | (go_simp; done) | (go_simp; with_reducible rfl)))
      try simp only [Act.put, List.setIfInBounds_toArray, List.set_cons_zero, List.set_cons_succ]
      refine wpAnyH_take (i := 1) (oi := ⟨some 66, _, _, _, _, _⟩) (v := ?_) rfl (by kernel_rfl) (by kernel_rfl) (by kernel_rfl) (fun _ _ _ h => h) (Or.inl ⟨by rfl, ?hyQ2⟩) (by assumption) ?rsQ2
      case hyQ2 => (intro w' hSw; (try dsimp only at hSw); (first | (go_simp; done) | (go_simp; with_reducible rfl)))
      try simp only [Act.put, List.setIfInBounds_toArray, List.set_cons_zero, List.set_cons_succ]
      refine wpAnyH_take (i := 2) (oi := ⟨some 67, _, _, _, _, _⟩) (v := ?_) rfl (by kernel_rfl) (by kernel_rfl) (by kernel_rfl) (fun _ _ _ h => h) (Or.inl ⟨by rfl, ?hyQ3⟩) (by assumption) ?rsQ3
      case hyQ3 => (intro w' hSw; (try dsimp only at hSw); (first | (go_simp; done) | (go_simp; with_reducible rfl)))
      try simp only [Act.put, List.setIfInBounds_toArray, List.set_cons_zero, List.set_cons_succ]
      refine wpAnyH_take (i := 3) (oi := ⟨some 68, _, _, _, _, _⟩) (v := ?_) rfl (by kernel_rfl) (by kernel_rfl) (by kernel_rfl) (fun _ _ _ h => h) (Or.inl ⟨by rfl, ?hyQ4⟩) (by assumption) ?rsQ4
      case hyQ4 => (intro w' hSw; (try dsimp only at hSw); (first | (go_simp; done) | (go_simp; with_reducible rfl)))
      try simp only [Act.put, List.setIfInBounds_toArray, List.set_cons_zero, List.set_cons_succ]
      refine wpAnyH_ready (rs := [4]) (by kernel_rfl) (by simp) ?_
      refine AllReadyH.cons rfl (fun K hK => ?_) AllReadyH.nil
      go_simp
      clear hHeld
      refine hK.out _ _ trivial (fun hHeld => ?_)
      clear hK K
      try simp only [Act.put, List.setIfInBounds_toArray, List.set_cons_zero, List.set_cons_succ]
      refine wpAnyH_ready (rs := [5]) (by kernel_rfl) (by simp) ?_
      refine AllReadyH.cons rfl (fun K hK => ?_) AllReadyH.nil
      go_simp
      refine (AC.out _ (Fr.refl _ wr).drew).mono ?_
      rintro e w8 ⟨rfl, ⟨D', o', jp, hn'⟩, f8⟩
      have HJP : Aside0 (JP w.heap.size x w8 D' o' (72 + 230 * (k + 1))) := ⟨jp.mono (by omega)⟩
      have HDN8 := Aside0.mk (hn'.trans HDK.out)
      have HF8 : Aside0 (Fr (fun _ => False) w w8) := ⟨HFR.out.drew.trans f8 (fun k h => .inr h)⟩
      obtain ⟨g, r, B, R, lv, mv, hx, hc, hl, hj, hb⟩ := jp
      have hu8 : D'.c.length ≤ 1000000 := by have := hj.u; have := HI3.out; omega
      obtain ⟨_, _, _, _, _, r3, r4, _⟩ := hc.e.cells
      have S8 : Aside0 (w8.cell? ⟨x, 0, none⟩ = some (.pointer (some ⟨g, 0, none⟩)) ∧ w8.cell? ⟨x, 2, none⟩ = some (.pointer (some ⟨r, 0, none⟩)) ∧ w8.cell? ⟨r, 4, none⟩ = some (.int .i64 D'.steps) ∧ w8.cell? ⟨r, 3, none⟩ = some (.bool D'.down)) := ⟨hx.cells.1, hx.cells.2.2.1, r4, r3⟩
      have SF : Aside0 (∀ W', Fr (fun _ => False) w8 W' → W'.cell? ⟨x, 0, none⟩ = some (.pointer (some ⟨g, 0, none⟩)) ∧ W'.cell? ⟨x, 2, none⟩ = some (.pointer (some ⟨r, 0, none⟩)) ∧ W'.cell? ⟨r, 4, none⟩ = some (.int .i64 D'.steps) ∧ W'.cell? ⟨r, 3, none⟩ = some (.bool D'.down)) := ⟨fun W' f => ⟨cellK f S8.out.1, cellK f S8.out.2.1, cellK f S8.out.2.2.1, cellK f S8.out.2.2.2⟩⟩
      have T1 : Aside0 (∀ W', Fr (fun _ => False) w8 W' → Calls Try.prog 38 #[.pointer (some ⟨g, 0, none⟩)] W' fun e w' => e = .returned (.int .i64 D'.steps) ∧ Fr (fun _ => False) w8 w') := ⟨fun W' f => (steps_calls g B D' W' (hc.d.fr f (fun _ _ h => h))).mono fun e w' ⟨h1, h2⟩ => ⟨h1, f.trans (Fr.of_drawn h2 _) (fun _ h => h)⟩⟩
      have T2 : Aside0 (∀ W', Fr (fun _ => False) w8 W' → Calls Try.prog 39 #[.pointer (some ⟨g, 0, none⟩)] W' fun e w' => e = .returned (.bool D'.down) ∧ Fr (fun _ => False) w8 w') := ⟨fun W' f => (down_calls g B D' W' (hc.d.fr f (fun _ _ h => h))).mono fun e w' ⟨h1, h2⟩ => ⟨h1, f.trans (Fr.of_drawn h2 _) (fun _ h => h)⟩⟩
      have T3 : Aside0 (∀ W', Fr (fun _ => False) w8 W' → Calls Try.prog 20 #[.pointer (some ⟨g, 0, none⟩)] W' fun e w' => ∃ A c, e = .returned (.slice A D'.c.length c) ∧ Kd.C (Kd.int .i64) w' A D'.c.length (keysC D'.c) ∧ Fr (fun _ => False) w8 w') := ⟨fun W' f => by
        refine (pending_calls g B D' W' (hc.d.fr f (fun _ _ h => h)) hu8).mono ?_
        rintro e w' ⟨v, rfl, ho, hf⟩
        obtain ⟨A, c, rfl, hC⟩ := ints_row ho
        exact ⟨A, c, rfl, hC, f.trans hf (fun _ h => h.elim)⟩⟩
      have T4 : Aside0 (∀ W', Fr (fun _ => False) w8 W' → Calls Try.prog 41 #[.pointer (some ⟨r, 0, none⟩)] W' fun e w' => ∃ A c, e = .returned (.slice A D'.c.length c) ∧ Kd.C (Kd.int .i64) w' A D'.c.length (keysC D'.c) ∧ Fr (fun _ => False) W' w') := ⟨fun W' f => by
        refine (rpending_calls r R D' W' (hc.e.fr f (fun _ _ h => h)) hu8).mono ?_
        rintro e w' ⟨v, rfl, ho, hf⟩
        obtain ⟨A, c, rfl, hC⟩ := ints_row ho
        exact ⟨A, c, rfl, hC, hf⟩⟩
      have T5 : Aside0 (∀ (W W' : World) (A A' : Option Addr) (c c' : Nat), Kd.C (Kd.int .i64) W A D'.c.length (keysC D'.c) → Kd.C (Kd.int .i64) W' A' D'.c.length (keysC D'.c) → Fr (fun _ => False) W W' → Calls Try.prog 40 #[.slice A D'.c.length c, .slice A' D'.c.length c'] W' fun e w' => e = .returned (.bool true) ∧ Fr (fun _ => False) W' w') := ⟨fun W W' A A' c c' h1 h2 hf => by
        have hkl : (keysC D'.c).length = D'.c.length := by simp [keysC]
        rw [← hkl] at h1 h2 ⊢
        exact (sameInts_calls A A' c c' (keysC D'.c) W' (C_fr (0 : Int) h1 hf (fun _ _ _ h => h)) h2).mono fun e w' ⟨h1, h2⟩ => ⟨h1, Fr.of_drawn h2 _⟩⟩
      generalize D'.c.length = NC at *
      generalize keysC D'.c = KC at *
      generalize D'.steps = ds at *
      generalize D'.down = dd at *
      clear hx hc hl hj hb hu8 r3 r4 f8 hn' hHeld
      go_simp
      refine hK.out _ _ trivial (fun hHeld => ?_)
      clear hK K
      try simp only [Act.put, List.setIfInBounds_toArray, List.set_cons_zero, List.set_cons_succ]
      refine wpAnyH_take (i := 6) (oi := ⟨some 71, _, _, _, _, _⟩) (v := ?_) rfl (by kernel_rfl) (by kernel_rfl) (by kernel_rfl) (fun _ _ _ h => h) (Or.inl ⟨by rfl, ?hyQ5⟩) (by assumption) ?rsQ5
      case hyQ5 => (intro w' hSw; (try dsimp only at hSw); (first | (go_simp; done) | (go_simp; with_reducible rfl)))
      try simp only [Act.put, List.setIfInBounds_toArray, List.set_cons_zero, List.set_cons_succ]
      refine wpAnyH_take (i := 7) (oi := ⟨some 72, _, _, _, _, _⟩) (v := ?_) rfl (by kernel_rfl) (by kernel_rfl) (by kernel_rfl) (fun _ _ _ h => h) (Or.inl ⟨by rfl, ?hyQ6⟩) (by assumption) ?rsQ6
      case hyQ6 => (intro w' hSw; (try dsimp only at hSw); (first | (go_simp; done) | (go_simp; with_reducible rfl)))
      try simp only [Act.put, List.setIfInBounds_toArray, List.set_cons_zero, List.set_cons_succ]
      refine wpAnyH_weaken (S' := fun W' => W'.cell? ⟨x, 0, none⟩ = some (.pointer (some ⟨g, 0, none⟩)) ∧ W'.cell? ⟨x, 2, none⟩ = some (.pointer (some ⟨r, 0, none⟩)) ∧ W'.cell? ⟨r, 4, none⟩ = some (.int .i64 ds) ∧ W'.cell? ⟨r, 3, none⟩ = some (.bool dd)) (fun _ _ => trivial) _ _ _ _ ?_
      clear hHeld
      have hHeld := S8.out
      refine wpAnyH_take (i := 8) (oi := ⟨some 73, _, _, _, _, _⟩) (v := ?_) rfl (by kernel_rfl) (by kernel_rfl) (by kernel_rfl) (fun _ _ _ h => h) (Or.inl ⟨by rfl, ?hyQ7⟩) (by assumption) ?rsQ7
      case hyQ7 => (intro w' hSw; (try dsimp only at hSw); (first | (go_simp; done) | (go_simp; with_reducible rfl)))
      try simp only [Act.put, List.setIfInBounds_toArray, List.set_cons_zero, List.set_cons_succ]
      refine wpAnyH_take (i := 9) (oi := ⟨some 74, _, _, _, _, _⟩) (v := ?_) rfl (by kernel_rfl) (by kernel_rfl) (by kernel_rfl) (fun _ _ _ h => h) (Or.inl ⟨by rfl, ?hyQ8⟩) (by assumption) ?rsQ8
      case hyQ8 => (intro w' hSw; (try dsimp only at hSw); (first | (go_simp; done) | (go_simp; with_reducible rfl)))
      try simp only [Act.put, List.setIfInBounds_toArray, List.set_cons_zero, List.set_cons_succ]
      refine wpAnyH_take (i := 10) (oi := ⟨some 75, _, _, _, _, _⟩) (v := ?_) rfl (by kernel_rfl) (by kernel_rfl) (by kernel_rfl) (fun _ _ _ h => h) (Or.inl ⟨by rfl, ?hyQ9⟩) (by assumption) ?rsQ9
      case hyQ9 => (intro w' hSw; (try dsimp only at hSw); (first | (go_simp; done) | (go_simp; with_reducible rfl)))
      try simp only [Act.put, List.setIfInBounds_toArray, List.set_cons_zero, List.set_cons_succ]
      refine wpAnyH_take (i := 11) (oi := ⟨some 76, _, _, _, _, _⟩) (v := ?_) rfl (by kernel_rfl) (by kernel_rfl) (by kernel_rfl) (fun _ _ _ h => h) (Or.inl ⟨by rfl, ?hyQ10⟩) (by assumption) ?rsQ10
      case hyQ10 => (intro w' hSw; (try dsimp only at hSw); (first | (go_simp; done) | (go_simp; with_reducible rfl)))
      try simp only [Act.put, List.setIfInBounds_toArray, List.set_cons_zero, List.set_cons_succ]
      refine wpAnyH_take (i := 13) (oi := ⟨some 78, _, _, _, _, _⟩) (v := ?_) rfl (by kernel_rfl) (by kernel_rfl) (by kernel_rfl) (fun _ _ _ h => h) (Or.inl ⟨by rfl, ?hyQ11⟩) (by assumption) ?rsQ11
      case hyQ11 => (intro w' hSw; (try dsimp only at hSw); (first | (go_simp; done) | (go_simp; with_reducible rfl)))
      try simp only [Act.put, List.setIfInBounds_toArray, List.set_cons_zero, List.set_cons_succ]
      refine wpAnyH_take (i := 14) (oi := ⟨some 79, _, _, _, _, _⟩) (v := ?_) rfl (by kernel_rfl) (by kernel_rfl) (by kernel_rfl) (fun _ _ _ h => h) (Or.inl ⟨by rfl, ?hyQ12⟩) (by assumption) ?rsQ12
      case hyQ12 => (intro w' hSw; (try dsimp only at hSw); (first | (go_simp; done) | (go_simp; with_reducible rfl)))
      try simp only [Act.put, List.setIfInBounds_toArray, List.set_cons_zero, List.set_cons_succ]
      refine wpAnyH_take (i := 15) (oi := ⟨some 80, _, _, _, _, _⟩) (v := ?_) rfl (by kernel_rfl) (by kernel_rfl) (by kernel_rfl) (fun _ _ _ h => h) (Or.inl ⟨by rfl, ?hyQ13⟩) (by assumption) ?rsQ13
      case hyQ13 => (intro w' hSw; (try dsimp only at hSw); (first | (go_simp; done) | (go_simp; with_reducible rfl)))
      try simp only [Act.put, List.setIfInBounds_toArray, List.set_cons_zero, List.set_cons_succ]
      refine wpAnyH_take (i := 16) (oi := ⟨some 81, _, _, _, _, _⟩) (v := ?_) rfl (by kernel_rfl) (by kernel_rfl) (by kernel_rfl) (fun _ _ _ h => h) (Or.inl ⟨by rfl, ?hyQ14⟩) (by assumption) ?rsQ14
      case hyQ14 => (intro w' hSw; (try dsimp only at hSw); (first | (go_simp; done) | (go_simp; with_reducible rfl)))
      try simp only [Act.put, List.setIfInBounds_toArray, List.set_cons_zero, List.set_cons_succ]
      refine wpAnyH_take (i := 17) (oi := ⟨some 82, _, _, _, _, _⟩) (v := ?_) rfl (by kernel_rfl) (by kernel_rfl) (by kernel_rfl) (fun _ _ _ h => h) (Or.inl ⟨by rfl, ?hyQ15⟩) (by assumption) ?rsQ15
      case hyQ15 => (intro w' hSw; (try dsimp only at hSw); (first | (go_simp; done) | (go_simp; with_reducible rfl)))
      try simp only [Act.put, List.setIfInBounds_toArray, List.set_cons_zero, List.set_cons_succ]
      refine wpAnyH_take (i := 18) (oi := ⟨some 83, _, _, _, _, _⟩) (v := ?_) rfl (by kernel_rfl) (by kernel_rfl) (by kernel_rfl) (fun _ _ _ h => h) (Or.inl ⟨by rfl, ?hyQ16⟩) (by assumption) ?rsQ16
      case hyQ16 => (intro w' hSw; (try dsimp only at hSw); (first | (go_simp; done) | (go_simp; with_reducible rfl)))
      try simp only [Act.put, List.setIfInBounds_toArray, List.set_cons_zero, List.set_cons_succ]
      refine wpAnyH_take (i := 19) (oi := ⟨some 84, _, _, _, _, _⟩) (v := ?_) rfl (by kernel_rfl) (by kernel_rfl) (by kernel_rfl) (fun _ _ _ h => h) (Or.inl ⟨by rfl, ?hyQ17⟩) (by assumption) ?rsQ17
      case hyQ17 => (intro w' hSw; (try dsimp only at hSw); (first | (go_simp; done) | (go_simp; with_reducible rfl)))
      try simp only [Act.put, List.setIfInBounds_toArray, List.set_cons_zero, List.set_cons_succ]
      refine wpAnyH_ready (rs := [12]) (by kernel_rfl) (by simp) ?_
      refine AllReadyH.cons rfl (fun K hK => ?_) AllReadyH.nil
      go_simp
      refine (T1.out _ (Fr.refl _ w8)).mono ?_
      rintro e w9 ⟨rfl, f9⟩
      have F9 := Aside0.mk f9
      clear f9 hHeld
      go_simp
      refine hK.out _ _ (SF.out _ F9.out) (fun hHeld => ?_)
      clear hK K
      try simp only [Act.put, List.setIfInBounds_toArray, List.set_cons_zero, List.set_cons_succ]
      refine wpAnyH_take (i := 20) (oi := ⟨some 85, _, _, _, _, _⟩) (v := ?_) rfl (by kernel_rfl) (by kernel_rfl) (by kernel_rfl) (fun _ _ _ h => h) (Or.inl ⟨by rfl, ?hyQ18⟩) (by assumption) ?rsQ18
      case hyQ18 => (intro w' hSw; (try dsimp only at hSw); (first | (go_simp; done) | (go_simp; with_reducible rfl)))
      try simp only [Act.put, List.setIfInBounds_toArray, List.set_cons_zero, List.set_cons_succ]
      refine wpAnyH_take (i := 21) (oi := ⟨some 86, _, _, _, _, _⟩) (v := ?_) rfl (by kernel_rfl) (by kernel_rfl) (by kernel_rfl) (fun _ _ _ h => h) (Or.inl ⟨by rfl, ?hyQ19⟩) (by assumption) ?rsQ19
      case hyQ19 => (intro w' hSw; (try dsimp only at hSw); (first | (go_simp; done) | (go_simp; with_reducible rfl)))
      try simp only [Act.put, List.setIfInBounds_toArray, List.set_cons_zero, List.set_cons_succ]
      refine wpAnyH_take (i := 22) (oi := ⟨some 87, _, _, _, _, _⟩) (v := ?_) rfl (by kernel_rfl) (by kernel_rfl) (by kernel_rfl) (fun _ _ _ h => h) (Or.inl ⟨by rfl, ?hyQ20⟩) (by assumption) ?rsQ20
      case hyQ20 => (intro w' hSw; (try dsimp only at hSw); (first | (go_simp; done) | (go_simp; with_reducible rfl)))
      try simp only [Act.put, List.setIfInBounds_toArray, List.set_cons_zero, List.set_cons_succ]
      refine wpAnyH_take (i := 23) (oi := ⟨some 88, _, _, _, _, _⟩) (v := ?_) rfl (by kernel_rfl) (by kernel_rfl) (by kernel_rfl) (fun _ _ _ h => h) (Or.inl ⟨by rfl, ?hyQ21⟩) (by assumption) ?rsQ21
      case hyQ21 => (intro w' hSw; (try dsimp only at hSw); (first | (go_simp; done) | (go_simp; with_reducible rfl)))
      try simp only [Act.put, List.setIfInBounds_toArray, List.set_cons_zero, List.set_cons_succ]
      refine wpAnyH_take (i := 24) (oi := ⟨some 89, _, _, _, _, _⟩) (v := ?_) rfl (by kernel_rfl) (by kernel_rfl) (by kernel_rfl) (fun _ _ _ h => h) (Or.inl ⟨by rfl, ?hyQ22⟩) (by assumption) ?rsQ22
      case hyQ22 => (intro w' hSw; (try dsimp only at hSw); (first | (go_simp; done) | (go_simp; with_reducible rfl)))
      try simp only [Act.put, List.setIfInBounds_toArray, List.set_cons_zero, List.set_cons_succ]
      refine wpAnyH_take (i := 25) (oi := ⟨some 90, _, _, _, _, _⟩) (v := ?_) rfl (by kernel_rfl) (by kernel_rfl) (by kernel_rfl) (fun _ _ _ h => h) (Or.inl ⟨by rfl, ?hyQ23⟩) (by assumption) ?rsQ23
      case hyQ23 => (intro w' hSw; (try dsimp only at hSw); (first | (go_simp; done) | (go_simp; with_reducible rfl)))
      try simp only [Act.put, List.setIfInBounds_toArray, List.set_cons_zero, List.set_cons_succ]
      refine wpAnyH_take (i := 26) (oi := ⟨some 91, _, _, _, _, _⟩) (v := ?_) rfl (by kernel_rfl) (by kernel_rfl) (by kernel_rfl) (fun _ _ _ h => h) (Or.inl ⟨by rfl, ?hyQ24⟩) (by assumption) ?rsQ24
      case hyQ24 => (intro w' hSw; (try dsimp only at hSw); (first | (go_simp; done) | (go_simp; with_reducible rfl)))
      try simp only [Act.put, List.setIfInBounds_toArray, List.set_cons_zero, List.set_cons_succ]
      refine wpAnyH_take (i := 28) (oi := ⟨some 93, _, _, _, _, _⟩) (v := ?_) rfl (by kernel_rfl) (by kernel_rfl) (by kernel_rfl) (fun _ _ _ h => h) (Or.inl ⟨by rfl, ?hyQ25⟩) (by assumption) ?rsQ25
      case hyQ25 => (intro w' hSw; (try dsimp only at hSw); (first | (go_simp; done) | (go_simp; with_reducible rfl)))
      try simp only [Act.put, List.setIfInBounds_toArray, List.set_cons_zero, List.set_cons_succ]
      refine wpAnyH_take (i := 29) (oi := ⟨some 94, _, _, _, _, _⟩) (v := ?_) rfl (by kernel_rfl) (by kernel_rfl) (by kernel_rfl) (fun _ _ _ h => h) (Or.inl ⟨by rfl, ?hyQ26⟩) (by assumption) ?rsQ26
      case hyQ26 => (intro w' hSw; (try dsimp only at hSw); (first | (go_simp; done) | (go_simp; with_reducible rfl)))
      try simp only [Act.put, List.setIfInBounds_toArray, List.set_cons_zero, List.set_cons_succ]
      refine wpAnyH_take (i := 30) (oi := ⟨some 95, _, _, _, _, _⟩) (v := ?_) rfl (by kernel_rfl) (by kernel_rfl) (by kernel_rfl) (fun _ _ _ h => h) (Or.inl ⟨by rfl, ?hyQ27⟩) (by assumption) ?rsQ27
      case hyQ27 => (intro w' hSw; (try dsimp only at hSw); (first | (go_simp; done) | (go_simp; with_reducible rfl)))
      try simp only [Act.put, List.setIfInBounds_toArray, List.set_cons_zero, List.set_cons_succ]
      refine wpAnyH_take (i := 31) (oi := ⟨some 96, _, _, _, _, _⟩) (v := ?_) rfl (by kernel_rfl) (by kernel_rfl) (by kernel_rfl) (fun _ _ _ h => h) (Or.inl ⟨by rfl, ?hyQ28⟩) (by assumption) ?rsQ28
      case hyQ28 => (intro w' hSw; (try dsimp only at hSw); (first | (go_simp; done) | (go_simp; with_reducible rfl)))
      try simp only [Act.put, List.setIfInBounds_toArray, List.set_cons_zero, List.set_cons_succ]
      refine wpAnyH_take (i := 32) (oi := ⟨some 97, _, _, _, _, _⟩) (v := ?_) rfl (by kernel_rfl) (by kernel_rfl) (by kernel_rfl) (fun _ _ _ h => h) (Or.inl ⟨by rfl, ?hyQ29⟩) (by assumption) ?rsQ29
      case hyQ29 => (intro w' hSw; (try dsimp only at hSw); (first | (go_simp; done) | (go_simp; with_reducible rfl)))
      try simp only [Act.put, List.setIfInBounds_toArray, List.set_cons_zero, List.set_cons_succ]
      refine wpAnyH_take (i := 33) (oi := ⟨some 98, _, _, _, _, _⟩) (v := ?_) rfl (by kernel_rfl) (by kernel_rfl) (by kernel_rfl) (fun _ _ _ h => h) (Or.inl ⟨by rfl, ?hyQ30⟩) (by assumption) ?rsQ30
      case hyQ30 => (intro w' hSw; (try dsimp only at hSw); (first | (go_simp; done) | (go_simp; with_reducible rfl)))
      try simp only [Act.put, List.setIfInBounds_toArray, List.set_cons_zero, List.set_cons_succ]
      refine wpAnyH_take (i := 34) (oi := ⟨some 99, _, _, _, _, _⟩) (v := ?_) rfl (by kernel_rfl) (by kernel_rfl) (by kernel_rfl) (fun _ _ _ h => h) (Or.inl ⟨by rfl, ?hyQ31⟩) (by assumption) ?rsQ31
      case hyQ31 => (intro w' hSw; (try dsimp only at hSw); (first | (go_simp; done) | (go_simp; with_reducible rfl)))
      try simp only [Act.put, List.setIfInBounds_toArray, List.set_cons_zero, List.set_cons_succ]
      refine wpAnyH_ready (rs := [27]) (by kernel_rfl) (by simp) ?_
      refine AllReadyH.cons rfl (fun K hK => ?_) AllReadyH.nil
      go_simp
      refine (T2.out _ F9.out).mono ?_
      rintro e w10 ⟨rfl, f10⟩
      have F10 := Aside0.mk f10
      clear f10 hHeld
      go_simp
      refine hK.out _ _ (SF.out _ F10.out) (fun hHeld => ?_)
      clear hK K
      try simp only [Act.put, List.setIfInBounds_toArray, List.set_cons_zero, List.set_cons_succ]
      refine wpAnyH_take (i := 35) (oi := ⟨some 100, _, _, _, _, _⟩) (v := ?_) rfl (by kernel_rfl) (by kernel_rfl) (by kernel_rfl) (fun _ _ _ h => h) (Or.inl ⟨by rfl, ?hyQ32⟩) (by assumption) ?rsQ32
      case hyQ32 => (intro w' hSw; (try dsimp only at hSw); (first | (go_simp; done) | (go_simp; with_reducible rfl)))
      try simp only [Act.put, List.setIfInBounds_toArray, List.set_cons_zero, List.set_cons_succ]
      refine wpAnyH_take (i := 36) (oi := ⟨some 101, _, _, _, _, _⟩) (v := ?_) rfl (by kernel_rfl) (by kernel_rfl) (by kernel_rfl) (fun _ _ _ h => h) (Or.inl ⟨by rfl, ?hyQ33⟩) (by assumption) ?rsQ33
      case hyQ33 => (intro w' hSw; (try dsimp only at hSw); (first | (go_simp; done) | (go_simp; with_reducible rfl)))
      try simp only [Act.put, List.setIfInBounds_toArray, List.set_cons_zero, List.set_cons_succ]
      refine wpAnyH_take (i := 37) (oi := ⟨some 102, _, _, _, _, _⟩) (v := ?_) rfl (by kernel_rfl) (by kernel_rfl) (by kernel_rfl) (fun _ _ _ h => h) (Or.inl ⟨by rfl, ?hyQ34⟩) (by assumption) ?rsQ34
      case hyQ34 => (intro w' hSw; (try dsimp only at hSw); (first | (go_simp; done) | (go_simp; with_reducible rfl)))
      try simp only [Act.put, List.setIfInBounds_toArray, List.set_cons_zero, List.set_cons_succ]
      refine wpAnyH_take (i := 38) (oi := ⟨some 103, _, _, _, _, _⟩) (v := ?_) rfl (by kernel_rfl) (by kernel_rfl) (by kernel_rfl) (fun _ _ _ h => h) (Or.inl ⟨by rfl, ?hyQ35⟩) (by assumption) ?rsQ35
      case hyQ35 => (intro w' hSw; (try dsimp only at hSw); (first | (go_simp; done) | (go_simp; with_reducible rfl)))
      try simp only [Act.put, List.setIfInBounds_toArray, List.set_cons_zero, List.set_cons_succ]
      refine wpAnyH_take (i := 39) (oi := ⟨some 104, _, _, _, _, _⟩) (v := ?_) rfl (by kernel_rfl) (by kernel_rfl) (by kernel_rfl) (fun _ _ _ h => h) (Or.inl ⟨by rfl, ?hyQ36⟩) (by assumption) ?rsQ36
      case hyQ36 => (intro w' hSw; (try dsimp only at hSw); (first | (go_simp; done) | (go_simp; with_reducible rfl)))
      try simp only [Act.put, List.setIfInBounds_toArray, List.set_cons_zero, List.set_cons_succ]
      refine wpAnyH_take (i := 40) (oi := ⟨some 105, _, _, _, _, _⟩) (v := ?_) rfl (by kernel_rfl) (by kernel_rfl) (by kernel_rfl) (fun _ _ _ h => h) (Or.inl ⟨by rfl, ?hyQ37⟩) (by assumption) ?rsQ37
      case hyQ37 => (intro w' hSw; (try dsimp only at hSw); (first | (go_simp; done) | (go_simp; with_reducible rfl)))
      try simp only [Act.put, List.setIfInBounds_toArray, List.set_cons_zero, List.set_cons_succ]
      refine wpAnyH_take (i := 41) (oi := ⟨some 106, _, _, _, _, _⟩) (v := ?_) rfl (by kernel_rfl) (by kernel_rfl) (by kernel_rfl) (fun _ _ _ h => h) (Or.inl ⟨by rfl, ?hyQ38⟩) (by assumption) ?rsQ38
      case hyQ38 => (intro w' hSw; (try dsimp only at hSw); (first | (go_simp; done) | (go_simp; with_reducible rfl)))
      try simp only [Act.put, List.setIfInBounds_toArray, List.set_cons_zero, List.set_cons_succ]
      refine wpAnyH_take (i := 43) (oi := ⟨some 108, _, _, _, _, _⟩) (v := ?_) rfl (by kernel_rfl) (by kernel_rfl) (by kernel_rfl) (fun _ _ _ h => h) (Or.inl ⟨by rfl, ?hyQ39⟩) (by assumption) ?rsQ39
      case hyQ39 => (intro w' hSw; (try dsimp only at hSw); (first | (go_simp; done) | (go_simp; with_reducible rfl)))
      try simp only [Act.put, List.setIfInBounds_toArray, List.set_cons_zero, List.set_cons_succ]
      refine wpAnyH_take (i := 44) (oi := ⟨some 109, _, _, _, _, _⟩) (v := ?_) rfl (by kernel_rfl) (by kernel_rfl) (by kernel_rfl) (fun _ _ _ h => h) (Or.inl ⟨by rfl, ?hyQ40⟩) (by assumption) ?rsQ40
      case hyQ40 => (intro w' hSw; (try dsimp only at hSw); (first | (go_simp; done) | (go_simp; with_reducible rfl)))
      try simp only [Act.put, List.setIfInBounds_toArray, List.set_cons_zero, List.set_cons_succ]
      refine wpAnyH_take (i := 45) (oi := ⟨some 110, _, _, _, _, _⟩) (v := ?_) rfl (by kernel_rfl) (by kernel_rfl) (by kernel_rfl) (fun _ _ _ h => h) (Or.inl ⟨by rfl, ?hyQ41⟩) (by assumption) ?rsQ41
      case hyQ41 => (intro w' hSw; (try dsimp only at hSw); (first | (go_simp; done) | (go_simp; with_reducible rfl)))
      try simp only [Act.put, List.setIfInBounds_toArray, List.set_cons_zero, List.set_cons_succ]
      refine wpAnyH_take (i := 46) (oi := ⟨some 111, _, _, _, _, _⟩) (v := ?_) rfl (by kernel_rfl) (by kernel_rfl) (by kernel_rfl) (fun _ _ _ h => h) (Or.inl ⟨by rfl, ?hyQ42⟩) (by assumption) ?rsQ42
      case hyQ42 => (intro w' hSw; (try dsimp only at hSw); (first | (go_simp; done) | (go_simp; with_reducible rfl)))
      try simp only [Act.put, List.setIfInBounds_toArray, List.set_cons_zero, List.set_cons_succ]
      refine wpAnyH_ready (rs := [42]) (by kernel_rfl) (by simp) ?_
      refine AllReadyH.cons rfl (fun K hK => ?_) AllReadyH.nil
      go_simp
      refine (T3.out _ F10.out).mono ?_
      rintro e w11 ⟨A5, c5, rfl, k5, f11⟩
      have K5 := Aside0.mk k5
      have F11 := Aside0.mk f11
      clear k5 f11 hHeld
      go_simp
      refine hK.out _ _ (SF.out _ F11.out) (fun hHeld => ?_)
      clear hK K
      try simp only [Act.put, List.setIfInBounds_toArray, List.set_cons_zero, List.set_cons_succ]
      refine wpAnyH_ready (rs := [47]) (by kernel_rfl) (by simp) ?_
      refine AllReadyH.cons rfl (fun K hK => ?_) AllReadyH.nil
      go_simp
      refine (T4.out _ F11.out).mono ?_
      rintro e w12 ⟨A6, c6, rfl, k6, f12⟩
      have K6 := Aside0.mk k6
      have F12 := Aside0.mk f12
      have F812 := Aside0.mk (F11.out.trans f12 (fun _ h => h.elim))
      clear k6 f12 hHeld
      go_simp
      refine hK.out _ _ (SF.out _ F812.out) (fun hHeld => ?_)
      clear hK K
      try simp only [Act.put, List.setIfInBounds_toArray, List.set_cons_zero, List.set_cons_succ]
      refine wpAnyH_ready (rs := [48]) (by kernel_rfl) (by simp) ?_
      refine AllReadyH.cons rfl (fun K hK => ?_) AllReadyH.nil
      go_simp
      refine (T5.out _ _ _ _ _ _ K5.out K6.out F12.out).mono ?_
      rintro e w13 ⟨rfl, f13⟩
      have F13 := Aside0.mk (F812.out.trans f13 (fun _ h => h.elim))
      clear f13 hHeld
      go_simp
      refine hK.out _ _ (SF.out _ F13.out) (fun hHeld => ?_)
      clear hK K
      try simp only [Act.put, List.setIfInBounds_toArray, List.set_cons_zero, List.set_cons_succ]
      refine wpAnyH_take (i := 49) (oi := ⟨some 114, _, _, _, _, _⟩) (v := ?_) rfl (by kernel_rfl) (by kernel_rfl) (by kernel_rfl) (fun _ _ _ h => h) (Or.inl ⟨by rfl, ?hyQ43⟩) (by assumption) ?rsQ43
      case hyQ43 => (intro w' hSw; (try dsimp only at hSw); (first | (go_simp; done) | (go_simp; with_reducible rfl)))
      try simp only [Act.put, List.setIfInBounds_toArray, List.set_cons_zero, List.set_cons_succ]
      refine wpAnyH_take (i := 50) (oi := ⟨some 115, _, _, _, _, _⟩) (v := ?_) rfl (by kernel_rfl) (by kernel_rfl) (by kernel_rfl) (fun _ _ _ h => h) (Or.inl ⟨by rfl, ?hyQ44⟩) (by assumption) ?rsQ44
      case hyQ44 => (intro w' hSw; (try dsimp only at hSw); (first | (go_simp; done) | (go_simp; with_reducible rfl)))
      try simp only [Act.put, List.setIfInBounds_toArray, List.set_cons_zero, List.set_cons_succ]
      refine wpAnyH_done (by kernel_rfl) ?_ _
      try dsimp only
      have HJ9 : Aside0 (∃ D o, JP w.heap.size x w13 D o (72 + 230 * (k + 1)) ∧ D.n = 60 + (m : Int) ∧ Fr (fun _ => False) w w13) := ⟨_, _, HJP.out.quiet F13.out, HDN8.out, HF8.out.trans F13.out (fun _ h => h.elim)⟩
      clear HJP HDN8 HF8 S8 SF T1 T2 T3 T4 T5 F9 F10 F11 F12 F812 F13 K5 K6 AC hHeld
      go_wp2_with fail
      go_roundg k1
      case measure => omega
      case rel => exact ⟨k + 1, by go_num, HI3, HJ9⟩
end Go.Proofs.Ytppgbfkhiofjiaa.X
