/-
  The journal: the contracts of writes and of works.
-/
import Derived.Test.YtppgbfkhiofjiaaPJ4
namespace Go.Proofs.Ytppgbfkhiofjiaa.X
open Go.RowKit Go.Proofs.YtppgbfkhiofjiaaW.PrintWords Go.Proofs.YtppgbfkhiofjiaaW.PrintLast Go.Proofs.YtppgbfkhiofjiaaW.PrintMore Go.Proofs.Ytppgbfkhiofjiaa.Y
set_option linter.unusedVariables false
set_option linter.unusedSimpArgs false

theorem writes_l0 {l : List S105} (hb : ∀ x ∈ l, x.f1.length < 140737488355328) (hn : l.length < 4398046511104) : ∀ (d i : Nat), i + d = l.length → redlinelaw24_writes.l0 (d + 1) l (jw (l.take i)) (i : Int) = some (jw l)
  | 0, i, h => by
    rw [redlinelaw24_writes.l0, if_neg (by omega), List.take_of_length_le (by omega)]
  | d + 1, i, h => by
    have hi : i < l.length := by omega
    have hrd : rd_T105 l (i : Int) = l[i] := by
      unfold rd_T105
      rw [Int.toNat_natCast, List.getD_eq_getElem?_getD, List.getElem?_eq_getElem hi]
      rfl
    have hlen := hb _ (List.getElem_mem hi)
    have hw : wrap64 ((i : Int) + 1) = ((i + 1 : Nat) : Int) := by unfold wrap64; omega
    have hj : jw (l.take i) ++ [(⟨l[i].f0, ([] : List Int) ++ l[i].f1⟩ : S102)] = jw (l.take (i + 1)) := by
      have e : l.take (i + 1) = l.take i ++ [l[i]] := List.take_succ_eq_append_getElem hi
      rw [e]
      unfold jw
      rw [List.map_append]
      rfl
    have hjl : (jw (l.take i)).length = i := by unfold jw; rw [List.length_map, List.length_take]; omega
    rw [redlinelaw24_writes.l0, if_pos (by omega), if_pos (by omega), Option.bind_some, hrd, if_pos (by simp only [List.length_nil]; omega), if_pos (by rw [hjl]; omega), hw, hj]
    exact writes_l0 hb hn d (i + 1) (by omega)
def Made102 (w w' : World) (A : Option Addr) (n : Nat) (l : List S102) : Prop := ∀ (B : Nat → Prop) W', (∀ k, B k → k < w.heap.size) → Fr B w' W' → Kd.C k102 W' A n l
theorem jw_length (l : List S105) : (jw l).length = l.length := by simp [jw]
theorem writes_calls (A : Option Addr) (c n : Nat) (l : List S105) (w : World) (hn : l.length = n) (hC : Kd.C k105 w A n l) (hc : n ≤ c) (hb : ∀ x ∈ l, x.f1.length < 140737488355328) (hn9 : n < 4398046511104) :
    Calls Try.prog 29 #[.slice A n c] w fun e w' => ∃ v A' c', e = .returned v ∧ v = .slice A' n c' ∧ Kd.S k102 102 w' w.heap.size (fun _ => True) v (jw l) ∧ Made102 w w' A' n (jw l) ∧ Fr (fun _ => False) w w' := by
  subst hn
  refine (redlinelaw24_writes.calls (l.length + 1) A c l (jw l) w hC hc ?_).mono ?_
  · unfold redlinelaw24_writes.f
    have := writes_l0 hb hn9 l.length 0 (by omega)
    simpa [jw] using this
  · rintro e w' ⟨v, rfl, hS, hB⟩
    have hR := Kd.S_R hS
    obtain ⟨A', c', rfl, _, _⟩ := Kd.R_reads hR
    rw [jw_length]
    refine ⟨_, A', c', rfl, rfl, by rw [jw_length] at hS; exact hS, fun B W' hBB f' => ?_, Fr.of_below hB _⟩
    have h1 := Kd.R_mono (Kd.R_bound hR) (fun k h => (⟨h.2.1, h.2.2.1⟩ : w.heap.size ≤ k ∧ k < w'.heap.size))
    have h2 := Kd.R_step (w1 := W') h1 (fun b hb hlt => f'.keep b hlt (fun h => by have := hBB b h; omega))
    obtain ⟨A2, c2, e2, _, hC2⟩ := Kd.R_reads h2
    rw [jw_length] at e2 hC2
    injection e2 with e3 _ _
    subst e3
    exact hC2

/-! ### works -/
def rowW : List Int := zeros64.set 5 9
theorem rowW_length : rowW.length = 64 := rfl
/-- One write, in a row of its own. -/
theorem one_write {W : World} {B : Nat → Prop} {rb ab : Nat} {s : Int} {b : List Int} (hr : W.heap[rb]? = some (.cells #[.int .i64 s, .slice (some ⟨ab, 0, none⟩) 64 64] 102 (0, 0))) (ha : IsBytes W ab b) (hb : b.length = 64) (h1 : ¬ B rb) (h2 : ¬ B ab) :
    ∀ W', Fr B W W' → Kd.C k102 W' (some ⟨rb, 0, none⟩) 1 [⟨s, b⟩] := fun W' f => by
  have r' := (f.keep rb (Array.getElem?_eq_some_iff.1 hr).1 h1).trans hr
  have a' := ha.kept (f.keep ab ha.lt h2)
  refine ⟨rfl, by omega, fun _ => ⟨_, rfl, fun j p hj => ?_⟩⟩
  have hj0 : j = 0 := by have := (List.getElem?_eq_some_iff.1 hj).1; simp at this; omega
  subst hj0
  obtain rfl := Option.some.inj hj
  refine ⟨_, ?_, k102_mk W' (⟨s, b⟩ : S102) (A1 := some ⟨ab, 0, none⟩) (c1 := 64) (by rw [hb]; exact Nat.le_refl _) (a'.C (by omega)), fun i u hu => ?_⟩
  · rfl
  · rw [Addr.add_mid, cell_of_row W' rb _ _ 102 (0, 0) r', ← hu]
    simp only [hb]
    show (#[.int .i64 s, .slice (some ⟨ab, 0, none⟩) 64 64] : Array Value)[0 + (0 * 2 + i)]? = _
    rw [show 0 + (0 * 2 + i) = i by omega]
    exact List.getElem?_toArray

theorem works_com : ∃ D1, logC [⟨3, rowW⟩] (freshM 80) false = (0, D1, false) ∧ Idle 80 D1 ∧ JOk 152 D1 ∧ rd64 D1 72 = rowW ∧ logC [⟨11, rowW⟩] D1 false = (2, D1, false) ∧ openD D1 = (0, D1) := by
  have hI : Idle 80 (freshM 80) := idle_fresh 80
  have hl : Fits 80 [⟨3, rowW⟩] := ⟨by decide, by decide, fun x hx => by
    obtain rfl := List.mem_singleton.1 hx
    exact ⟨by decide, by decide, rfl⟩⟩
  have hj := (jok_fresh 80).logC [⟨3, rowW⟩] false
  rcases commit_out hI (by omega) (.inl hl) with ⟨h1, h2, h3, h4, h5⟩ | ⟨_, _, h3, _⟩
  · refine ⟨(logC [⟨3, rowW⟩] (freshM 80) false).2.1, ?_, h3, hj, ?_, ?_, open_idle h3 (by omega)⟩
    · exact Prod.ext h1 (Prod.ext rfl h2)
    · rw [rd_nil h3.c, h5.rest 72 (by omega) (by omega)]
      rfl
    · generalize (logC [⟨3, rowW⟩] (freshM 80) false).2.1 = D1 at h3
      have hh : hasB D1 11 = false := by
        unfold hasB
        rw [h3.n]
        decide
      have hw : wrongL D1 [⟨11, rowW⟩] = 2 := by rw [wrongL, if_pos hh]
      unfold logC
      rw [if_neg (by decide), if_neg (by decide), hw, if_pos (by decide)]
  · exact absurd rfl h3

set_option maxHeartbeats 8000000 in
set_option maxRecDepth 100000 in
theorem jworks_calls (w : World) : Calls Try.prog 26 #[] w fun e w' => e = .returned (.bool true) ∧ Fr (fun _ => False) w w' := by
  have hmk := make64
  go_enter Try.func26, Try.ntmps26
  go_wp2_with fail
  refine (fresh_calls 11 w (by omega) (by omega)).mono ?_
  rintro e w1 ⟨g, lb, B, rfl, hd, hB, hlog, hlb, hnb, hf⟩
  have HD := Aside0.mk hd
  have HB := Aside0.mk hB
  have HLG := Aside0.mk hlog
  have HF1 := Aside0.mk hf
  have hI : Idle 80 (freshM 80) := idle_fresh 80
  have LS : Aside0 (∀ W, Fr (fun _ => False) w1 W → Calls Try.prog 55 #[.pointer (some ⟨lb, 0, none⟩)] W fun e w' => e = .returned (.int .i64 11) ∧ w' = W) := ⟨fun W f => logsect_calls lb g false B (freshM 80) W (hd.fr f (fun _ _ h => h)) (hlog.kept (f.keep _ hlog.lt (fun h => h))) ⟨by decide, by decide⟩⟩
  obtain ⟨D1, e1, hI1, hj1, hr1, e2, e3⟩ := works_com
  have HI1 := Aside0.mk hI1
  have HJ1 := Aside0.mk hj1
  have HR1 := Aside0.mk hr1
  have E2 := Aside0.mk e2
  have E3 := Aside0.mk e3
  have HNB := Aside0.mk hnb
  have hlt := hlog.lt
  have CM1 := com_calls lb g false B (freshM 80) (some ⟨w1.heap.size + 1, 0, none⟩) 1 1 [⟨3, rowW⟩] ((w1.alloc (.cells (nums .u8 rowW).toArray 5)).alloc (.cells #[.int .i64 3, .slice (some ⟨w1.heap.size, 0, none⟩) 64 64] 102)) 2 ((hd.alloc _).alloc _) (jok_fresh _) (by omega) (hlog.kept (((Fr.refl (fun _ => False) _).alloc _ |>.alloc _).keep _ hlog.lt (fun h => h))) hnb ⟨by decide, by decide⟩ rfl (by omega)
    (one_write (rb := w1.heap.size + 1) (ab := w1.heap.size) (by have := heap_alloc_new (w1.alloc (.cells (nums .u8 rowW).toArray 5)) (.cells #[.int .i64 3, .slice (some ⟨w1.heap.size, 0, none⟩) 64 64] 102); simpa using this) ((IsBytes.new w1 rowW).kept (Below.heap_alloc _ _ _ (by simp))) rowW_length (fun h => absurd (hd.lt _ h) (by omega)) (fun h => absurd (hd.lt _ h) (by omega)))
  rw [e1] at CM1
  have CM1 := Aside0.mk CM1
  clear hd hB hlog hf hnb e1 e2 e3 hI1 hj1 hr1 hI
  go_wp2_with fail
  refine (LS.out _ ((Fr.refl _ _).alloc _)).mono ?_
  rintro e W ⟨rfl, rfl⟩
  go_wp2_with fail
  refine CM1.out.mono ?_
  rintro e w2 ⟨rfl, ⟨B2, hd2, hB2⟩, hf2, hlog2⟩
  have hlb2 : ¬ B2 lb := fun h => (hB2 lb h).elim HNB.out (fun h => by simp at h; omega)
  have hw2 := hf2.size
  have ha2 : ¬ (B w1.heap.size ∨ w1.heap.size = lb) := fun h => h.elim (fun h => absurd (HD.out.lt _ h) (by omega)) (fun h => by omega)
  have HA2 := ((IsBytes.new w1 rowW).kept (Below.heap_alloc _ (.cells #[.int .i64 3, .slice (some ⟨w1.heap.size, 0, none⟩) 64 64] 102) _ (by simp))).kept (hf2.keep w1.heap.size (by simp; omega) ha2)
  have hab2 : ¬ B2 w1.heap.size := fun h => (hB2 _ h).elim (fun h => absurd (HD.out.lt _ h) (by omega)) (fun h => by simp at h; omega)
  have CM2 := com_calls lb g false B2 D1 (some ⟨w2.heap.size, 0, none⟩) 1 1 [⟨11, rowW⟩] (w2.alloc (.cells #[.int .i64 11, .slice (some ⟨w1.heap.size, 0, none⟩) 64 64] 102)) 152 (hd2.alloc _) HJ1.out (by omega) (hlog2.kept (((Fr.refl (fun _ => False) _).alloc _).keep _ hlog2.lt (fun h => h))) hlb2 ⟨by rw [HI1.out.n]; decide, by rw [HI1.out.n]; decide⟩ rfl (by omega)
    (one_write (rb := w2.heap.size) (ab := w1.heap.size) (heap_alloc_new _ _) (HA2.kept (Below.heap_alloc _ _ _ HA2.lt)) rowW_length (fun h => absurd (hd2.lt _ h) (by omega)) hab2)
  rw [E2.out] at CM2
  have CM2 := Aside0.mk CM2
  have HF2 : Aside0 (Fr (fun _ => False) w w2) := ⟨((HF1.out.alloc _).alloc _).trans hf2 (fun k h => h.elim (fun h => .inr (HB.out k h)) (fun h => .inr (by omega)))⟩
  have HA2 := Aside0.mk HA2
  have HB2 : Aside0 (∀ k, B2 k → w.heap.size ≤ k) := ⟨fun k h => (hB2 k h).elim (HB.out k) (fun h => by have := HF1.out.size; simp at h; omega)⟩
  have HAB : Aside0 (¬ (B2 w1.heap.size ∨ w1.heap.size = lb)) := ⟨fun h => h.elim hab2 (fun h => by omega)⟩
  have HLB : Aside0 (w.heap.size ≤ lb) := ⟨hlb⟩
  have HL2 : Aside0 (lb < w2.heap.size) := ⟨hlog2.lt⟩
  clear hd2 hB2 hf2 hlog2 hlb2 ha2 hab2 hw2 CM1 LS
  go_wp2_with fail
  refine CM2.out.mono ?_
  rintro e w3 ⟨rfl, ⟨B3, hd3, hB3⟩, hf3, hlog3⟩
  have hh3 : hasB D1 3 = true := by
    unfold hasB
    rw [HI1.out.n]
    decide
  have LR := lread_yes lb g false B3 D1 3 w3 hd3 hlog3 ⟨by rw [HI1.out.n]; decide, by rw [HI1.out.n]; decide⟩ hh3 HI1.out.down (by rw [HI1.out.c]; exact Nat.zero_le _)
  rw [show (69 : Int) + 3 = 72 from rfl, HR1.out] at LR
  have LR := Aside0.mk LR
  have HA3 : Aside0 (IsBytes w3 w1.heap.size rowW) := ⟨HA2.out.kept ((hf3.keep _ (by have := HA2.out.lt; simp; omega) HAB.out).trans (Below.heap_alloc _ _ _ HA2.out.lt))⟩
  have HF3 : Aside0 (Fr (fun _ => False) w w3) := ⟨(HF2.out.alloc _).trans hf3 (fun k h => h.elim (fun h => .inr (HB2.out k h)) (fun h => .inr (by rw [h]; exact HLB.out)))⟩
  have HB3 : Aside0 (∀ k, B3 k → w.heap.size ≤ k) := ⟨fun k h => (hB3 k h).elim (HB2.out k) (fun h => by have := HF2.out.size; simp at h; omega)⟩
  have HAB3 : Aside0 (¬ B3 w1.heap.size) := ⟨fun h => (hB3 _ h).elim (fun h => HAB.out (.inl h)) (fun h => by have := HA2.out.lt; simp at h; omega)⟩
  have HD3 := Aside0.mk hd3
  clear hd3 hB3 hf3 hlog3 hh3 CM2 HF2
  go_wp2_with fail
  refine LR.out.mono ?_
  rintro e w4 ⟨gb, rfl, hgb, harr, hf4⟩
  have OC := open_calls g B3 D1 w4 152 (HD3.out.fr hf4 (fun _ _ h => h)) HJ1.out (by omega) ⟨by rw [HI1.out.n]; decide, by rw [HI1.out.n]; decide⟩
  rw [E3.out] at OC
  have OC := Aside0.mk OC
  have HGB : Aside0 (¬ B3 gb) := ⟨fun h => absurd (HD3.out.lt _ h) (by omega)⟩
  have HARR := Aside0.mk harr
  have HF4 := Aside0.mk hf4
  clear hgb harr hf4 LR
  go_wp2_with fail
  refine OC.out.mono ?_
  rintro e w5 ⟨v, rfl, f5, _, h0⟩
  obtain ⟨lb5, B5, rfl, _, _, _, _, _⟩ := h0 rfl
  have R1 : (convert 22 9 (.slice (some ⟨gb, 0, none⟩) 64 64)).run Try.prog w5 = .ok (.string (strOfNums rowW)) w5 := Kd.C_string Try.underlying22 Try.underlying5 Try.underlying9 (c := 64) (Kd.C_of_reads (d := (0 : Int)) (h1 := fun _ => rfl) (IsArr.reads (HARR.out.kept (f5.keep _ HARR.out.lt HGB.out)) rowW_length))
  have R2 : (convert 22 9 (.slice (some ⟨w1.heap.size, 0, none⟩) 64 64)).run Try.prog w5 = .ok (.string (strOfNums rowW)) w5 := Kd.C_string Try.underlying22 Try.underlying5 Try.underlying9 (c := 64) (((HA3.out.kept (HF4.out.keep _ HA3.out.lt (fun h => h))).kept (f5.keep _ (Nat.lt_of_lt_of_le HA3.out.lt HF4.out.size) HAB3.out)).C (by rw [rowW_length]; omega))
  have R1 := Aside0.mk R1
  have R2 := Aside0.mk R2
  have HF5 : Aside0 (Fr (fun _ => False) w w5) := ⟨(HF3.out.trans HF4.out (fun k h => h.elim)).trans f5 (fun k h => .inr (HB3.out k h))⟩
  clear f5 h0
  go_wp2_with (first | (rw [R1.out]) | (rw [R2.out]))
  go_ret
  refine ⟨rfl, HF5.out⟩
end Go.Proofs.Ytppgbfkhiofjiaa.X
