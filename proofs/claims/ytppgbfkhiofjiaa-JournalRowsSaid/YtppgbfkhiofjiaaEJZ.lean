/-
  The journal: the contracts of fresh, image.
  The journal: the contract of laid.
  The journal: the contract of tame.
-/
import Derived.Test.YtppgbfkhiofjiaaEJA
import Derived.Test.YtppgbfkhiofjiaaEJ9
import Derived.Deep.RegionLaw
namespace Go.Proofs.Ytppgbfkhiofjiaa.X
open Go.RowKit Go.Proofs.YtppgbfkhiofjiaaW.PrintWords Go.Proofs.YtppgbfkhiofjiaaW.PrintLast Go.Proofs.YtppgbfkhiofjiaaW.PrintMore Go.Proofs.Ytppgbfkhiofjiaa.Y
set_option linter.unusedVariables false
set_option linter.unusedSimpArgs false

/-- A new disk with an empty journal on it. -/
def freshM (m : Int) : DS := ⟨m, upd (fun _ => zeros64) 0 (headL 0 0), [], -1, false, 2, 1⟩
theorem format_new (m : Int) (h : 70 ≤ m) : formatD (newD m) = (0, freshM m) := by
  have h1 : ¬ m ≤ 69 := by omega
  have h2 : ¬ m ≤ 0 := by omega
  unfold formatD
  rw [if_neg (show ¬ (newD m).n ≤ 69 from h1)]
  simp [laysD, runD, seqD, writeD, lookD, newD, stepD, flushD, settleD, settleF, headL_length, freshM, h2]
theorem jok_fresh (m : Int) : JOk 2 (freshM m) := ⟨⟨by show (0 : Int) ≤ 2; decide, by show (2 : Int) ≤ 2; decide⟩, by show (-1 : Int) ≤ 9223372036854775807; decide, by show 1 + 0 ≤ 2; decide⟩
theorem rd_fresh (m : Int) : rd64 (freshM m) 0 = headL 0 0 := rfl
theorem open_fresh (m : Int) (h : 70 ≤ m) : openD (freshM m) = (0, freshM m) := by
  have h1 : ¬ m ≤ 69 := by omega
  have hc : cntOf (freshM m) = 0 := by unfold cntOf; rw [rd_fresh]; decide +kernel
  have hs : sumOf (freshM m) = 0 := by unfold sumOf; rw [rd_fresh]; decide +kernel
  have hb : sameB (rd64 (freshM m) 0) (headL 0 0) = true := by rw [rd_fresh]; unfold sameB; exact beq_self_eq_true _
  unfold openD
  rw [if_neg (show ¬ (freshM m).n ≤ 69 from h1), if_neg (show ¬ (freshM m).down = true by simp [freshM]), hc, hs, if_neg (by decide), if_neg (by decide), hb, if_neg (by decide), if_pos rfl]

set_option maxHeartbeats 8000000 in
set_option maxRecDepth 100000 in
theorem fresh_calls (n : Int) (w : World) (h1 : 1 ≤ n) (h2 : n ≤ 100) :
    Calls Try.prog 27 #[.int .i64 n] w fun e w' => ∃ g lb B, e = .returned (.tuple #[.pointer (some ⟨g, 0, none⟩), .pointer (some ⟨lb, 0, none⟩)]) ∧ IsDisk w' B g (freshM (69 + n)) ∧ (∀ k, B k → w.heap.size ≤ k) ∧ IsLog w' lb g false ∧ w.heap.size ≤ lb ∧ ¬ B lb ∧ Fr (fun _ => False) w w' := by
  have NC := Aside0.mk (new_calls (69 + n) w (by omega) (by omega))
  go_enter Try.func27, Try.ntmps27
  go_wp2_with fail
  refine NC.out.mono ?_
  rintro e w1 ⟨g, rfl, ⟨B, hd, hB⟩, hb1⟩
  have FC := format_calls g B (newD (69 + n)) w1 0 hd (jok_new _) (by omega)
  rw [format_new _ (by omega)] at FC
  have FC := Aside0.mk FC
  have HB := Aside0.mk hB
  have HF1 := Aside0.mk (Fr.of_below hb1 (fun _ => False))
  clear hd hB hb1 NC
  go_wp2_with fail
  refine FC.out.mono ?_
  rintro e w2 ⟨rfl, m2⟩
  obtain ⟨B2, q1, q2, q3⟩ := m2
  have OC := open_calls g B2 (freshM (69 + n)) w2 2 q1 (jok_fresh _) (by omega) ⟨by show 0 ≤ 69 + n; omega, by show 69 + n ≤ 4096; omega⟩
  rw [open_fresh _ (by omega)] at OC
  have OC := Aside0.mk OC
  have HB2 : Aside0 (∀ k, B2 k → w.heap.size ≤ k) := ⟨fun k h => (q2 k h).elim (HB.out k) (fun h => Nat.le_trans HF1.out.size h)⟩
  have HF2 : Aside0 (Fr (fun _ => False) w w2) := ⟨HF1.out.trans q3 (fun k h => .inr (HB.out k h))⟩
  clear q1 q2 q3 FC HB HF1
  go_wp2_with fail
  refine OC.out.mono ?_
  rintro e w3 ⟨v, rfl, f3, _, h0⟩
  obtain ⟨lb, B3, rfl, a1, a2, a3, a4, a5⟩ := h0 rfl
  have HF3 : Aside0 (Fr (fun _ => False) w w3) := ⟨HF2.out.trans f3 (fun k h => .inr (HB2.out k h))⟩
  have HA := Aside0.mk (And.intro a3 (And.intro (fun k h => (a4 k h).elim (HB2.out k) (fun h => Nat.le_trans HF2.out.size h) : ∀ k, B3 k → w.heap.size ≤ k) (And.intro a2 (And.intro (Nat.le_trans HF2.out.size a1) a5))))
  clear f3 h0 a1 a2 a3 a4 a5
  go_wp2_with fail
  go_ret2
  exact ⟨g, lb, B3, rfl, HA.out.1, HA.out.2.1, HA.out.2.2.1, HA.out.2.2.2.1, HA.out.2.2.2.2, HF3.out⟩

theorem strOf_append (a b : List Int) : strOfNums a ++ strOfNums b = strOfNums (a ++ b) := by
  apply ByteArray.ext
  apply Array.toList_inj.1
  simp [strOfNums]

set_option maxHeartbeats 8000000 in
set_option maxRecDepth 100000 in
theorem image_calls (lb g : Nat) (dn : Bool) (B : Nat → Prop) (D : DS) (m : Nat) (w : World) (h : IsDisk w B g D) (hlog : IsLog w lb g dn) (hm : D.n = 69 + (m : Int)) (hm1 : m ≤ 100) (hd : D.down = false) (hc : D.c.length ≤ 1000000) :
    Calls Try.prog 31 #[.pointer (some ⟨lb, 0, none⟩)] w fun e w' => e = .returned (.string (strOfNums (sectL D 69 m))) ∧ Fr (fun _ => False) w w' := by
  have H := Aside0.mk h
  have HLG := Aside0.mk hlog
  have HM := Aside0.mk hm
  have HD := Aside0.mk hd
  have HC := Aside0.mk hc
  have SC : Aside0 (∀ W, Fr (fun _ => False) w W → Calls Try.prog 55 #[.pointer (some ⟨lb, 0, none⟩)] W fun e w' => e = .returned (.int .i64 (m : Int)) ∧ w' = W) := ⟨fun W f => by
    have h1 := logsect_calls lb g dn B D W (h.fr f (fun _ _ h => h)) (hlog.kept (f.keep _ hlog.lt (fun h => h))) (by omega)
    rw [show D.n - 69 = (m : Int) by omega] at h1
    exact h1⟩
  have RC : Aside0 (∀ (k : Nat) W, k < m → Fr (fun _ => False) w W → Calls Try.prog 56 #[.pointer (some ⟨lb, 0, none⟩), .int .i64 (k : Int)] W fun e w' => ∃ gb, e = .returned (.tuple #[.slice (some ⟨gb, 0, none⟩) 64 64, .int .i64 0]) ∧ (∀ W', W'.heap = w'.heap → (convert 22 9 (.slice (some ⟨gb, 0, none⟩) 64 64)).run Try.prog W' = .ok (.string (strOfNums (rd64 D (69 + k)))) W') ∧ Fr (fun _ => False) W w') := ⟨fun k W hk f => by
    refine (lread_yes lb g dn B D k W (h.fr f (fun _ _ h => h)) (hlog.kept (f.keep _ hlog.lt (fun h => h))) (by omega) (by unfold hasB; simp; omega) hd hc).mono ?_
    rintro e w' ⟨gb, rfl, h1, h2, h3⟩
    refine ⟨gb, rfl, fun W' e' => ?_, h3⟩
    have hl := h.rd64_length (69 + k)
    have hC : Kd.C (Kd.int .u8) W' (some ⟨gb, 0, none⟩) 64 (rd64 D (69 + k)) := Kd.C_of_reads (d := (0 : Int)) (h1 := fun _ => rfl) (IsArr.reads (h2.kept (by rw [e'])) hl)
    exact Kd.C_string Try.underlying22 Try.underlying5 Try.underlying9 (c := 64) hC⟩
  have hF0 := Aside0.mk (Fr.refl (fun _ => False) w)
  have hS0 : Aside0 (({ data := #[] } : ByteArray) = strOfNums (sectL D 69 0)) := ⟨rfl⟩
  clear h hlog hm hd hc
  go_enter Try.func31, Try.ntmps31
  go_wp2_with fail
  go_loopg [3, 4] m (fun kq v3 v4 W => ∃ (k : Nat) (s : ByteArray), v3 = .string s ∧ v4 = .int .i64 (k : Int) ∧ Aside0 (k + kq = m) ∧ Aside0 (s = strOfNums (sectL D 69 k)) ∧ Aside0 (Fr (fun _ => False) w W))
  case atStart => exact ⟨0, _, rfl, rfl, ⟨by omega⟩, hS0, hF0⟩
  case round =>
    clear hF0 hS0
    obtain ⟨k, s, rfl, rfl, HI, HS, HF⟩ := hrel
    have hk0 : (0 : Int) ≤ (k : Int) := by omega
    have SW := Aside0.mk (SC.out wr HF.out)
    cases gk with
    | zero =>
      have hk : k = m := by have := HI.out; omega
      subst hk
      go_wp2_with fail
      refine SW.out.mono ?_
      rintro e w2 ⟨rfl, rfl⟩
      go_wp2_with fail
      go_ret
      rw [← HS.out]
      exact ⟨rfl, HF.out⟩
    | succ k1 =>
      have hk1 : (k : Int) < (m : Int) := by have := HI.out; omega
      have HI3 : Aside0 (k + 1 + k1 = m) := ⟨by have := HI.out; omega⟩
      have RW := Aside0.mk (RC.out k wr (by omega) HF.out)
      go_wp2_with fail
      refine SW.out.mono ?_
      rintro e w2 ⟨rfl, rfl⟩
      go_wp2_with fail
      refine RW.out.mono ?_
      rintro e w3 ⟨gb, rfl, hcv, f3⟩
      have HF3 : Aside0 (Fr (fun _ => False) w w3) := ⟨HF.out.trans f3 (fun _ h => h.elim)⟩
      have hcv3 := hcv w3 rfl
      clear hcv f3 SW RW
      obtain ⟨s2, hs2⟩ : ∃ s2, strOfNums (rd64 D (69 + k)) = s2 := ⟨_, rfl⟩
      rw [hs2] at hcv3
      have HS3 : Aside0 (s ++ s2 = strOfNums (sectL D 69 (k + 1))) := ⟨by rw [HS.out, ← hs2, strOf_append]; rfl⟩
      have z1 : s.size = k * 64 := by rw [HS.out, strOfNums_size, H.out.sectL_length]
      have z2 : s2.size = 64 := by rw [← hs2, strOfNums_size, H.out.rd64_length]
      have hsz : s.size + s2.size ≤ 9223372036854775807 := by omega
      clear hs2 z1 z2
      go_wp2_with fail
      go_roundg k1
      case measure => omega
      case rel => exact ⟨k + 1, _, rfl, by go_num, HI3, HS3, HF3⟩
end Go.Proofs.Ytppgbfkhiofjiaa.X

namespace Go.Proofs.Ytppgbfkhiofjiaa.X
open Go.RowKit Go.Proofs.YtppgbfkhiofjiaaW.PrintWords Go.Proofs.YtppgbfkhiofjiaaW.PrintLast Go.Proofs.YtppgbfkhiofjiaaW.PrintMore Go.Proofs.Ytppgbfkhiofjiaa.Y
set_option linter.unusedVariables false
set_option linter.unusedSimpArgs false

theorem range3 {W : World} {b : Nat} {A B C : List Value} (h1 : W.rangeAt b 0 A) (h2 : W.rangeAt b A.length B) (h3 : W.rangeAt b (A.length + B.length) C) : W.rangeAt b 0 (A ++ B ++ C) := fun j v hv => by
  rw [List.append_assoc] at hv
  by_cases a : j < A.length
  · rw [List.getElem?_append_left a] at hv
    exact h1 j v hv
  · rw [List.getElem?_append_right (by omega)] at hv
    by_cases c : j - A.length < B.length
    · rw [List.getElem?_append_left c] at hv
      have := h2 _ v hv
      rwa [show A.length + (j - A.length) = 0 + j by omega] at this
    · rw [List.getElem?_append_right (by omega)] at hv
      have := h3 _ v hv
      rwa [show A.length + B.length + (j - A.length - B.length) = 0 + j by omega] at this
theorem range_part {W : World} {b o : Nat} {A B C : List Value} (h : W.rangeAt b o (A ++ B ++ C)) : W.rangeAt b o A ∧ W.rangeAt b (o + A.length + B.length) C := by
  refine ⟨fun j v hv => h j v ?_, fun j v hv => ?_⟩
  · rw [List.append_assoc, List.getElem?_append_left (List.getElem?_eq_some_iff.1 hv).1]
    exact hv
  · have := h (A.length + B.length + j) v (by
      rw [List.getElem?_append_right (by rw [List.length_append]; omega), List.length_append, show A.length + B.length + j - (A.length + B.length) = j by omega]
      exact hv)
    rwa [show o + (A.length + B.length + j) = o + A.length + B.length + j by omega] at this

/-- Bytes that lie in a block and may be written over. -/
def IsBuf (W : World) (b : Nat) (L : List Int) : Prop := W.rangeAt b 0 (nums .u8 L) ∧ W.there b 0 L.length
def spl (L : List Int) (o : Nat) (x : List Int) : List Int := L.take o ++ x ++ L.drop (o + x.length)
theorem spl_length {L : List Int} {o : Nat} {x : List Int} (h : o + x.length ≤ L.length) : (spl L o x).length = L.length := by
  unfold spl
  rw [List.length_append, List.length_append, List.length_take, List.length_drop]
  omega
theorem nums_append (k : IntKind) (a b : List Int) : nums k (a ++ b) = nums k a ++ nums k b := by simp [nums]
theorem nums_len (k : IntKind) (a : List Int) : (nums k a).length = a.length := by simp [nums]
theorem IsBuf.copy {W : World} {b : Nat} {L : List Int} (h : IsBuf W b L) {o : Nat} {x : List Int} (ho : o + x.length ≤ L.length) : IsBuf (W.setCells b o (nums .u8 x)) b (spl L o x) := by
  have e : L = L.take o ++ (L.drop o).take x.length ++ L.drop (o + x.length) := by
    rw [← List.drop_drop, List.append_assoc, List.take_append_drop, List.take_append_drop]
  have l1 : (L.take o).length = o := by rw [List.length_take]; omega
  have l2 : ((L.drop o).take x.length).length = x.length := by rw [List.length_take, List.length_drop]; omega
  have h1 := h.1
  rw [e, nums_append, nums_append] at h1
  obtain ⟨p1, p2⟩ := range_part h1
  rw [nums_len, nums_len, l1, l2] at p2
  refine ⟨?_, ?_⟩
  · unfold spl
    rw [nums_append, nums_append]
    refine range3 (World.rangeAt_setCells_apart p1 b o _ (.inr (.inl (by rw [nums_len, l1]; omega)))) ?_ ?_
    · rw [nums_len, l1]
      exact World.rangeAt_setCells_same W b o _ (fun j hj => by
        rw [nums_len] at hj
        have := h.2 (o + j) (by omega)
        rwa [show 0 + (o + j) = o + j by omega] at this)
    · rw [nums_len, nums_len, l1]
      rw [Nat.zero_add] at p2
      exact World.rangeAt_setCells_apart p2 b o _ (.inr (.inr (by rw [nums_len]; omega)))
  · rw [spl_length ho]
    exact World.there_setCells h.2 b o _
theorem IsBuf.bytes (W : World) (s : ByteArray) : IsBuf (Lib.bytesWorld W 5 s) W.heap.size (bytesOf s) := by
  have hl := bytesOf_length s
  have hc : ∀ j, j < s.size → (Lib.bytesWorld W 5 s).cell? ⟨W.heap.size, j, none⟩ = some (.int .u8 (s.data.toList.getD j 0).toNat) := fun j hj => Lib.bytesWorld_cell W 5 s j hj
  refine ⟨fun j v hv => ?_, fun j hj => ?_⟩
  · have hj : j < s.size := by have := (List.getElem?_eq_some_iff.1 hv).1; rwa [nums_len, hl] at this
    rw [Nat.zero_add, hc j hj, ← hv]
    have h' : j < s.data.toList.length := by rw [data_length]; exact hj
    simp [nums, bytesOf, List.getD_eq_getElem?_getD, List.getElem?_eq_getElem h']
  · rw [hl] at hj
    rw [Nat.zero_add, hc j hj]
    refine ⟨rfl, ?_⟩
    have hz : (Lib.bytesCells W 5 s).size ≥ s.size := by
      have h1 := hc (s.size - 1) (by omega)
      unfold World.cell? at h1
      rw [Lib.bytesWorld_at_new] at h1
      have h2 : (Lib.bytesCells W 5 s)[s.size - 1]? = some (.int .u8 (s.data.toList.getD (s.size - 1) 0).toNat) := h1
      have := (Array.getElem?_eq_some_iff.1 h2).1
      omega
    simp [World.frozen?, Lib.bytesWorld_at_new]
    omega
theorem IsBuf.kept {W W' : World} {b : Nat} {L : List Int} (h : IsBuf W b L) (hk : W'.heap[b]? = W.heap[b]?) : IsBuf W' b L := by
  have hc : ∀ j, W'.cell? ⟨b, j, none⟩ = W.cell? ⟨b, j, none⟩ := fun j => by unfold World.cell?; rw [hk]
  have hf : ∀ j, W'.frozen? ⟨b, j, none⟩ = W.frozen? ⟨b, j, none⟩ := fun j => by unfold World.frozen?; rw [hk]
  exact ⟨fun j v hv => (hc _).trans (h.1 j v hv), fun j hj => ⟨by rw [hc]; exact (h.2 j hj).1, by rw [hf]; exact (h.2 j hj).2⟩⟩
theorem IsBuf.C {W : World} {b : Nat} {L : List Int} (h : IsBuf W b L) (hl : L.length ≤ 9223372036854775807) : Kd.C (Kd.int .u8) W (some ⟨b, 0, none⟩) L.length L :=
  Kd.C_of_reads (d := (0 : Int)) (h1 := fun _ => rfl) ⟨rfl, hl, fun _ => ⟨_, rfl, fun j hj => by
    rw [Addr.add_mid]
    refine h.1 j _ ?_
    rw [nums, List.getElem?_map, List.getElem?_eq_getElem hj]
    simp [List.getD_eq_getElem?_getD, List.getElem?_eq_getElem hj]⟩⟩

def laidL : List Int → List S105 → List Int
  | L, [] => L
  | L, x :: l => laidL (spl L (64 * x.f0.toNat) x.f1) l

theorem step_copy_row {P : Program} {ops : Array Oper} {o : Oper} {a : Act} {w : World} {K : Act → World → Prop} {Q : Exit → Act → World → Prop} {E : Prop} (hgd : o.guard = none) (d s : Operand) (dT sT : TypeId)
    (ho : o.op = .call { callee := .builtin .copy, args := #[d, s], argTypes := #[dT, sT] }) (elem : TypeId) (hu : P.underlying dT = some (.slice elem)) (hsz : (P.info? elem).map (·.size) = some 1)
    (b off dLen dCap : Nat) (ad : Addr) (sLen sCap : Nat) (hd : a.eval d = .slice (some ⟨b, off, none⟩) dLen dCap) (hs : a.eval s = .slice (some ad) sLen sCap)
    (cs : List Value) (hn : cs.length = Nat.min sLen dLen) (hsrc : ∀ j v, cs[j]? = some v → w.cell? (ad.add j) = some v) (hth : w.there b off cs.length) (h1 : ∀ v ∈ cs, v.oneCell' = true)
    (h : K (a.put o.dst (goInt cs.length)) (w.setCells b off cs)) :
    if Region.wanted o (yielded ops a.tmps) = true then Oper.wp P o a w K Q else E := by
  have hw : Region.wanted o (yielded ops a.tmps) = true := by simp [Region.wanted, hgd]
  rw [if_pos hw]
  have hrun := run_copy_cells (P := P) w dT sT o.type elem b off dLen dCap ad sLen sCap cs hu hsz hn hsrc (fun j hj => (hth j hj).1) (fun j hj => (hth j hj).2) h1
  unfold Oper.wp
  simp [execOp, ho, resolve, invoke, builtin, hd, hs, hrun, Result.andThen]
  exact h
theorem one_nums (k : IntKind) (l : List Int) : ∀ v ∈ nums k l, v.oneCell' = true := fun v hv => by
  obtain ⟨x, _, rfl⟩ := List.mem_map.1 hv
  rfl
theorem info5z : (Try.prog.info? 5).map (·.size) = some 1 := by kernel_rfl

set_option maxHeartbeats 8000000 in
set_option maxRecDepth 100000 in
theorem laid_calls (s : ByteArray) (A : Option Addr) (cp n : Nat) (l : List S105) (w : World) (hs : s.size = 512) (hn : l.length = n) (hn9 : n ≤ 1000) (hl : Kd.C k105 w A n l) (hr : ∀ x ∈ l, 0 ≤ x.f0 ∧ x.f0 < 8 ∧ x.f1.length = 64) :
    Calls Try.prog 32 #[.string s, .slice A n cp] w fun e w' => e = .returned (.string (strOfNums (laidL (bytesOf s) l))) ∧ Fr (fun _ => False) w w' := by
  have kb := fun W : World => print_bytes (P := Try.prog) 9 22 5 Try.underlying9 Try.underlying22 Try.underlying5 s W
  have HL := Aside0.mk hl
  have HN := Aside0.mk hn
  have HR := Aside0.mk hr
  have HS := Aside0.mk hs
  have hb0 : Aside0 (∃ L, IsBuf (Lib.bytesWorld w 5 s) w.heap.size L ∧ L.length = 512 ∧ laidL (bytesOf s) l = laidL L (l.drop 0)) := ⟨⟨_, IsBuf.bytes w s, by rw [bytesOf_length, hs], by rw [List.drop_zero]⟩⟩
  have hf0 : Aside0 (Fr (fun _ => False) w (Lib.bytesWorld w 5 s)) := ⟨Fr.of_below (bytes_below (Below.refl _ _) (Nat.le_refl _) 5 s) _⟩
  clear hl hn hr
  go_enter Try.func32, Try.ntmps32
  go_wp2_with fail
  obtain ⟨cb, hcb⟩ : ∃ cb, grownCap w 512 0 5 = cb := ⟨_, rfl⟩
  have hcb1 : 512 ≤ cb := by rw [← hcb]; exact grownCap_ge w 512 0 5
  rw [hcb]
  clear hcb kb hs
  go_loopg [6] n (fun kq v6 W => ∃ (k : Nat), v6 = .int .i64 (k : Int) ∧ Aside0 (k + kq = n) ∧ Aside0 (∃ L, IsBuf W w.heap.size L ∧ L.length = 512 ∧ laidL (bytesOf s) l = laidL L (l.drop k)) ∧ Aside0 (Fr (fun _ => False) w W))
  case atStart => exact ⟨0, rfl, ⟨by omega⟩, hb0, hf0⟩
  case round =>
    clear hb0 hf0
    obtain ⟨k, rfl, HI, HB, HF⟩ := hrel
    have hk0 : (0 : Int) ≤ (k : Int) := by omega
    obtain ⟨L, hB, hL, hE⟩ := HB.out
    cases gk with
    | zero =>
      have hk : k = n := by have := HI.out; omega
      subst hk
      have hcv := Kd.C_string Try.underlying22 Try.underlying5 Try.underlying9 (c := cb) (hB.C (by omega))
      rw [hL] at hcv
      rw [List.drop_eq_nil_of_le (by rw [HN.out]; omega), laidL] at hE
      obtain ⟨s2, hs2⟩ : ∃ s2, strOfNums L = s2 := ⟨_, rfl⟩
      rw [hs2] at hcv
      have HE : Aside0 (strOfNums (laidL (bytesOf s) l) = s2) := ⟨by rw [hE, hs2]⟩
      clear hE hs2 hB hL HB
      go_wp2_with fail
      go_ret
      rw [HE.out]
      exact ⟨rfl, HF.out⟩
    | succ k1 =>
      have hk1 : (k : Int) < (n : Int) := by have := HI.out; omega
      have HI3 : Aside0 (k + 1 + k1 = n) := ⟨by have := HI.out; omega⟩
      obtain ⟨x, hx⟩ : ∃ x, l[k]? = some x := ⟨_, List.getElem?_eq_getElem (by rw [HN.out]; omega)⟩
      obtain ⟨r1, r2, r3⟩ := HR.out x (List.mem_of_getElem? hx)
      obtain ⟨m, hm⟩ := Int.eq_ofNat_of_zero_le r1
      obtain ⟨ad, A1, c1, rfl, g1, g2, g3, g4⟩ := at_T105 HL.out (k : Int) (by omega) (by omega)
      have hrd : rd_T105 l (k : Int) = x := by
        unfold rd_T105
        rw [Int.toNat_natCast, List.getD_eq_getElem?_getD, hx]
        rfl
      rw [hrd, Int.toNat_natCast, hm] at g1
      rw [hrd, Int.toNat_natCast, r3] at g2
      rw [hrd, r3] at g4
      have hm8 : m < 8 := by omega
      have HE2 : Aside0 (laidL (bytesOf s) l = laidL (spl L (64 * m) x.f1) (l.drop (k + 1))) := ⟨by
        obtain ⟨hlt, hget⟩ := List.getElem?_eq_some_iff.1 hx
        rw [hE, List.drop_eq_getElem_cons hlt, hget, laidL, hm, Int.toNat_natCast]⟩
      have HR3 := Aside0.mk r3
      have G1 := Aside0.mk g1
      have G2 := Aside0.mk g2
      replace g1 := cellK HF.out g1
      replace g2 := cellK HF.out g2
      replace g4 := Kd.C_below g4 (HF.out.below (fun _ h => h.elim) (Nat.le_refl _))
      have HLL := Aside0.mk hL
      have HBB := Aside0.mk hB
      have G4 := Aside0.mk (Kd.reads_of_C (enc := Value.int .u8) (d := (0 : Int)) (h1 := fun _ => rfl) g4)
      obtain ⟨ad1, hA1, hsrc⟩ := G4.out.2.2 (by omega)
      subst hA1
      have hsl := slice22l ⟨w.heap.size, 0, none⟩ 512 cb (64 * m) (by omega) (by omega) (64 * (m : Int)) (by omega)
      rw [Addr.add_mid, Nat.zero_add] at hsl
      have CS : Aside0 (∀ j v, (nums .u8 x.f1)[j]? = some v → wr.cell? (ad1.add j) = some v) := ⟨fun j v hv => by
        have hj : j < 64 := by have := (List.getElem?_eq_some_iff.1 hv).1; rwa [nums_len, HR3.out] at this
        rw [hsrc j hj, ← hv, nums, List.getElem?_map, List.getElem?_eq_getElem (by omega)]
        simp [List.getD_eq_getElem?_getD, List.getElem?_eq_getElem (show j < x.f1.length by omega)]⟩
      have TH : Aside0 (wr.there w.heap.size (64 * m) (nums .u8 x.f1).length) := ⟨fun j hj => by
        rw [nums_len, HR3.out] at hj
        have := hB.2 (64 * m + j) (by omega)
        rwa [Nat.zero_add] at this⟩
      have hmn : (nums .u8 x.f1).length = Nat.min 64 (512 - 64 * m) := by rw [nums_len, HR3.out]; exact (Nat.min_eq_left (by omega)).symm
      have HMN := Aside0.mk hmn
      have HLT : Aside0 (w.heap.size < wr.heap.size) := ⟨by
        have := (hB.2 0 (by omega)).1
        obtain ⟨v, hv⟩ := Option.isSome_iff_exists.1 this
        exact World.block_lt_of_cell? _ _ hv⟩
      obtain ⟨xs, hxs⟩ : ∃ xs, nums .u8 x.f1 = xs := ⟨_, rfl⟩
      have HXS := Aside0.mk hxs
      rw [hxs] at CS TH HMN
      have HON : Aside0 (∀ v ∈ xs, v.oneCell' = true) := ⟨by rw [← hxs]; exact one_nums _ _⟩
      clear r1 r2 r3 hm hrd hx hE hB hL HB g3 g4 hsrc hmn hxs
      have HF7 : Aside0 (Fr (fun _ => False) w (wr.drew.setCells w.heap.size (64 * m) xs)) := ⟨Fr.setCells (Nat.le_refl _) xs (64 * m) _ HF.out.drew⟩
      have S7 : Aside0 ((wr.drew.setCells w.heap.size (64 * m) xs).cell? (ad.add (k * 2)) = some (.int .i64 (m : Int)) ∧ (wr.drew.setCells w.heap.size (64 * m) xs).cell? ⟨(ad.add (k * 2)).block, (ad.add (k * 2)).off + 1, none⟩ = some (.slice (some ad1) 64 c1)) := ⟨And.intro (cellK HF7.out G1.out) (cellK HF7.out G2.out)⟩
      have HB7 : Aside0 (∃ L, IsBuf (wr.drew.setCells w.heap.size (64 * m) xs) w.heap.size L ∧ L.length = 512 ∧ laidL (bytesOf s) l = laidL L (l.drop (k + 1))) := ⟨⟨_, by rw [← HXS.out]; exact IsBuf.copy (W := wr.drew) HBB.out (by rw [HR3.out, HLL.out]; omega), by rw [spl_length (by rw [HR3.out, HLL.out]; omega), HLL.out], HE2.out⟩⟩
      have q1 : IntKind.i64.wrap (64 * (m : Int)) = 64 * (m : Int) := IntWalk.i64_in _ (by omega)
      go_wp2_with fail
      go_region_held3 (fun W => W.cell? (ad.add (k * 2)) = some (.int .i64 (m : Int)) ∧ W.cell? ⟨(ad.add (k * 2)).block, (ad.add (k * 2)).off + 1, none⟩ = some (.slice (some ad1) 64 c1)) (first | exact And.intro g1 g2 | exact S7.out)
        ((refine step_copy_row rfl (.tmp 22) (.tmp 27) 22 22 rfl 5 Try.underlying22 info5z w.heap.size (64 * m) (512 - 64 * m) (cb - 64 * m) ad1 64 c1 (by rfl) (by rfl) xs HMN.out CS.out TH.out HON.out ?_))
      clear q1 hsl g1 g2
      go_wp2_with fail
      go_roundg k1
      case measure => omega
      case rel => exact ⟨k + 1, by go_num, HI3, HB7, HF7⟩
end Go.Proofs.Ytppgbfkhiofjiaa.X

namespace Go.Proofs.Ytppgbfkhiofjiaa.X
open Go.RowKit Go.Proofs.YtppgbfkhiofjiaaW.PrintWords Go.Proofs.YtppgbfkhiofjiaaW.PrintLast Go.Proofs.YtppgbfkhiofjiaaW.PrintMore Go.Proofs.Ytppgbfkhiofjiaa.Y
set_option linter.unusedVariables false
set_option linter.unusedSimpArgs false

def pad64 (d : List Int) : List Int := spl zeros64 0 (d.take 64)
theorem pad64_length (d : List Int) : (pad64 d).length = 64 := by
  unfold pad64
  rw [spl_length (by rw [List.length_take]; show 0 + _ ≤ 64; omega)]
  rfl
def tameS (n : Int) : Int := wrap64 ((IntKind.u64.wrap n).tmod 8)
theorem rest8 (x : Int) : ∃ m : Nat, m < 8 ∧ wrap64 ((IntKind.u64.wrap x).tmod 8) = (m : Int) := by
  have h0 : 0 ≤ IntKind.u64.wrap x := by
    show 0 ≤ x % 18446744073709551616
    omega
  refine ⟨((IntKind.u64.wrap x) % 8).toNat, by omega, ?_⟩
  rw [Int.tmod_eq_emod_of_nonneg h0]
  unfold wrap64
  omega
def tameX (x : S105) : S105 := ⟨tameS x.f0, pad64 x.f1⟩
def tameL (l : List S105) : List S105 := (l.take 20).map tameX
theorem tame_ok (l : List S105) : ∀ x ∈ tameL l, 0 ≤ x.f0 ∧ x.f0 < 8 ∧ x.f1.length = 64 := fun x hx => by
  obtain ⟨y, _, rfl⟩ := List.mem_map.1 hx
  obtain ⟨m, hm, he⟩ := rest8 y.f0
  refine ⟨?_, ?_, pad64_length _⟩
  · show 0 ≤ tameS y.f0
    unfold tameS
    omega
  · show tameS y.f0 < 8
    unfold tameS
    omega
theorem setCells_block {b : Nat} {t : TypeId} {fr : Nat × Nat} : ∀ (vs : List Value) (o : Nat) (W : World) (cur : Array Value), W.heap[b]? = some (.cells cur t fr) → ∃ cur', (W.setCells b o vs).heap[b]? = some (.cells cur' t fr) ∧ cur'.size = cur.size
  | [], o, W, cur, h => ⟨cur, h, rfl⟩
  | v :: r, o, W, cur, h => by
    have h1 : (W.setCell ⟨b, o, none⟩ v).heap[b]? = some (.cells (cur.setIfInBounds o v) t fr) := by
      unfold World.setCell
      simp [Array.getElem?_modify, h]
    obtain ⟨cur', h2, h3⟩ := setCells_block r (o + 1) _ _ h1
    exact ⟨cur', h2, by rw [h3]; simp⟩
theorem wp_copy_run' {P : Program} (w : World) {ops : Array Oper} {rest : List Oper} {o : Oper} {a : Act} {Q : Exit → Act → World → Prop} (hgd : o.guard = none) (d s : Operand) (t t' : TypeId)
    (ho : o.op = .call { callee := .builtin .copy, args := #[d, s], argTypes := #[t, t'] }) (v u : Value) (hd : a.eval d = v) (hs : a.eval s = u) {v' : Value} {w' : World}
    (hr : (Builtin.copy_ #[t, t'] o.type #[v, u]).run P w = .ok v' w') (h : wpList P ops Q rest (a.put o.dst v') w') : wpList P ops Q (o :: rest) a w := by
  refine wpList_plain hgd fun K hK => ?_
  unfold Oper.wp
  simp [execOp, ho, resolve, invoke, builtin, hd, hs, hr, Result.andThen]
  exact hK _ _ h
theorem setCells_far {b : Nat} : ∀ (vs : List Value) (o : Nat) (W : World) (k : Nat), k ≠ b → (W.setCells b o vs).heap[k]? = W.heap[k]?
  | [], o, W, k, h => rfl
  | v :: r, o, W, k, h => by
    rw [World.setCells, setCells_far r (o + 1) _ k h]
    exact heap_setCell_other W ⟨b, o, none⟩ k v h
theorem setCells_same {b : Nat} : ∀ (vs : List Value) (o : Nat) (W : World), (W.setCells b o vs).heap.size = W.heap.size ∧ (W.setCells b o vs).os = W.os ∧ (W.setCells b o vs).tape = W.tape ∧ (W.setCells b o vs).output = W.output
  | [], o, W => ⟨rfl, rfl, rfl, rfl⟩
  | v :: r, o, W => by
    rw [World.setCells]
    obtain ⟨h1, h2, h3, h4⟩ := setCells_same r (o + 1) (W.setCell ⟨b, o, none⟩ v)
    exact ⟨h1.trans (by simp [World.setCell]), h2, h3, h4⟩
/-- Sixty-four noughts, with bytes copied over them. -/
theorem copy_pad (W : World) (b : Nat) (d : List Int) (A : Option Addr) (c : Nat) (ty : TypeId) (hb : W.heap[b]? = some (.cells (nums .u8 zeros64).toArray 5 (0, 0))) (hC : Kd.C (Kd.int .u8) W A d.length d) :
    ∃ v W', (Builtin.copy_ #[22, 22] ty #[.slice (some ⟨b, 0, none⟩) 64 64, .slice A d.length c]).run Try.prog W = .ok v W' ∧ W'.ownsRow b 5 1 (.slice (some ⟨b, 0, none⟩) 64 64) 64 (nums .u8 (pad64 d)) ∧ Fr (fun k => k = b) W W' := by
  have hlt : b < W.heap.size := (Array.getElem?_eq_some_iff.1 hb).1
  have hbuf : IsBuf W b zeros64 := by
    refine ⟨fun j v hv => ?_, fun j hj => ⟨?_, frozen_of_row W b _ _ 5 hb⟩⟩
    · rw [Nat.zero_add, cell_of_row W b j _ 5 (0, 0) hb, ← hv]
      exact List.getElem?_toArray
    · rw [Nat.zero_add, cell_of_row W b j _ 5 (0, 0) hb]
      have : j < (nums .u8 zeros64).toArray.size := by simpa [nums] using hj
      rw [Array.getElem?_eq_getElem this]
      rfl
  rcases Nat.eq_zero_or_pos d.length with h0 | h0
  · have hd : d = [] := List.eq_nil_of_length_eq_zero h0
    subst hd
    refine ⟨_, W, run_copy_none W 22 22 ty 5 _ _ 64 64 0 c Try.underlying22 info5z (by rfl), ⟨rfl, .inr ⟨b, 64, _, rfl, Nat.le_refl _, hb, Nat.le_refl _, by decide, rfl, rfl⟩⟩, Fr.refl _ _⟩
  · obtain ⟨ad, rfl, hc⟩ := hC.2.2 h0
    have hl : (d.take 64).length = Nat.min d.length 64 := by rw [List.length_take]; exact Nat.min_comm _ _
    have hle : (d.take 64).length ≤ 64 := by rw [List.length_take]; omega
    have hrun := run_copy_cells (P := Try.prog) W 22 22 ty 5 b 0 64 64 ad d.length c (nums .u8 (d.take 64)) Try.underlying22 info5z (by rw [nums_len]; exact hl) (fun j v hv => by
        have hj := (List.getElem?_eq_some_iff.1 hv).1
        rw [nums_len] at hj
        have hjd : j < d.length := by rw [List.length_take] at hj; omega
        obtain ⟨cs, c1, c2, c3⟩ := hc j _ (List.getElem?_eq_getElem hjd)
        have hcs : cs = [Value.int .u8 d[j]] := c2
        subst hcs
        have h3 := c3 0 _ rfl
        have : (Kd.int IntKind.u8).sz = 1 := rfl
        rw [this, Nat.mul_one, Nat.add_zero] at h3
        rw [h3, ← hv, nums, List.getElem?_map, List.getElem?_take, if_pos (by rw [List.length_take] at hj; omega), List.getElem?_eq_getElem hjd]
        rfl) (fun j hj => (hbuf.2 j (by rw [nums_len] at hj; show j < 64; omega)).1) (fun j hj => (hbuf.2 j (by rw [nums_len] at hj; show j < 64; omega)).2) (one_nums _ _)
    have hbuf' := hbuf.copy (o := 0) (x := d.take 64) (by show 0 + _ ≤ 64; omega)
    obtain ⟨cur, hcur, hsz⟩ := setCells_block (nums .u8 (d.take 64)) 0 W _ hb
    have hs64 : cur.size = 64 := by rw [hsz]; rfl
    obtain ⟨z1, z2, z3, z4⟩ := setCells_same (b := b) (nums .u8 (d.take 64)) 0 W
    refine ⟨_, _, hrun, ⟨by rw [nums_len, pad64_length], .inr ⟨b, 64, cur, rfl, Nat.le_refl _, hcur, Nat.le_refl _, by decide, by rw [hs64], ?_⟩⟩, ⟨z2, z3, z4, by rw [z1]; exact Nat.le_refl _, fun k hk hne => setCells_far _ _ W k hne⟩⟩
    rw [List.take_of_length_le (by rw [Array.length_toList, hs64]; exact Nat.le_refl _)]
    apply List.ext_getElem?
    intro j
    by_cases hj : j < 64
    · have hv := hbuf'.1 j _ (List.getElem?_eq_getElem (by rw [nums_len]; show j < (pad64 d).length; rw [pad64_length]; exact hj))
      rw [Nat.zero_add, cell_of_row _ b j _ 5 (0, 0) hcur] at hv
      rw [Array.getElem?_toList, hv, List.getElem?_eq_getElem (by rw [nums_len, pad64_length]; exact hj)]
      rfl
    · rw [List.getElem?_eq_none (by rw [Array.length_toList, hs64]; omega), List.getElem?_eq_none (by rw [nums_len, pad64_length]; omega)]

theorem info105' : (Try.prog.info? 105).map (fun i => (i.zero, i.size, i.bytes)) = some (some (.agg #[(.int .i64 0), (.slice none 0 0)]), 2, 32) := by kernel_rfl
/-- A list of writes that is read in every world that keeps all that was made since w. -/
def Made105 (w w' : World) (A : Option Addr) (n : Nat) (l : List S105) : Prop := ∀ (B : Nat → Prop) W', (∀ k, B k → k < w.heap.size) → Fr B w' W' → Kd.C k105 W' A n l

set_option maxHeartbeats 8000000 in
set_option maxRecDepth 100000 in
theorem tame_calls (A : Option Addr) (cp n : Nat) (l : List S105) (w : World) (hn : l.length = n) (hn9 : n ≤ 9223372036854775807) (hl : Kd.C k105 w A n l) :
    Calls Try.prog 30 #[.slice A n cp] w fun e w' => ∃ A' c', e = .returned (.slice A' (tameL l).length c') ∧ (tameL l).length ≤ c' ∧ Made105 w w' A' (tameL l).length (tameL l) ∧ Fr (fun _ => False) w w' := by
  have hmk := make64
  have HL := Aside0.mk hl
  have HN := Aside0.mk hn
  have HR0 : Aside0 (Kd.R k105 105 w w.heap.size (fun b => w.heap.size ≤ b) (.slice none 0 0) ((l.take 0).map tameX)) := ⟨Kd.R_nil _ _ _ _ _⟩
  have HB0 := Aside0.mk (Below.refl w.heap.size w)
  clear hl hn
  go_enter Try.func30, Try.ntmps30
  go_wp2_with fail
  obtain ⟨N, hN⟩ : ∃ N, min n 20 = N := ⟨_, rfl⟩
  go_loopg [3, 4] N (fun kq v3 v4 W => ∃ (k : Nat), v4 = .int .i64 (k : Int) ∧ Aside0 (k + kq = N) ∧ Aside0 (Kd.R k105 105 W w.heap.size (fun b => w.heap.size ≤ b) v3 ((l.take k).map tameX)) ∧ Aside0 (Below w.heap.size w W))
  case atStart => exact ⟨0, rfl, ⟨by omega⟩, HR0, HB0⟩
  case round =>
    clear HR0 HB0
    obtain ⟨k, rfl, HI, HR, HB⟩ := hrel
    have hk0 : (0 : Int) ≤ (k : Int) := by omega
    cases gk with
    | zero =>
      have hk2 : (n : Int) ≤ k ∨ ((k : Int) < n ∧ k = 20) := by have := HI.out; omega
      have HT : Aside0 ((l.take k).map tameX = tameL l) := ⟨by
        unfold tameL
        rcases hk2 with h | ⟨_, h⟩
        · rw [List.take_of_length_le (by rw [HN.out]; omega), List.take_of_length_le (by rw [HN.out]; have := HI.out; omega)]
        · rw [h]⟩
      have HE : Aside0 (∃ A' c', u3 = .slice A' (tameL l).length c' ∧ (tameL l).length ≤ c' ∧ Made105 w wr A' (tameL l).length (tameL l)) := ⟨by
        have hr := HR.out
        rw [HT.out] at hr
        obtain ⟨A', c', e', hcap, _⟩ := Kd.R_reads hr
        refine ⟨A', c', e', hcap, fun B W' hB f' => ?_⟩
        have h2 := Kd.R_step (w1 := W') hr (fun b hb hlt => f'.keep b hlt (fun h => by have := hB b h; omega))
        obtain ⟨A2, c2, e2, _, hC⟩ := Kd.R_reads h2
        rw [e'] at e2
        injection e2 with e3 _ _
        subst e3
        exact hC⟩
      clear hN HR
      rcases hk2 with hk2 | ⟨hk2, hk3⟩
      rotate_left
      subst hk3
      all_goals (
        go_wp2_with fail
        go_ret
        obtain ⟨A', c', rfl, hcap, hm⟩ := HE.out
        exact ⟨A', c', rfl, hcap, hm, Fr.of_below HB.out _⟩)
    | succ k1 =>
      have hk1 : (k : Int) < (n : Int) := by have := HI.out; omega
      have hk2 : (k : Int) < 20 := by have := HI.out; omega
      have HI3 : Aside0 (k + 1 + k1 = N) := ⟨by have := HI.out; omega⟩
      obtain ⟨x, hx⟩ : ∃ x, l[k]? = some x := ⟨_, List.getElem?_eq_getElem (by rw [HN.out]; omega)⟩
      obtain ⟨ad, A1, c1, rfl, g1, g2, g3, g4⟩ := at_T105 HL.out (k : Int) (by omega) (by omega)
      have hrd : rd_T105 l (k : Int) = x := by
        unfold rd_T105
        rw [Int.toNat_natCast, List.getD_eq_getElem?_getD, hx]
        rfl
      rw [hrd, Int.toNat_natCast] at g1
      rw [hrd, Int.toNat_natCast] at g2
      rw [hrd] at g4
      have G1 := Aside0.mk g1
      have G2 := Aside0.mk g2
      have wa : Below wr.heap.size wr (wr.alloc (.cells (nums .u8 zeros64).toArray 5)) := (Below.refl _ _).alloc (Nat.le_refl _) _
      have hba : Below w.heap.size w (wr.alloc (.cells (nums .u8 zeros64).toArray 5)) := HB.out.trans (wa.mono HB.out.size)
      have CP := copy_pad (wr.alloc (.cells (nums .u8 zeros64).toArray 5)) wr.heap.size x.f1 A1 c1 22 (heap_alloc_new _ _) (Kd.C_below g4 hba)
      obtain ⟨cv, W2, hrun, hown, hfr⟩ := CP
      have HRUN := Aside0.mk hrun
      obtain ⟨m, hm8, hm⟩ := rest8 x.f0
      have HM : Aside0 (tameS x.f0 = (m : Int)) := ⟨hm⟩
      have HB2 : Aside0 (Below w.heap.size w W2) := ⟨((Fr.of_below hba (fun _ => False)).trans hfr (fun b h => .inr (by rw [h]; exact HB.out.size))).below (fun _ h => h.elim) (Nat.le_refl _)⟩
      have HR2 : Aside0 (Kd.R k105 105 W2 w.heap.size (fun b => w.heap.size ≤ b ∧ b ≠ wr.heap.size) u3 ((l.take k).map tameX)) := ⟨by
        have h1 : Kd.R k105 105 wr w.heap.size (fun b => w.heap.size ≤ b ∧ b < wr.heap.size) u3 ((l.take k).map tameX) := Kd.R_mono (Kd.R_bound HR.out) (fun b h => ⟨h.1, h.2.2.1⟩)
        have h2 := Kd.R_step (w1 := W2) h1 (fun b hb hlt => (hfr.keep b (by simp; omega) (by omega)).trans (wa.block b hlt))
        exact Kd.R_mono h2 (fun b h => ⟨h.1, by omega⟩)⟩
      have HP : Aside0 (Kd.R (Kd.int .u8) 5 W2 w.heap.size (fun b => b = wr.heap.size) (.slice (some ⟨wr.heap.size, 0, none⟩) 64 64) (pad64 x.f1)) := ⟨Kd.R_of_own (enc := Value.int .u8) (h1 := fun _ => rfl) (by rw [pad64_length]; exact own_weaken hown HB.out.size) (fun b e => by cases e; rfl)⟩
      have HLT : Aside0 (wr.heap.size < W2.heap.size) := ⟨by have := hfr.size; simp at this; omega⟩
      have HX := Aside0.mk hx
      clear g1 g2 g3 g4 hrd hx wa hrun hown hfr HR
      have g1 := cellK (Fr.of_below hba (fun _ => False)) G1.out
      have g2 := cellK (Fr.of_below hba (fun _ => False)) G2.out
      have g1' := cellK (Fr.of_below HB2.out (fun _ => False)) G1.out
      clear hba
      have HPM : Aside0 (k105.M W2 w.heap.size (fun b => b = wr.heap.size) (tameX x) [.int .i64 (m : Int), .slice (some ⟨wr.heap.size, 0, none⟩) 64 64]) := ⟨by
        have h1 := k105_mkM W2 w.heap.size (fun b => b = wr.heap.size) (tameX x) HP.out
        rwa [show (tameX x).f0 = (m : Int) from HM.out] at h1⟩
      have HRR : Aside0 (Kd.R k105 105 W2 w.heap.size (fun b => w.heap.size ≤ b) u3 ((l.take k).map tameX)) := ⟨Kd.R_mono HR2.out (fun b h => h.1)⟩
      have HOK : Aside0 (∀ b, b = wr.heap.size → w.heap.size ≤ b ∧ some b ≠ u3.ownBlock) := ⟨fun b e => ⟨by rw [e]; exact HB.out.size, fun e' => (HR2.out.1 b e'.symm).2 e⟩⟩
      go_wp2_with (first
        | ((with_reducible refine gate_builtin (b := .copy) (xs := #[.tmp 17, .tmp 22]) rfl ?_); refine wp_copy_run' _ rfl (.tmp 17) (.tmp 22) 22 22 rfl _ _ rfl rfl HRUN.out ?_)
        | ((with_reducible refine gate_builtin (b := .append) (xs := #[.tmp 24, .tmp 35]) rfl ?_); refine Kd.R_append k105 (w0 := w) (W := W2) w.heap.size rfl (.tmp 24) (.tmp 35) 55 105 _ 32 rfl Try.underlying55 info105' rfl (by decide) (by decide) u3 _ (tameX x) _ _ _ rfl rfl HPM.out HOK.out (fun b h => Nat.le_trans HB2.out.size h) HRR.out HB2.out HB2.out.size (by rw [List.length_map, List.length_take]; omega) ?_; intro v8 W8 h1 h2 h3 h4))
      have HR8 : Aside0 (Kd.R k105 105 W8 w.heap.size (fun b => w.heap.size ≤ b) v8 ((l.take (k + 1)).map tameX)) := ⟨by
        obtain ⟨hlt, hget⟩ := List.getElem?_eq_some_iff.1 HX.out
        rw [List.take_succ_eq_append_getElem hlt, hget, List.map_append]
        exact h1⟩
      have HB8 := Aside0.mk h2
      clear h1 h2 h3 h4 g1 g2 g1' hm
      go_roundg k1
      case measure => omega
      case rel => exact ⟨k + 1, by go_num, HI3, HR8, HB8⟩
end Go.Proofs.Ytppgbfkhiofjiaa.X
