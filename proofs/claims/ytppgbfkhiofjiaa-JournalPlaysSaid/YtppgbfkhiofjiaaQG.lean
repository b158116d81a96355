/-
  Of the proof of JournalPlays (put together by wip/tools/mkclaimj.py):
  The reference's journal: the contract of steps.
  The reference's journal: the contract of Commit.
  The reference's journal: the lemmas for the contract of Open.
-/
import Derived.Test.YtppgbfkhiofjiaaQF
namespace Go.Proofs.Ytppgbfkhiofjiaa.X
open Go.RowKit Go.Proofs.YtppgbfkhiofjiaaW.PrintWords Go.Proofs.YtppgbfkhiofjiaaW.PrintLast Go.Proofs.YtppgbfkhiofjiaaW.PrintMore Go.Proofs.Ytppgbfkhiofjiaa.Y
set_option linter.unusedVariables false
set_option linter.unusedSimpArgs false

theorem chunk_step {l : List S105} {k n : Nat} {x : S105} (hx : l[k]? = some x) (hn : l.length = n) (h64 : x.f1.length = 64) (D : DS) :
    writesD (chunkD (5 + k) (n - k) (dataL (jw (l.drop k)))) D = seqD (writeD D (5 + k) x.f1) (writesD (chunkD (5 + ((k + 1 : Nat) : Int)) (n - (k + 1)) (dataL (jw (l.drop (k + 1)))))) := by
  obtain ⟨hlt, hget⟩ := List.getElem?_eq_some_iff.1 hx
  have e1 : dataL (jw (l.drop k)) = x.f1 ++ dataL (jw (l.drop (k + 1))) := by
    rw [List.drop_eq_getElem_cons hlt, hget]
    rfl
  have e2 : n - k = (n - (k + 1)) + 1 := by omega
  rw [e1, e2, chunkD, ← h64, List.take_left, List.drop_left, show (5 + ((k + 1 : Nat) : Int)) = 5 + (k : Int) + 1 by omega]
  rfl
theorem pl_take {l : List S105} {k : Nat} {x : S105} (hx : l[k]? = some x) : placesL (jw (l.take (k + 1))) = placesL (jw (l.take k)) ++ fourL x.f0 ∧ dataL (jw (l.take (k + 1))) = dataL (jw (l.take k)) ++ x.f1 := by
  obtain ⟨hlt, hget⟩ := List.getElem?_eq_some_iff.1 hx
  rw [List.take_succ_eq_append_getElem hlt, hget]
  constructor <;> simp [placesL, dataL, jw]
theorem pl_len (l : List S105) : (placesL (jw l)).length = l.length * 4 := by rw [placesL_length]; simp [jw]
theorem dl_len {l : List S105} (h : ∀ x ∈ l, x.f1.length = 64) : (dataL (jw l)).length = l.length * 64 := by
  induction l with
  | nil => rfl
  | cons x l ih =>
    show (x.f1 ++ dataL (jw l)).length = _
    rw [List.length_append, ih (fun y hy => h y (by simp [hy])), h x (by simp), List.length_cons]
    omega

theorem RSw.fresh5 {w W : World} {R R' : Nat → Prop} {r : Nat} {v5 v6 : Value} {p d : List Int} {D : DS} (h : RSw w W R R' r v5 v6 p d D) : ∀ k, W.heap.size ≤ k → ¬ R' k ∧ some k ≠ v6.ownBlock := fun k hk =>
  ⟨fun hR => by have := h.1.lt k hR; omega, fun e => by have := own_lt (Kd.own_of_R h.2.2.2.2) k e.symm; omega⟩
theorem RSw.fresh6 {w W : World} {R R' : Nat → Prop} {r : Nat} {v5 v6 : Value} {p d : List Int} {D : DS} (h : RSw w W R R' r v5 v6 p d D) : ∀ k, W.heap.size ≤ k → ¬ R' k ∧ some k ≠ v5.ownBlock := fun k hk =>
  ⟨fun hR => by have := h.1.lt k hR; omega, fun e => by have := own_lt (Kd.own_of_R h.2.2.2.1) k e.symm; omega⟩
theorem RSw.r6 {w W : World} {R R' : Nat → Prop} {r : Nat} {v5 v6 : Value} {p d : List Int} {D : DS} (h : RSw w W R R' r v5 v6 p d D) : Kd.R (Kd.int .u8) 5 W w.heap.size (fun b => ¬ R' b ∧ some b ≠ v5.ownBlock) v6 d :=
  Kd.R_of_own (h1 := fun _ => rfl) (Kd.own_of_R h.2.2.2.2) (fun b e => ⟨h.2.2.2.2.1 b e, fun e' => (h.2.2.2.1.1 b e'.symm).2 e.symm⟩)
/-- What comes behind the data. -/
def restD (l : List S105) : DS → Int × DS := runD [writesD (chunkD 1 (padN l.length) (padL l.length (placesL (jw l)))), flushD, laysD (headL l.length (sumV (placesL (jw l) ++ dataL (jw l)))), finishD (jw l)]
theorem rest_eq (l : List S105) (D : DS) : restD l D = seqD (writesD (chunkD 1 (padN l.length) (padL l.length (placesL (jw l)))) D) (fun D => seqD (flushD D) (fun D => seqD (laysD (headL l.length (sumV (placesL (jw l) ++ dataL (jw l)))) D) (finishD (jw l)))) := by
  unfold restD
  show seqD _ (runD [flushD, laysD _, finishD (jw l)]) = _
  congr 1
  funext D
  show seqD _ (runD [laysD _, finishD (jw l)]) = _
  congr 1
  funext D
  show seqD _ (runD [finishD (jw l)]) = _
  congr 1
  funext D
  exact seqD_nil _
theorem RSw.head {w wd W w4 : World} {R R' : Nat → Prop} {r i : Nat} {v5 v6 : Value} {p d : List Int} {D : DS} {Ah : Option Addr} {ch : Nat} {a s : Int} (h : RSw w wd R R' r v5 v6 p d D) (ho : JOk i D) (hi : i ≤ 1000000) (f : Fr (fun _ => False) wd W)
    (hR : Kd.R (Kd.int .u8) 5 w4 W.heap.size (fun _ => True) (.slice Ah 64 ch) (headL a s)) (hb : Below W.heap.size W w4) : RSw w w4 R R' r v5 v6 p d D ∧ ∀ W1, Fr (fun _ => False) w4 W1 → Calls Try.prog 50 #[.pointer (some ⟨r, 0, none⟩), .int .i64 0, .slice Ah 64 ch] W1 fun e w' => e = .returned (.int .i64 (writeD D 0 (headL a s)).1) ∧ ∃ R2, RSw w w' R R2 r v5 v6 p d (writeD D 0 (headL a s)).2 := by
  have h4 := (h.quiet f).quiet (Fr.of_below hb (fun _ => False))
  obtain ⟨A', c', e', hcap, hC⟩ := Kd.R_reads hR
  rw [headL_length] at e' hC hcap
  injection e' with e1 _ e2
  subst e1 e2
  refine ⟨h4, fun W1 f1 => h4.write ho hi 0 Ah ch 64 (headL a s) (headL_length a s) hC hcap (fun ad e h9 hRk => ?_) f1⟩
  subst e
  obtain ⟨inner, ho⟩ := Kd.R_own hR
  have h1 := own_base ho ad.block rfl
  have h2 := h.1.lt _ hRk
  have h3 := f.size
  omega
theorem cut64' (A : Addr) (m cp k : Nat) (hk : k * 64 + 64 ≤ cp) (W : World) :
    (Instr.slice 22 (.slice (some A) m cp) (some (.int .i64 (64 * (k : Int)))) (some (.int .i64 (64 * (k : Int) + 64))) none).run Try.prog W = .ok (.slice (some (A.add (k * 64))) 64 (cp - k * 64)) W := by
  rw [Int.mul_comm]
  exact cut64 A m cp k hk W
theorem com_rest (l : List S105) (D : DS) : commitD (jw l) D = seqD (writesD (chunkD 5 l.length (dataL (jw l))) D) (restD l) := by
  unfold commitD restD
  rw [show (jw l).length = l.length by simp [jw]]
  rfl

set_option maxHeartbeats 8000000 in
set_option maxRecDepth 100000 in
theorem rsteps_calls (mb r : Nat) (dn : Bool) (R : Nat → Prop) (D : DS) (A : Option Addr) (cp n : Nat) (l : List S105) (w : World) (i : Nat) (h : IsRef w R r D) (hlog : IsRLog w mb r dn) (hmb : ¬ R mb) (ho : JOk i D) (hi : i ≤ 200000) (hn : l.length = n) (hn1 : n ≤ 64)
    (hl : ∀ W, Fr R w W → Kd.C k105 W A n l) (hr : ∀ x ∈ l, 0 ≤ x.f0 ∧ x.f0 ≤ 1000000 ∧ x.f1.length = 64) :
    Calls Try.prog 89 #[.pointer (some ⟨mb, 0, none⟩), .slice A n cp] w fun e w' => e = .returned (.int .i64 (commitD (jw l) D).1) ∧ RMoved w R r w' (commitD (jw l) D).2 := by
  have HN := Aside0.mk hn
  have HL := Aside0.mk hl
  have HR := Aside0.mk hr
  have H0 : Aside0 (∃ D' R', RSw w w R R' r (.slice none 0 0) (.slice none 0 0) (placesL (jw (l.take 0))) (dataL (jw (l.take 0))) D' ∧ JOk (i + 0) D' ∧ writesD (chunkD 5 n (dataL (jw l))) D = writesD (chunkD (5 + ((0 : Nat) : Int)) (n - 0) (dataL (jw (l.drop 0)))) D') := ⟨⟨D, R, RSw.start h, ho, by rw [List.drop_zero]; rfl⟩⟩
  have C0 : Aside0 (∀ W, Fr R w W → W.cell? ⟨mb, 0, none⟩ = some (.pointer (some ⟨r, 0, none⟩))) := ⟨fun W f => cellB f hmb hlog.cells.1⟩
  have c0 := hlog.cells.1
  have HI0 := Aside0.mk hi
  have HCR : Aside0 (commitD (jw l) D = seqD (writesD (chunkD 5 n (dataL (jw l))) D) (restD l)) := ⟨by rw [com_rest, hn]⟩
  clear hl hr hn h ho hi hlog hmb
  go_enter Try.func89, Try.ntmps89
  go_wp2_with fail
  go_loopg [5, 6, 7, 8] n (fun kq v5 v6 v7 v8 W => ∃ (k : Nat), v7 = .int .i64 (k : Int) ∧ Aside0 (k + kq = n) ∧ Aside0 (∃ D' R', RSw w W R R' r v5 v6 (placesL (jw (l.take k))) (dataL (jw (l.take k))) D' ∧ JOk (i + k) D' ∧ writesD (chunkD 5 n (dataL (jw l))) D = writesD (chunkD (5 + (k : Int)) (n - k) (dataL (jw (l.drop k)))) D'))
  case atStart => exact ⟨0, rfl, ⟨by omega⟩, H0⟩
  case round =>
    clear H0
    obtain ⟨k, rfl, HI, H1⟩ := hrel
    have hk0 : (0 : Int) ≤ (k : Int) := by omega
    cases gk with
    | zero =>
      have hk : k = n := by have := HI.out; omega
      subst hk
      obtain ⟨D1, R1, hS, ho, he⟩ := H1.out
      rw [List.take_of_length_le (by rw [HN.out]; exact Nat.le_refl _)] at hS
      have he2 : writesD (chunkD 5 k (dataL (jw l))) D = (0, D1) := by rw [he, Nat.sub_self]; rfl
      obtain ⟨A5, c5, rfl, hc5, C5⟩ := Kd.R_reads hS.2.2.2.1
      obtain ⟨A6, c6, rfl, hc6, C6⟩ := Kd.R_reads hS.2.2.2.2
      have hlp : (placesL (jw l)).length = k * 4 := by rw [pl_len, HN.out]
      have hld : (dataL (jw l)).length = k * 64 := by rw [dl_len (fun y hy => (HR.out y hy).2.2), HN.out]
      rw [hlp] at C5 hc5 hS ⊢
      rw [hld] at C6 hc6 hS ⊢
      have HS1 := Aside0.mk hS
      have HJ1 := Aside0.mk ho
      have HE1 : Aside0 (commitD (jw l) D = restD l D1) := ⟨by rw [HCR.out, he2]; rfl⟩
      have HC5 := Aside0.mk C5
      have HC6 := Aside0.mk C6
      have HLP := Aside0.mk hlp
      have HLD := Aside0.mk hld
      have HO0 : Aside0 (Kd.R (Kd.int .u8) 5 (wr.alloc (.cells #[] 5)) wr.heap.size (fun b => wr.heap.size ≤ b) (.slice (some ⟨wr.heap.size, 0, none⟩) 0 0) ([] : List Int)) := ⟨Kd.R_of_own (enc := Value.int .u8) (h1 := fun _ => rfl) ⟨rfl, .inr ⟨wr.heap.size, 0, #[], rfl, Nat.le_refl _, heap_alloc_new _ _, Nat.le_refl _, by decide, rfl, rfl⟩⟩ (fun b e => by cases e; exact Nat.le_refl _)⟩
      have HB0 : Aside0 (Below wr.heap.size wr (wr.alloc (.cells #[] 5))) := ⟨(Below.refl _ _).alloc (Nat.le_refl _) _⟩
      have hk64 : k ≤ 64 := hn1
      clear hS ho he he2 C5 C6 H1
      go_wp2_with (first
        | ((with_reducible refine gate_builtin (b := .append) (xs := #[.tmp 50, .tmp 51]) rfl ?_); at_builtin; refine Kd.R_append_rows (Kd.int .u8) (w0 := wr) wr.heap.size rfl (.tmp 50) (.tmp 51) 22 5 (.int .u8 0) 1 rfl Try.underlying22 info5 rfl (by decide) (by omega) _ [] (placesL (jw l)) _ _ _ (fun b => wr.heap.size ≤ b) (fun _ => False) rfl rfl HO0.out (Kd.C_below HC5.out HB0.out) (fun _ _ h => h) (fun _ h => h.elim) (fun b h => Nat.le_trans HB0.out.size h) HB0.out HB0.out.size (by simp only [List.length_nil]; omega) ?_; intro va wa q1 q2 q3 q4; have HRA := Aside0.mk q1; have HBA := Aside0.mk q2; clear q1 q2 q3 q4 HO0 HB0)
        | ((with_reducible refine gate_builtin (b := .append) (xs := #[.tmp 52, .tmp 53]) rfl ?_); at_builtin; refine Kd.R_append_rows (Kd.int .u8) (w0 := wr) wr.heap.size rfl (.tmp 52) (.tmp 53) 22 5 (.int .u8 0) 1 rfl Try.underlying22 info5 rfl (by decide) (by omega) va ([] ++ placesL (jw l)) (dataL (jw l)) _ _ _ (fun b => wr.heap.size ≤ b) (fun _ => False) rfl rfl HRA.out (Kd.C_below HC6.out HBA.out) (fun _ _ h => h) (fun _ h => h.elim) (fun b h => Nat.le_trans HBA.out.size h) HBA.out HBA.out.size (by rw [List.nil_append, HLP.out]; omega) ?_; intro vb wb q1 q2 q3 q4; obtain ⟨Ab, cb, rfl, hcb, Cb⟩ := Kd.R_reads q1; have HBB := Aside0.mk q2; have SM := Aside0.mk (rsum_calls Ab cb _ wb Cb hcb); clear q1 q2 q3 q4 HRA HBA hcb Cb))
      obtain ⟨s, hs⟩ : ∃ s, sumV (placesL (jw l) ++ dataL (jw l)) = s := ⟨_, rfl⟩
      have HSV := Aside0.mk hs
      have SM := SM.out
      rw [List.nil_append, List.length_append, HLP.out, HLD.out, hs] at SM
      have SM := Aside0.mk SM
      have HSB := Aside0.mk (HS1.out.quiet (Fr.of_below HBB.out _))
      clear HS1 hs HBB HC5 HC6
      go_wp2_with fail
      refine SM.out.mono ?_
      rintro e wc ⟨rfl, fc⟩
      have HSC := Aside0.mk (HSB.out.quiet fc)
      clear fc SM HSB
      go_wp2_with fail
      obtain ⟨J, hJ⟩ : ∃ J, (64 - (k * 4) % 64) % 64 = J := ⟨_, rfl⟩
      have H5 : Aside0 (∃ A c, (Value.slice A5 (k * 4) c5) = .slice A (k * 4 + 0) c ∧ k * 4 + 0 ≤ c ∧ RSw w wc R R1 r (.slice A (k * 4 + 0) c) (.slice A6 (k * 64) c6) (placesL (jw l) ++ List.replicate 0 0) (dataL (jw l)) D1) := ⟨A5, c5, rfl, hc5, by rw [List.replicate_zero, List.append_nil]; exact HSC.out⟩
      clear HSC
      go_loopg [5] J (fun kq v5 W => ∃ (j : Nat), Aside0 (j + kq = J) ∧ Aside0 (∃ A c, v5 = .slice A (k * 4 + j) c ∧ k * 4 + j ≤ c ∧ RSw w W R R1 r (.slice A (k * 4 + j) c) (.slice A6 (k * 64) c6) (placesL (jw l) ++ List.replicate j 0) (dataL (jw l)) D1))
      case atStart => exact ⟨0, ⟨by omega⟩, H5⟩
      case round =>
        clear H5
        obtain ⟨j, HJI, HQ⟩ := hrel
        obtain ⟨Aq, cq, rfl, hcq, hQ⟩ := HQ.out
        have HQ2 := Aside0.mk hQ
        clear hQ HQ
        cases gk with
        | zero =>
          have hj : j = J := by have := HJI.out; omega
          have hmod0 : ((k : Int) * 4 + (j : Int)) % 64 = 0 := by omega
          have hmod : (((k : Int) * 4 + (j : Int)) % 64 != 0) = false := by simpa using hmod0
          clear hmod0
          obtain ⟨T, hT⟩ : ∃ T, k * 4 + j = T := ⟨_, rfl⟩
          obtain ⟨P, hP⟩ : ∃ P, padN k = P := ⟨_, rfl⟩
          have hTP : T = P * 64 := by rw [← hT, ← hP]; unfold padN; omega
          have hP4 : P ≤ 4 := by rw [← hP]; unfold padN; omega
          obtain ⟨pl, hpl⟩ : ∃ pl, placesL (jw l) ++ List.replicate j 0 = pl := ⟨_, rfl⟩
          have hpn : pl.length = T := by rw [← hpl, ← hT, List.length_append, HLP.out, List.length_replicate]
          have HPAD : Aside0 (padL k (placesL (jw l)) = pl) := ⟨by rw [← hpl, hj, ← hJ]; rfl⟩
          have hq := HQ2.out
          rw [hpl, hT] at hq
          rw [hT] at hcq ⊢
          have hcast : ((k : Int) * 4 + (j : Int)) = (T : Int) := by omega
          have hmod2 : ((T : Int) % 64 != 0) = false := by rw [← hcast]; exact hmod
          have hdiv : (T : Int) / 64 = (P : Int) := by omega
          have hdiv2 : (T : Int).tdiv 64 = (P : Int) := by rw [Int.tdiv_eq_ediv_of_nonneg (by omega)]; exact hdiv
          have HPN := Aside0.mk hpn
          have HTP := Aside0.mk hTP
          have HPP := Aside0.mk hP
          have H7 : Aside0 (∃ D' R', RSw w wr R R' r (.slice Aq T cq) (.slice A6 (k * 64) c6) pl (dataL (jw l)) D' ∧ JOk (i + k + 0) D' ∧ writesD (chunkD 1 P pl) D1 = writesD (chunkD (1 + ((0 : Nat) : Int)) (P - 0) (pl.drop (0 * 64))) D') := ⟨⟨D1, R1, hq, HJ1.out, by rw [Nat.zero_mul, List.drop_zero]; rfl⟩⟩
          clear hmod hj hJ HQ2 hq hT hpl hpn hcast hP
          go_wp2_with fail
          go_loopg [10, 11] P (fun kq v10 v11 W => ∃ (q : Nat), v10 = .int .i64 (q : Int) ∧ Aside0 (q + kq = P) ∧ Aside0 (∃ D' R', RSw w W R R' r (.slice Aq T cq) (.slice A6 (k * 64) c6) pl (dataL (jw l)) D' ∧ JOk (i + k + q) D' ∧ writesD (chunkD 1 P pl) D1 = writesD (chunkD (1 + (q : Int)) (P - q) (pl.drop (q * 64))) D'))
          case atStart => exact ⟨0, rfl, ⟨by omega⟩, H7⟩
          case round =>
            clear H7
            obtain ⟨q, rfl, HI7, H8⟩ := hrel
            have hq0 : (0 : Int) ≤ (q : Int) := by omega
            cases gk with
            | zero =>
              have hqP : q = P := by have := HI7.out; omega
              subst hqP
              clear hTP
              obtain ⟨D2, R2, hS2, ho2, he2⟩ := H8.out
              have he3 : writesD (chunkD 1 q pl) D1 = (0, D2) := by rw [he2, Nat.sub_self]; rfl
              have HE2 : Aside0 (commitD (jw l) D = seqD (flushD D2) (fun D => seqD (laysD (headL k s) D) (finishD (jw l)))) := ⟨by
                rw [HE1.out, rest_eq, HN.out, HPP.out, HPAD.out, he3, HSV.out]
                rfl⟩
              have FC := Aside0.mk (hS2.flush ho2 (by have := HI0.out; omega))
              have c0 := C0.out wr hS2.2.2.1
              have HJ2 := Aside0.mk ho2.flush
              obtain ⟨p, hp⟩ : ∃ p, flushD D2 = p := ⟨_, rfl⟩
              rw [hp] at FC HJ2 HE2
              obtain ⟨p1, D3⟩ := p
              clear hS2 ho2 he2 he3 H8 hp
              go_wp2_with fail
              refine FC.out.mono ?_
              rintro e wd ⟨rfl, hS3⟩
              have HS3 := Aside0.mk hS3
              clear hS3 FC c0
              by_cases hp1 : p1 = 0
              · subst hp1
                have c0 := C0.out wd HS3.out.2.2.1
                have HSR := sumV_range (placesL (jw l) ++ dataL (jw l))
                rw [HSV.out] at HSR
                have HC66 : Aside0 (∀ W, Fr (fun _ => False) wd W → Calls Try.prog 66 #[.int .i64 (k : Int), .int .u32 s] W fun e w4 => ∃ Ah ch, e = .returned (.slice Ah 64 ch) ∧ RSw w w4 R R2 r (.slice Aq T cq) (.slice A6 (k * 64) c6) pl (dataL (jw l)) D3 ∧ ∀ W1, Fr (fun _ => False) w4 W1 → Calls Try.prog 50 #[.pointer (some ⟨r, 0, none⟩), .int .i64 0, .slice Ah 64 ch] W1 fun e w' => e = .returned (.int .i64 (writeD D3 0 (headL k s)).1) ∧ ∃ R2, RSw w w' R R2 r (.slice Aq T cq) (.slice A6 (k * 64) c6) pl (dataL (jw l)) (writeD D3 0 (headL k s)).2) := ⟨fun W f => by
                  refine (rhead_calls k s W ⟨by omega, by omega⟩ HSR).mono ?_
                  rintro e w4 ⟨Ah, ch, rfl, hR, hb⟩
                  exact ⟨Ah, ch, rfl, HS3.out.head HJ2.out (by have := HI0.out; omega) f hR hb⟩⟩
                clear HSR
                go_wp2_with fail
                go_region_held3 (fun W => W.cell? ⟨mb, 0, none⟩ = some (.pointer (some ⟨r, 0, none⟩))) (first | exact c0 | exact S4.out | exact S5.out) (first
                  | (go_at_call 66; refine (HC66.out _ (Fr.refl _ _).drew).mono ?_; rintro e w4 ⟨Ah, ch, rfl, m4, hw⟩; have WH := Aside0.mk hw; have S4 := Aside0.mk (C0.out _ m4.2.2.1); clear m4 hw)
                  | (go_at_call 50; refine (WH.out _ (Fr.refl _ _)).mono ?_; rintro e w5 ⟨rfl, R5, m5⟩; have M5 := Aside0.mk m5; have S5 := Aside0.mk (C0.out _ m5.2.2.1); clear m5))
                clear c0 S4 S5 WH HC66
                have HJ4 := HJ2.out.write 0 (headL k s)
                have HE3 : Aside0 (commitD (jw l) D = seqD (seqD (writeD D3 0 (headL k s)) flushD) (finishD (jw l))) := ⟨by
                  rw [HE2.out]
                  show (if (0 : Int) = 0 then seqD (laysD (headL k s) D3) (finishD (jw l)) else (0, D3)) = _
                  rw [if_pos rfl, lays_eq]⟩
                obtain ⟨y, hy⟩ : ∃ y, writeD D3 0 (headL k s) = y := ⟨_, rfl⟩
                have M5 := M5.out
                rw [hy] at M5 HJ4 HE3 ⊢
                obtain ⟨y1, D4⟩ := y
                have M5 := Aside0.mk M5
                have HJ4 := Aside0.mk HJ4
                clear hy HE2 HS3
                by_cases hy1 : y1 = 0
                · subst hy1
                  have c0 := C0.out w5 M5.out.2.2.1
                  have FC := Aside0.mk (M5.out.flush HJ4.out (by have := HI0.out; omega))
                  have HJ5 := HJ4.out.flush
                  obtain ⟨z, hz⟩ : ∃ z, flushD D4 = z := ⟨_, rfl⟩
                  have HE4 : Aside0 (commitD (jw l) D = seqD z (finishD (jw l))) := ⟨by
                    rw [HE3.out]
                    show seqD (if (0 : Int) = 0 then flushD D4 else (0, D4)) (finishD (jw l)) = _
                    rw [if_pos rfl, hz]⟩
                  rw [hz] at FC HJ5
                  obtain ⟨z1, D5⟩ := z
                  have HJ5 := Aside0.mk HJ5
                  clear hz HE3
                  go_wp2_with fail
                  refine FC.out.mono ?_
                  rintro e w6 ⟨rfl, hS6⟩
                  have HS6 := Aside0.mk hS6
                  clear hS6 FC c0 M5
                  by_cases hz1 : z1 = 0
                  · subst hz1
                    have c0 := C0.out w6 HS6.out.2.2.1
                    have DC := Aside0.mk (rdone_calls r R5 D5 A cp k l w6 _ HS6.out.1 HJ5.out (by have := HI0.out; omega) HN.out (fun W f => HL.out W (HS6.out.2.2.1.trans f HS6.out.2.1)) (fun x hx => ⟨(HR.out x hx).1, (HR.out x hx).2.1⟩))
                    have HE5 : Aside0 (commitD (jw l) D = finishD (jw l) D5) := ⟨by rw [HE4.out]; rfl⟩
                    go_wp2_with fail
                    refine DC.out.mono ?_
                    rintro e w7 ⟨rfl, m7⟩
                    have M7 := Aside0.mk (m7.back HS6.out.2.1 HS6.out.2.2.1)
                    clear m7 DC
                    go_wp2_with fail
                    go_ret
                    rw [HE5.out]
                    exact ⟨rfl, M7.out⟩
                  · have hz2 : (z1 != 0) = true := by simpa using hz1
                    go_wp2_with fail
                    go_ret
                    rw [HE4.out, seqD, if_neg hz1]
                    exact ⟨rfl, HS6.out.moved⟩
                · have hy2 : (y1 != 0) = true := by simpa using hy1
                  have HE4 : Aside0 (commitD (jw l) D = (y1, D4)) := ⟨by
                    rw [HE3.out]
                    show seqD (if y1 = 0 then flushD D4 else (y1, D4)) (finishD (jw l)) = _
                    rw [if_neg hy1]
                    show (if y1 = 0 then _ else _) = _
                    rw [if_neg hy1]⟩
                  go_wp2_with fail
                  go_ret
                  rw [HE4.out]
                  exact ⟨rfl, M5.out.moved⟩
              · have hp2 : (p1 != 0) = true := by simpa using hp1
                go_wp2_with fail
                go_ret
                rw [HE2.out, seqD, if_neg hp1]
                exact ⟨rfl, HS3.out.moved⟩
            | succ kq1 =>
              have hq1 : (q : Int) + 1 ≤ (P : Int) := by have := HI7.out; omega
              have hq2 : q < P := by omega
              have HI9 : Aside0 (q + 1 + kq1 = P) := ⟨by have := HI7.out; omega⟩
              obtain ⟨D', R', hS, ho, he⟩ := H8.out
              obtain ⟨A', c', e', hcap, hC⟩ := Kd.R_reads hS.2.2.2.1
              rw [HPN.out] at e' hcap hC
              injection e' with e1 _ e2
              subst e1 e2
              have hT1 : q * 64 + 64 ≤ T := by omega
              obtain ⟨ad, hAq, _⟩ := hC.2.2 (by omega)
              subst hAq
              obtain ⟨Lk, hLk⟩ : ∃ Lk, (pl.drop (q * 64)).take 64 = Lk := ⟨_, rfl⟩
              have hlk : Lk.length = 64 := by rw [← hLk, List.length_take, List.length_drop, HPN.out]; omega
              have hCk : Kd.C (Kd.int .u8) wr (some (ad.add (q * 64))) 64 Lk := by
                have h1 := hC
                rw [← HPN.out] at h1
                have h2 := Kd.C_drop (c := pl.length + 1) h1 (m := q * 64) (by rw [HPN.out]; omega) (by omega)
                rw [if_neg (by rw [HPN.out]; omega)] at h2
                have h3 := Kd.C_take h2 (m := 64) (by rw [List.length_drop, HPN.out]; omega)
                rw [hLk, hlk] at h3
                have : (Kd.int IntKind.u8).sz = 1 := rfl
                simpa [this] using h3
              have hdis : ∀ a0, some (ad.add (q * 64)) = some a0 → 0 < 64 → ¬ R' a0.block := fun a0 e _ => by
                injection e with e
                subst e
                rw [add_block]
                exact (hS.2.2.2.1.1 ad.block rfl).1
              have HE9 : Aside0 (writesD (chunkD (1 + (q : Int)) (P - q) (pl.drop (q * 64))) D' = seqD (writeD D' (1 + q) Lk) (writesD (chunkD (1 + ((q + 1 : Nat) : Int)) (P - (q + 1)) (pl.drop ((q + 1) * 64))))) := ⟨by
                rw [show P - q = (P - (q + 1)) + 1 by omega, chunkD, hLk, List.drop_drop, show q * 64 + 64 = (q + 1) * 64 by omega, show 1 + (q : Int) + 1 = 1 + ((q + 1 : Nat) : Int) by omega]
                rfl⟩
              have HE8 := Aside0.mk he
              have WC : Aside0 (∀ W, Fr (fun _ => False) wr W → Calls Try.prog 50 #[.pointer (some ⟨r, 0, none⟩), .int .i64 (1 + (q : Int)), .slice (some (ad.add (q * 64))) 64 (cq - q * 64)] W fun e w' => e = .returned (.int .i64 (writeD D' (1 + q) Lk).1) ∧ ∃ R2, RSw w w' R R2 r (.slice (some ad) T cq) (.slice A6 (k * 64) c6) pl (dataL (jw l)) (writeD D' (1 + q) Lk).2) := ⟨fun W f => hS.write ho (by have := HI0.out; omega) (1 + q) (some (ad.add (q * 64))) (cq - q * 64) 64 Lk hlk hCk (by omega) hdis f⟩
              have HO9 := Aside0.mk (ho.write (1 + (q : Int)) Lk)
              have c0 := C0.out wr hS.2.2.1
              have q9 := cut64' ad T cq q (by omega)
              have q1 : IntKind.i64.wrap (64 * (q : Int)) = 64 * (q : Int) := IntWalk.i64_in _ (by omega)
              have q2 : IntKind.i64.wrap (64 * (q : Int) + 64) = 64 * (q : Int) + 64 := IntWalk.i64_in _ (by omega)
              have q3 : IntKind.i64.wrap (1 + (q : Int)) = 1 + q := IntWalk.i64_in _ (by omega)
              have q4 : IntKind.i64.wrap (q : Int) = q := IntWalk.i64_in _ (by omega)
              clear hS ho he H8 hC hLk hCk hdis hlk hcap hTP
              go_wp2_with fail
              go_region_held3 (fun W => W.cell? ⟨mb, 0, none⟩ = some (.pointer (some ⟨r, 0, none⟩))) (first | exact c0 | exact S5.out) (first
                | (go_at_call 50; refine (WC.out _ (Fr.refl _ _).drew).mono ?_; rintro e w2 ⟨rfl, R2, m⟩; have M := Aside0.mk m; have S5 := Aside0.mk (C0.out _ m.2.2.1); clear m))
              clear q9 q1 q2 q3 q4 WC c0 S5
              obtain ⟨e0, he0⟩ : ∃ e0, (writeD D' (1 + q) Lk).1 = e0 := ⟨_, rfl⟩
              have HE0 := Aside0.mk he0
              rw [he0]
              clear he0
              by_cases hz : e0 = 0
              · subst hz
                have H9 : Aside0 (∃ D' R', RSw w w2 R R' r (.slice (some ad) T cq) (.slice A6 (k * 64) c6) pl (dataL (jw l)) D' ∧ JOk (i + k + (q + 1)) D' ∧ writesD (chunkD 1 P pl) D1 = writesD (chunkD (1 + ((q + 1 : Nat) : Int)) (P - (q + 1)) (pl.drop ((q + 1) * 64))) D') := ⟨⟨_, R2, M.out, HO9.out, by rw [HE8.out, HE9.out, seqD, if_pos HE0.out]⟩⟩
                clear M HO9 HE8 HE9 HE0
                go_wp2_with fail
                go_roundg kq1
                case measure => omega
                case rel => exact ⟨q + 1, by go_num, HI9, H9⟩
              · have hne : ¬ (writeD D' (1 + q) Lk).1 = 0 := by rw [HE0.out]; exact hz
                have hq : Aside0 (commitD (jw l) D = writeD D' (1 + q) Lk) := ⟨by
                  rw [HE1.out, rest_eq, HN.out, HPP.out, HPAD.out, HE8.out, HE9.out, seqD, seqD, if_neg hne, if_neg hne]⟩
                have e1 : (e0 != 0) = true := by simpa using hz
                clear HE8 HE9 HO9 hne
                go_wp2_with fail
                go_ret
                rw [hq.out]
                exact ⟨by rw [HE0.out]; rfl, M.out.moved⟩
        | succ kq1 =>
          have hj : j < J := by have := HJI.out; omega
          have hmod0 : ((k : Int) * 4 + (j : Int)) % 64 ≠ 0 := by omega
          have hmod : (((k : Int) * 4 + (j : Int)) % 64 != 0) = true := by simpa using hmod0
          clear hmod0
          have HMJ : Aside0 (j + 1 + kq1 = J) := ⟨by have := HJI.out; omega⟩
          have hj64 : j ≤ 64 := by omega
          have HQA := Aside0.mk (HQ2.out.quiet ((Fr.refl (fun _ => False) wr).alloc (.cells #[.int .u8 0] 5)))
          have HCZ : Aside0 (Kd.C (Kd.int .u8) (wr.alloc (.cells #[.int .u8 0] 5)) (some ⟨wr.heap.size, 0, none⟩) 1 [0]) := ⟨(IsBytes.new wr [0]).C (by decide)⟩
          have hlr : (placesL (jw l) ++ List.replicate j 0).length = k * 4 + j := by rw [List.length_append, HLP.out, List.length_replicate]
          have HLR := Aside0.mk hlr
          clear hJ hlr HQ2
          go_wp2_with ((with_reducible refine gate_builtin (b := .append) (xs := #[.tmp 60, .tmp 61]) rfl ?_); at_builtin; refine Kd.R_append_rows (Kd.int .u8) (w0 := wr.alloc (.cells #[.int .u8 0] 5)) w.heap.size rfl (.tmp 60) (.tmp 61) 22 5 (.int .u8 0) 1 rfl Try.underlying22 info5 rfl (by decide) (by omega) (.slice Aq (k * 4 + j) cq) (placesL (jw l) ++ List.replicate j 0) [0] _ _ _ (fun b => ¬ R1 b ∧ some b ≠ (Value.slice A6 (k * 64) c6).ownBlock) (fun _ => False) rfl rfl HQA.out.2.2.2.1 HCZ.out (fun _ _ h => h) (fun _ h => h.elim) HQA.out.fresh5 (Below.refl _ _) HQA.out.2.2.1.size (by rw [HLR.out]; omega) ?_; intro vn wn q1 q2 q3 q4; have HQN := Aside0.mk (HQA.out.app5 q1 q2 q3); clear q1 q2 q3 q4 HQA HCZ)
          obtain ⟨An, cn, en, hcn, _⟩ := Kd.R_reads HQN.out.2.2.2.1
          have hln : (placesL (jw l) ++ List.replicate j 0 ++ [0]).length = k * 4 + (j + 1) := by rw [List.length_append, HLR.out]; rfl
          rw [hln] at en hcn
          have H6 : Aside0 (∃ A c, vn = .slice A (k * 4 + (j + 1)) c ∧ k * 4 + (j + 1) ≤ c ∧ RSw w wn R R1 r (.slice A (k * 4 + (j + 1)) c) (.slice A6 (k * 64) c6) (placesL (jw l) ++ List.replicate (j + 1) 0) (dataL (jw l)) D1) := ⟨An, cn, en, hcn, by
            rw [← en, List.replicate_succ', ← List.append_assoc]
            exact HQN.out⟩
          clear HQN en hcn hln
          go_roundg kq1
          case measure => omega
          case rel => exact ⟨j + 1, HMJ, H6⟩
    | succ k1 =>
      have hk1 : (k : Int) < (n : Int) := by have := HI.out; omega
      have hn64 : (n : Int) ≤ 64 := by omega
      have HI3 : Aside0 (k + 1 + k1 = n) := ⟨by have := HI.out; omega⟩
      obtain ⟨x, hx⟩ : ∃ x, l[k]? = some x := ⟨_, List.getElem?_eq_getElem (by rw [HN.out]; omega)⟩
      obtain ⟨D', R', hS, ho', he'⟩ := H1.out
      obtain ⟨ad, A1, cap1, rfl, g1, g2, g3, g4⟩ := stab_105 HN.out HL.out (Fr.refl R w) (B' := R) (fun _ h => .inl h) hx
      have hb : ¬ R ad.block := stab_C (d := k105) (by decide) HL.out ad rfl (by omega)
      have CE : Aside0 (∀ W, Fr R w W → W.cell? (ad.add (k * 2)) = some (.int .i64 x.f0) ∧ W.cell? ⟨(ad.add (k * 2)).block, (ad.add (k * 2)).off + 1, none⟩ = some (.slice A1 x.f1.length cap1)) := ⟨fun W f => ⟨cellB f (by rw [add_block]; exact hb) g1, cellB f (a := ⟨(ad.add (k * 2)).block, (ad.add (k * 2)).off + 1, none⟩) (by rw [add_block]; exact hb) g2⟩⟩
      obtain ⟨r1, r2, r3⟩ := HR.out x (List.mem_of_getElem? hx)
      have HE : Aside0 (writesD (chunkD (5 + (k : Int)) (n - k) (dataL (jw (l.drop k)))) D' = seqD (writeD D' (5 + k) x.f1) (writesD (chunkD (5 + ((k + 1 : Nat) : Int)) (n - (k + 1)) (dataL (jw (l.drop (k + 1))))))) := ⟨chunk_step hx HN.out r3 D'⟩
      have HE' := Aside0.mk he'
      have HPL := Aside0.mk (pl_take hx)
      have hfr := hS.2.2.1
      have hst : ∀ W', Fr R' wr W' → Kd.C (Kd.int .u8) W' A1 x.f1.length x.f1 := fun W' f2 => g4 W' (hfr.trans f2 hS.2.1)
      have HG4 : Aside0 (∀ W, Fr R w W → Kd.C (Kd.int .u8) W A1 64 x.f1) := ⟨fun W f => by rw [← r3]; exact g4 W f⟩
      have hdis := stab_C (d := Kd.int .u8) (by decide) hst
      have hcap := g3
      have hC0 := hst wr (Fr.refl _ _)
      rw [r3] at hdis hcap hC0 CE
      have WC : Aside0 (∀ W, Fr (fun _ => False) wr W → Calls Try.prog 50 #[.pointer (some ⟨r, 0, none⟩), .int .i64 (5 + (k : Int)), .slice A1 64 cap1] W fun e w' => e = .returned (.int .i64 (writeD D' (5 + k) x.f1).1) ∧ ∃ R2, RSw w w' R R2 r u5 u6 (placesL (jw (l.take k))) (dataL (jw (l.take k))) (writeD D' (5 + k) x.f1).2) := ⟨fun W f => hS.write ho' (by have := HI0.out; omega) (5 + k) A1 cap1 64 x.f1 r3 hC0 hcap hdis f⟩
      have HO2 := Aside0.mk (ho'.write (5 + (k : Int)) x.f1)
      obtain ⟨g1, g2⟩ := CE.out wr hfr
      have c0 := C0.out wr hfr
      clear hS ho' g4 g3 he' hx H1 hst hdis hcap hC0
      go_wp2_with fail
      have q3 : IntKind.i64.wrap (5 + (k : Int)) = 5 + k := IntWalk.i64_in _ (by omega)
      have q4 : IntKind.i64.wrap (k : Int) = k := IntWalk.i64_in _ (by omega)
      go_region_held3 (fun W => W.cell? ⟨mb, 0, none⟩ = some (.pointer (some ⟨r, 0, none⟩)) ∧ W.cell? ⟨(ad.add (k * 2)).block, (ad.add (k * 2)).off + 1, none⟩ = some (.slice A1 64 cap1)) (first | exact And.intro c0 g2 | exact S5.out) (first
        | (go_at_call 50; refine (WC.out _ (Fr.refl _ _).drew).mono ?_; rintro e w2 ⟨rfl, R2, m⟩; have M := Aside0.mk m; have S5 := Aside0.mk (And.intro (C0.out _ m.2.2.1) (CE.out _ m.2.2.1).2); clear m))
      clear q3 q4 WC g1 g2 c0 S5
      obtain ⟨e0, he0⟩ : ∃ e0, (writeD D' (5 + k) x.f1).1 = e0 := ⟨_, rfl⟩
      have HE0 := Aside0.mk he0
      rw [he0]
      clear he0
      by_cases hz : e0 = 0
      · subst hz
        have hfr2 := M.out.2.2.1
        obtain ⟨g1, g2⟩ := CE.out _ hfr2
        have FA := Aside0.mk (rfour_calls x.f0 w2 ⟨r1, by omega⟩)
        obtain ⟨x0, hx0⟩ : ∃ x0, x.f0 = x0 := ⟨_, rfl⟩
        obtain ⟨xs, hxs⟩ : ∃ xs, x.f1 = xs := ⟨_, rfl⟩
        have HF2 := Aside0.mk hfr2
        clear hfr2
        rw [hx0] at g1 FA r1 r2 HPL CE
        have HLP : Aside0 ((placesL (jw (l.take k))).length = k * 4) := ⟨by rw [pl_len, List.length_take, HN.out]; omega⟩
        have HLD : Aside0 ((dataL (jw (l.take k))).length = k * 64) := ⟨by rw [dl_len (fun y hy => (HR.out y (List.mem_of_mem_take hy)).2.2), List.length_take, HN.out]; omega⟩
        go_wp2_with fail
        refine FA.out.mono ?_
        rintro e w3 ⟨v3, rfl, q1, q2⟩
        obtain ⟨A3, c3, e3, _, hC3⟩ := Kd.R_reads q1
        rw [show (fourL x0).length = 4 from rfl] at e3 hC3
        subst e3
        have HC3 : Aside0 (Kd.C (Kd.int .u8) w3 A3 4 (fourL x0)) := ⟨hC3⟩
        have M3 := Aside0.mk (M.out.quiet (Fr.of_below q2 _))
        clear q1 q2 hC3 FA M g1 g2
        go_wp2_with (first
          | ((with_reducible refine gate_builtin (b := .append) (xs := #[.tmp 34, .tmp 41]) rfl ?_); at_builtin; refine Kd.R_append_rows (Kd.int .u8) (w0 := w3) w.heap.size rfl (.tmp 34) (.tmp 41) 22 5 (.int .u8 0) 1 rfl Try.underlying22 info5 rfl (by decide) (by omega) u5 (placesL (jw (l.take k))) (fourL x0) _ _ _ (fun b => ¬ R2 b ∧ some b ≠ u6.ownBlock) (fun _ => False) rfl rfl M3.out.2.2.2.1 HC3.out (fun _ _ h => h) (fun _ h => h.elim) M3.out.fresh5 (Below.refl _ _) M3.out.2.2.1.size (by rw [HLP.out]; omega) ?_; intro v5n w4 q1 q2 q3 q4; have M4 := Aside0.mk (M3.out.app5 q1 q2 q3); have g9 := (CE.out _ M4.out.2.2.1).2; have HC4 := Aside0.mk (HG4.out _ M4.out.2.2.1); clear q1 q2 q3 q4 M3 HC3)
          | ((with_reducible refine gate_builtin (b := .append) (xs := #[.tmp 43, .tmp 48]) rfl ?_); at_builtin; refine Kd.R_append_rows (Kd.int .u8) (w0 := w4) w.heap.size rfl (.tmp 43) (.tmp 48) 22 5 (.int .u8 0) 1 rfl Try.underlying22 info5 rfl (by decide) (by omega) u6 (dataL (jw (l.take k))) x.f1 _ _ _ (fun b => ¬ R2 b ∧ some b ≠ v5n.ownBlock) (fun _ => False) rfl rfl M4.out.r6 HC4.out (fun _ _ h => h) (fun _ h => h.elim) M4.out.fresh6 (Below.refl _ _) M4.out.2.2.1.size (by rw [HLD.out]; omega) ?_; intro v6n w5 q1 q2 q3 q4; have M5 := Aside0.mk (M4.out.app6 q1 q2 q3); clear q1 q2 q3 q4 M4 HC4 g9))
        have H2 : Aside0 (∃ D' R', RSw w w5 R R' r v5n v6n (placesL (jw (l.take (k + 1)))) (dataL (jw (l.take (k + 1)))) D' ∧ JOk (i + (k + 1)) D' ∧ writesD (chunkD 5 n (dataL (jw l))) D = writesD (chunkD (5 + ((k + 1 : Nat) : Int)) (n - (k + 1)) (dataL (jw (l.drop (k + 1))))) D') := ⟨⟨_, R2, by rw [HPL.out.1, HPL.out.2]; exact M5.out, HO2.out, by rw [HE'.out, HE.out, seqD, if_pos HE0.out]⟩⟩
        clear M5 HO2 HE HE' HE0
        go_roundg k1
        case measure => omega
        case rel => exact ⟨k + 1, by go_num, HI3, H2⟩
      · have hq : Aside0 (commitD (jw l) D = writeD D' (5 + k) x.f1) := ⟨by
          rw [HCR.out, HE'.out, HE.out, seqD, seqD, if_neg (show ¬ (writeD D' (5 + k) x.f1).1 = 0 by rw [HE0.out]; exact hz), if_neg (show ¬ (writeD D' (5 + k) x.f1).1 = 0 by rw [HE0.out]; exact hz)]⟩
        have e1 : (e0 != 0) = true := by simpa using hz
        clear HE HE' HO2
        go_wp2_with fail
        go_ret
        rw [hq.out]
        exact ⟨by rw [HE0.out]; rfl, M.out.moved⟩
end Go.Proofs.Ytppgbfkhiofjiaa.X

namespace Go.Proofs.Ytppgbfkhiofjiaa.X
open Go.RowKit Go.Proofs.YtppgbfkhiofjiaaW.PrintWords Go.Proofs.YtppgbfkhiofjiaaW.PrintLast Go.Proofs.YtppgbfkhiofjiaaW.PrintMore Go.Proofs.Ytppgbfkhiofjiaa.Y
set_option linter.unusedVariables false
set_option linter.unusedSimpArgs false

/-- What Commit's end says, of the reference. -/
def RComEnd (mb : Nat) (R : Nat → Prop) (r : Nat) (q : Int × DS × Bool) (w : World) (e : Ending) (w' : World) : Prop :=
  e = .returned (.int .i64 q.1) ∧ (∃ R', IsRef w' R' r q.2.1 ∧ (∀ k, R' k → R k ∨ w.heap.size ≤ k)) ∧ Fr (fun k => R k ∨ k = mb) w w' ∧ IsRLog w' mb r q.2.2
theorem logC_wrong {l : List S105} {D : DS} {dn : Bool} (h : wrongC l D dn ≠ 0) : logC (jw l) D dn = (wrongC l D dn, D, dn) := by
  unfold wrongC at *
  unfold logC
  rw [show (jw l).length = l.length by simp [jw]]
  split
  · rename_i hd
    rw [hd]
  · rename_i hd
    rw [if_neg hd] at h
    have hd2 : dn = false := by simpa using hd
    subst hd2
    split
    · rfl
    · rename_i h64
      rw [if_neg h64] at h
      rw [if_pos h]
theorem jw_mem {l : List S105} {x : S105} (h : x ∈ l) : (⟨x.f0, x.f1⟩ : S102) ∈ jw l := List.mem_map.2 ⟨x, h, rfl⟩
set_option maxHeartbeats 4000000 in
set_option maxRecDepth 100000 in
theorem rcom_calls (mb r : Nat) (dn : Bool) (R : Nat → Prop) (D : DS) (A : Option Addr) (cp n : Nat) (l : List S105) (w : World) (i : Nat) (h : IsRef w R r D) (ho : JOk i D) (hi : i ≤ 200000) (hlog : IsRLog w mb r dn) (hmb : ¬ R mb) (hn : l.length = n) (hn9 : n ≤ 9223372036854775807) (hl : ∀ W, Fr R w W → Kd.C k105 W A n l) :
    Calls Try.prog 68 #[.pointer (some ⟨mb, 0, none⟩), .slice A n cp] w (RComEnd mb R r (logC (jw l) D dn) w) := by
  have WC := Aside0.mk (rwrong_calls mb r dn R D A cp n l w h hlog hn hn9 (hl w (Fr.refl _ _)))
  have H := Aside0.mk h
  have HLG := Aside0.mk hlog
  by_cases hw : wrongC l D dn = 0
  · have hdn : dn = false := by
      cases dn with
      | false => rfl
      | true => unfold wrongC at hw; simp at hw
    subst hdn
    have h64 : l.length ≤ 64 := by
      unfold wrongC at hw
      rw [if_neg (by decide)] at hw
      split at hw
      · cases hw
      · omega
    have hwl : wrongL D (jw l) = 0 := by
      unfold wrongC at hw
      rw [if_neg (by decide), if_neg (by omega)] at hw
      exact hw
    rw [hw] at WC
    by_cases hn0 : n = 0
    · have HE : Aside0 (logC (jw l) D false = (0, D, false)) := ⟨by
        unfold logC
        rw [show (jw l).length = l.length by simp [jw], if_neg (by decide), if_neg (by omega), hwl, if_neg (by decide), if_pos (by omega)]⟩
      subst hn0
      clear h ho hlog hl hn hw hwl h64 hn9
      go_enter Try.func68, Try.ntmps68
      go_wp2_with fail
      refine WC.out.mono ?_
      rintro e w1 ⟨rfl, f1⟩
      have HF := Aside0.mk f1
      clear f1 WC
      go_wp2_with fail
      go_ret
      rw [HE.out]
      exact ⟨rfl, ⟨R, H.out.fr HF.out (fun _ _ h => h), fun _ h => .inl h⟩, HF.out.mono (fun _ h => h.elim), HLG.out.kept (HF.out.keep _ HLG.out.lt (fun h => h))⟩
    · have HE : Aside0 (logC (jw l) D false = ((commitD (jw l) D).1, (commitD (jw l) D).2, (commitD (jw l) D).1 != 0)) := ⟨by
        unfold logC
        rw [show (jw l).length = l.length by simp [jw], if_neg (by decide), if_neg (by omega), hwl, if_neg (by decide), if_neg (by omega)]⟩
      have hnn := h.nn
      have hr : ∀ x ∈ l, 0 ≤ x.f0 ∧ x.f0 ≤ 1000000 ∧ x.f1.length = 64 := fun x hx => by
        obtain ⟨q1, q2⟩ := wrongL_ok hwl _ (jw_mem hx)
        have q3 := of_decide_eq_true q1
        exact ⟨q3.1, by have := q3.2; show x.f0 ≤ 1000000; simp only at this; omega, q2⟩
      have SC : Aside0 (∀ W, Fr (fun _ => False) w W → Calls Try.prog 89 #[.pointer (some ⟨mb, 0, none⟩), .slice A n cp] W fun e w' => e = .returned (.int .i64 (commitD (jw l) D).1) ∧ RMoved w R r w' (commitD (jw l) D).2) := ⟨fun W f =>
        (rsteps_calls mb r false R D A cp n l W i (h.fr f (fun _ _ h => h)) (hlog.kept (f.keep _ hlog.lt (fun h => h))) hmb ho hi hn (by omega) (fun W' f' => hl W' ((f.mono (fun _ h => h.elim)).trans f' (fun _ h => .inl h))) hr).mono fun e w' ⟨he, m⟩ => ⟨he, m.ahead f⟩⟩
      have hn1 : ((n : Int) == 0) = false := by
        have : (n : Int) ≠ 0 := by omega
        simpa using this
      have hn2 : (n : Int) ≠ 0 := by omega
      have HMB := Aside0.mk hmb
      clear h ho hlog hl hn hw hwl h64 hn9 hnn hr hmb
      go_enter Try.func68, Try.ntmps68
      go_wp2_with fail
      refine WC.out.mono ?_
      rintro e w1 ⟨rfl, f1⟩
      have HF := Aside0.mk f1
      clear f1 WC
      go_wp2_with fail
      refine (SC.out _ HF.out).mono ?_
      rintro e w2 ⟨rfl, m⟩
      have hl2 : IsRLog w2 mb r false := HLG.out.kept (m.fr.keep _ HLG.out.lt HMB.out)
      obtain ⟨_, c1, c2⟩ := hl2.cells
      have HL2 := Aside0.mk hl2
      have M := Aside0.mk m
      clear m hl2
      obtain ⟨e0, he0⟩ : ∃ e0, (commitD (jw l) D).1 = e0 := ⟨_, rfl⟩
      have HE0 := Aside0.mk he0
      rw [he0]
      clear he0
      go_wp2_with fail
      go_ret
      rw [HE.out, HE0.out]
      obtain ⟨R', h2, hs2, f2⟩ := M.out
      have hmb2 : ¬ R' mb := fun hR => (hs2 mb hR).elim HMB.out (fun h => by have := HLG.out.lt; omega)
      exact ⟨rfl, ⟨R', h2.fr ((Fr.refl (fun k => k = mb) w2).setCell (.inl rfl) _) (fun k hk e => hmb2 (e ▸ hk)), hs2⟩, (f2.mono (fun _ h => .inl (.inl h))).setCell (.inl (.inr rfl)) _, HL2.out.put _⟩
  · have HE := Aside0.mk (logC_wrong hw)
    obtain ⟨e0, he0⟩ : ∃ e0, wrongC l D dn = e0 := ⟨_, rfl⟩
    rw [he0] at WC hw HE
    have e1 : (e0 != 0) = true := by simpa using hw
    clear h ho hlog hl hn hn9 he0
    go_enter Try.func68, Try.ntmps68
    go_wp2_with fail
    refine WC.out.mono ?_
    rintro e w1 ⟨rfl, f1⟩
    have HF := Aside0.mk f1
    clear f1 WC
    go_wp2_with fail
    go_ret
    rw [HE.out]
    exact ⟨rfl, ⟨R, H.out.fr HF.out (fun _ _ h => h), fun _ h => .inl h⟩, HF.out.mono (fun _ h => h.elim), HLG.out.kept (HF.out.keep _ HLG.out.lt (fun h => h))⟩
end Go.Proofs.Ytppgbfkhiofjiaa.X

namespace Go.Proofs.Ytppgbfkhiofjiaa.X
open Go.RowKit Go.Proofs.YtppgbfkhiofjiaaW.PrintWords Go.Proofs.YtppgbfkhiofjiaaW.PrintLast Go.Proofs.YtppgbfkhiofjiaaW.PrintMore Go.Proofs.Ytppgbfkhiofjiaa.Y
set_option linter.unusedVariables false
set_option linter.unusedSimpArgs false

/-- What Open's end says, of the reference. -/
def ROpenEnd (R : Nat → Prop) (r : Nat) (q : Int × DS) (w : World) (e : Ending) (w' : World) : Prop :=
  ∃ v, e = .returned (.tuple #[v, .int .i64 q.1]) ∧ Fr R w w' ∧ (q.1 ≠ 0 → v = .pointer none ∧ RMoved w R r w' q.2) ∧
    (q.1 = 0 → ∃ mb R', v = .pointer (some ⟨mb, 0, none⟩) ∧ w.heap.size ≤ mb ∧ IsRLog w' mb r false ∧ IsRef w' R' r q.2 ∧ (∀ k, R' k → R k ∨ w.heap.size ≤ k) ∧ ¬ R' mb)
theorem IsRef.alloc {w : World} {R : Nat → Prop} {r : Nat} {D : DS} (h : IsRef w R r D) (o : Obj) : IsRef (w.alloc o) R r D := h.fr (Fr.of_below ((Below.refl _ w).alloc (Nat.le_refl _) o) (fun _ => False)) (fun _ _ h => h)
theorem ROpenEnd.bad {R : Nat → Prop} {r : Nat} {x : Int} {D : DS} {w w' : World} (h : RMoved w R r w' D) (hx : x ≠ 0) : ROpenEnd R r (x, D) w (.returned (.tuple #[.pointer none, .int .i64 x])) w' :=
  ⟨_, rfl, h.fr, fun _ => ⟨rfl, h⟩, fun h0 => absurd h0 hx⟩
theorem ROpenEnd.good {R : Nat → Prop} {r : Nat} {D : DS} {w W : World} (h : RMoved w R r W D) : ROpenEnd R r (0, D) w (.returned (.tuple #[.pointer (some ⟨W.heap.size, 0, none⟩), .int .i64 0])) (W.alloc (.cells #[.pointer (some ⟨r, 0, none⟩), .bool false] 125)) := by
  obtain ⟨R', h1, h2, h3⟩ := h
  exact ⟨_, rfl, h3.alloc _, fun h0 => absurd rfl h0, fun _ => ⟨W.heap.size, R', rfl, h3.size, heap_alloc_new _ _, h1.alloc _, h2, fun hb => Nat.lt_irrefl _ (h1.lt _ hb)⟩⟩
/-- A number, read out of a row. -/
theorem rnum_at {w : World} {g cap a n : Nat} {l : List Int} (hC : Kd.C (Kd.int .u8) w (some ⟨g, 0, none⟩) n l) (hl : l.length = n) (hb : BytL l) (hcap : n ≤ cap) (ha : a + 4 ≤ n) :
    Calls Try.prog 86 #[.slice (some ⟨g, a, none⟩) 4 (cap - a)] w fun e w' => e = .returned (.int .u32 (numL (l.drop a))) ∧ Drawn0 w w' := by
  have h1 := C_dropAt hC hl (a := a) (by omega)
  rw [Addr.add_mid, Nat.zero_add] at h1
  have h2 := C_takeAt h1 (a := 4) (by rw [List.length_drop, hl]) (by omega)
  have hl2 : ((l.drop a).take 4).length = 4 := by rw [List.length_take, List.length_drop, hl]; omega
  have h0 := redlineref24_number.calls (some ⟨g, a, none⟩) (cap - a) ((l.drop a).take 4) (numL (l.drop a)) w (by rw [hl2]; exact h2) (by rw [hl2]; omega) (rnum_f (by rw [List.length_drop, hl]; omega) (hb.drop a))
  rw [hl2] at h0
  exact h0
theorem IsRef.rd64_length {w : World} {R : Nat → Prop} {r : Nat} {D : DS} (h : IsRef w R r D) {k : Int} (h0 : 0 ≤ k) (h1 : k < D.n) : (rd64 D k).length = 64 := by
  obtain ⟨lv, pv, lb, qs, n, _, _, _, _, hn, _, _, h8, h9, _, _, h12, _⟩ := h
  have key : ∀ (c : List (Int × List Int)) (b : List Int), (∀ p ∈ c, p.2.length = 64) → b.length = 64 → (readC k c b).length = 64 := by
    intro c
    induction c with
    | nil => intro b _ hb; exact hb
    | cons p c ih =>
      intro b hp hb
      rw [readC]
      refine ih _ (fun q hq => hp q (by simp [hq])) ?_
      split
      · exact hp p (by simp)
      · exact hb
  refine key _ _ (fun p hp => (h12 p hp).2.2) ?_
  have e := h9 k.toNat (by omega)
  rw [show ((k.toNat : Nat) : Int) = k by omega] at e
  have hlb : lb.length = n * 64 := by have := h8.1; simpa [nums] using this
  rw [← e, List.length_take, List.length_drop, hlb]
  omega
theorem IsRef.sectL_length {w : World} {R : Nat → Prop} {r : Nat} {D : DS} (h : IsRef w R r D) {a : Int} (ha : 0 ≤ a) : ∀ n : Nat, a + n ≤ D.n → (sectL D a n).length = n * 64
  | 0, _ => rfl
  | n + 1, hn => by rw [sectL, List.length_append, h.sectL_length ha n (by omega), h.rd64_length (by omega) (by omega)]; omega
def r105 (x : S102) : S105 := ⟨x.f0, x.f1⟩
theorem jw_r105 (l : List S102) : jw (l.map r105) = l := by
  unfold jw
  rw [List.map_map]
  exact List.map_id _
theorem left_read5 {W : World} {base gR capR n g c : Nat} {P Dt : List Int} (hrow : W.ownsRow base 105 2 (.slice (some ⟨gR, 0, none⟩) n capR) n (encV g c P n)) (hdata : Kd.C (Kd.int .u8) W (some ⟨g, 0, none⟩) (n * 64) Dt) (hl : Dt.length = n * 64) (hc : n * 64 ≤ c) (hn : n ≤ 1000) :
    Kd.C k105 W (some ⟨gR, 0, none⟩) n ((leftL P Dt n).map r105) := by
  refine ⟨by rw [List.length_map, leftL_length], by omega, fun h0 => ⟨_, rfl, fun j p hj => ?_⟩⟩
  have hj' : j < n := by have := (List.getElem?_eq_some_iff.1 hj).1; rwa [List.length_map, leftL_length] at this
  rw [List.getElem?_map, leftL_at P Dt n j hj'] at hj
  obtain rfl := Option.some.inj hj
  obtain ⟨e1, e2⟩ := encV_at g c P n j hj'
  have hlen : ((Dt.drop (64 * j)).take 64).length = 64 := by rw [List.length_take, List.length_drop, hl]; omega
  have hC : Kd.C (Kd.int .u8) W (some ⟨g, 64 * j, none⟩) ((Dt.drop (64 * j)).take 64).length ((Dt.drop (64 * j)).take 64) := by
    have h1 := hdata
    rw [← hl] at h1
    have h2 := Kd.C_drop (c := Dt.length + 1) h1 (m := 64 * j) (by omega) (by omega)
    rw [if_neg (by omega)] at h2
    have h3 := Kd.C_take h2 (m := 64) (by rw [List.length_drop]; omega)
    have e : (some (⟨g, 0, none⟩ : Addr)).map (·.add (64 * j * (Kd.int IntKind.u8).sz)) = some ⟨g, 64 * j, none⟩ := by
      have : (Kd.int IntKind.u8).sz = 1 := rfl
      rw [this, Option.map_some, Addr.add_mid, Nat.zero_add, Nat.mul_one]
    rw [e] at h3
    exact h3
  refine ⟨_, ?_, k105_mk W (⟨placeN P j, (Dt.drop (64 * j)).take 64⟩ : S105) (A1 := some ⟨g, 64 * j, none⟩) (c1 := c - 64 * j) (by rw [hlen]; omega) hC, fun i u hu => ?_⟩
  · rfl
  · rcases hrow.2 with ⟨h, _⟩ | ⟨gb, cap, cur, he, _, hb, _, _, _, hx⟩
    · cases h
    · injection he with he _ _
      injection he with he
      injection he with he
      subst he
      rw [Addr.add_mid, Nat.zero_add, cell_of_row W gR _ _ 105 (0, 0) hb]
      have hcell : ∀ k v, (encV g c P n)[k]? = some v → cur[k]? = some v := fun k v hv => by
        rw [← hx, List.getElem?_take] at hv
        split at hv
        · rw [← hv, ← Array.getElem?_toList]
        · cases hv
      match i, hu with
      | 0, hu =>
        obtain rfl := Option.some.inj hu
        exact hcell _ _ e1
      | 1, hu =>
        obtain rfl := Option.some.inj hu
        rw [hlen]
        exact hcell _ _ e2
theorem cutA (g n cp a b : Nat) (h1 : a ≤ b) (h2 : b ≤ cp) (h3 : a < cp) (x y : Int) (hx : x = (a : Int)) (hy : y = (b : Int)) (d c : Nat) (hd : b - a = d) (hc : cp - a = c) (W : World) :
    (Instr.slice 22 (.slice (some ⟨g, 0, none⟩) n cp) (some (.int .i64 x)) (some (.int .i64 y)) none).run Try.prog W = .ok (.slice (some ⟨g, a, none⟩) d c) W := by
  have := slice22 ⟨g, 0, none⟩ n cp a b h1 h2 h3 x y hx hy W
  rw [hd, hc, Addr.add_mid, Nat.zero_add] at this
  exact this
theorem cutH (g n cp b : Nat) (h2 : b ≤ cp) (h0 : 0 < cp) (y : Int) (hy : y = (b : Int)) (W : World) :
    (Instr.slice 22 (.slice (some ⟨g, 0, none⟩) n cp) none (some (.int .i64 y)) none).run Try.prog W = .ok (.slice (some ⟨g, 0, none⟩) b cp) W := slice22h ⟨g, 0, none⟩ n cp b h2 h0 y hy W
theorem cutL (g n cp a : Nat) (h1 : a ≤ n) (h3 : a < cp) (x : Int) (hx : x = (a : Int)) (d c : Nat) (hd : n - a = d) (hc : cp - a = c) (W : World) :
    (Instr.slice 22 (.slice (some ⟨g, 0, none⟩) n cp) (some (.int .i64 x)) none none).run Try.prog W = .ok (.slice (some ⟨g, a, none⟩) d c) W := by
  have := slice22l ⟨g, 0, none⟩ n cp a h1 h3 x hx W
  rw [hd, hc, Addr.add_mid, Nat.zero_add] at this
  exact this
theorem make52 (w : World) : (Instr.makeSlice 22 (.int .i64 52) (.int .i64 52)).run Try.prog w = .ok (.slice (some ⟨w.heap.size, 0, none⟩) 52 52) (w.alloc (.cells (nums .u8 (List.replicate 52 0)).toArray 5)) := by
  have h := run_make_row' (P := Try.prog) 22 5 (.int .u8 0) 1 Try.underlying22 info5 rfl .i64 .i64 52 (by omega) (by omega) w
  have e : madeCells #[Value.int .u8 0] 52 = (nums .u8 (List.replicate 52 0)).toArray := by kernel_rfl
  rw [e] at h
  exact h

end Go.Proofs.Ytppgbfkhiofjiaa.X
