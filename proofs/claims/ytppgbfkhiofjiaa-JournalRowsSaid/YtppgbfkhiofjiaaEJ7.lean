/-
  The journal: the contract of commit.
-/
import Derived.Test.YtppgbfkhiofjiaaEJY
namespace Go.Proofs.Ytppgbfkhiofjiaa.X
open Go.RowKit Go.Proofs.YtppgbfkhiofjiaaW.PrintWords Go.Proofs.YtppgbfkhiofjiaaW.PrintLast Go.Proofs.YtppgbfkhiofjiaaW.PrintMore Go.Proofs.Ytppgbfkhiofjiaa.Y
set_option linter.unusedVariables false
set_option linter.unusedSimpArgs false

set_option maxHeartbeats 4000000 in
set_option maxRecDepth 100000 in
theorem bclone_calls (A : Addr) (c n : Nat) (l : List Int) (w : World) (hn : l.length = n) (hn9 : n ≤ 1000000) (hC : Kd.C (Kd.int .u8) w (some A) n l) :
    Calls Try.prog 75 #[.slice (some A) n c] w fun e w' => ∃ v, e = .returned v ∧ w'.ownsRow w.heap.size 5 1 v l.length (nums .u8 l) ∧ Below w.heap.size w w' := by
  have HR := Aside0.mk (Kd.reads_of_C (enc := Value.int .u8) (d := (0 : Int)) (h1 := fun _ => rfl) hC)
  have HN := Aside0.mk hn
  have HB0 : Aside0 (Below w.heap.size w (w.alloc (.cells #[] 5))) := ⟨(Below.refl _ _).alloc (Nat.le_refl _) _⟩
  have HO0 : Aside0 ((w.alloc (.cells #[] 5)).ownsRow w.heap.size 5 1 (.slice (some ⟨w.heap.size, 0, none⟩) 0 0) ([] : List Int).length (nums .u8 [])) := ⟨⟨rfl, .inr ⟨w.heap.size, 0, #[], rfl, Nat.le_refl _, heap_alloc_new _ _, Nat.le_refl _, by decide, rfl, rfl⟩⟩⟩
  have HR1 : Aside0 (ReadsInt (w.alloc (.cells #[] 5)) .u8 (some A) n l) := ⟨HR.out.below HB0.out⟩
  have hnil : ∀ W : World, (binOp .eql 22 (.slice (some A) n c) (.slice none 0 0)).run Try.prog W = .ok (.bool false) W := fun W => Lib.run_eql_slice_nil W 22 5 (some A) n c 0 0 Try.underlying22
  clear hC hn
  go_enter Try.func75, Try.ntmps75
  go_wp2_with ((with_reducible refine gate_builtin (b := .append) (xs := #[.tmp 5, .tmp 6]) rfl ?_); at_builtin; refine print_append_row w.heap.size rfl (.tmp 5) (.tmp 6) 22 5 .u8 1 rfl Try.underlying22 info5 (by omega) (.slice (some ⟨w.heap.size, 0, none⟩) 0 0) [] l (some A) n c rfl rfl HO0.out HR1.out HB0.out (by simp) (by simp; omega) ?_; intro v1 w1 h1 h2 h3 h4)
  go_ret
  exact ⟨v1, rfl, by simpa using h1, h2⟩
theorem four_f {l : List Int} {a : Int} (h : l.length ≤ 1000000) : journal_four.f l a = some (l ++ fourL a) := by
  unfold journal_four.f fourL
  rw [Option.bind_some, if_pos (by simp only [List.length_cons, List.length_nil]; omega)]

set_option maxHeartbeats 4000000 in
set_option maxRecDepth 100000 in
theorem mk_calls (at0 : Int) (A : Option Addr) (n c n0 : Nat) (W : World) :
    Calls Try.prog 76 #[.int .i64 at0, .slice A n c, .pointer (some ⟨n0, 0, none⟩)] W fun e w' => ∃ p q, e = .returned (.func (.func 77) #[] #[.pointer (some ⟨p, 0, none⟩), .pointer (some ⟨n0, 0, none⟩), .pointer (some ⟨q, 0, none⟩)]) ∧ W.heap.size ≤ p ∧ W.heap.size ≤ q ∧
      w'.cell? ⟨p, 0, none⟩ = some (.slice A n c) ∧ w'.cell? ⟨q, 0, none⟩ = some (.int .i64 at0) ∧ Below W.heap.size W w' := by
  have e1 : (W.alloc (.cells #[.int .i64 at0] 3)).heap.size = W.heap.size + 1 := by simp
  have h0 : ((W.alloc (.cells #[.int .i64 at0] 3)).alloc (.cells #[.slice A n c] 22)).heap[W.heap.size]? = some (.cells #[.int .i64 at0] 3 (0, 0)) := by
    rw [Below.heap_alloc _ _ _ (by rw [e1]; omega)]
    exact heap_alloc_new _ _
  have h1 : ((W.alloc (.cells #[.int .i64 at0] 3)).alloc (.cells #[.slice A n c] 22)).heap[W.heap.size + 1]? = some (.cells #[.slice A n c] 22 (0, 0)) := by
    rw [← e1]
    exact heap_alloc_new _ _
  have H := Aside0.mk (And.intro ((cell_of_row _ _ 0 _ _ _ h1).trans rfl) ((cell_of_row _ _ 0 _ _ _ h0).trans rfl))
  have HB : Aside0 (Below W.heap.size W ((W.alloc (.cells #[.int .i64 at0] 3)).alloc (.cells #[.slice A n c] 22))) := ⟨((Below.refl _ _).alloc (Nat.le_refl _) _).alloc (by simp) _⟩
  clear e1 h0 h1
  go_enter Try.func76, Try.ntmps76
  go_wp2_with fail
  go_ret
  exact ⟨W.heap.size + 1, W.heap.size, rfl, by omega, by omega, H.out.1, H.out.2, HB.out⟩

theorem drew_below (W : World) (w6 : World) (h : Below W.drew.heap.size W.drew w6) : Below W.heap.size W w6 := ⟨h.os, h.tape, h.output, h.size, h.block⟩
theorem com_tail (e0 : Int) (D0 : DS) (lb g : Nat) (dn : Bool) (B : Nat → Prop) (D : DS) (A : Option Addr) (cp n : Nat) (l : List S102) (s : Int) (w W5 : World) (g5 g6 c5 c6 sb : Nat) (i : Nat) (h : IsDisk w B g D) (ho : JOk i D) (hi : i ≤ 200000) (hlog : IsLog w lb g dn) (hlb : ¬ B lb)
    (hn : l.length = n) (hn0 : 1 ≤ n) (hn64 : n ≤ 64) (hl : ∀ W', Fr B w W' → Kd.C k102 W' A n l) (hr : ∀ x ∈ l, 0 ≤ x.f0 ∧ x.f0 ≤ 1000000) (h64 : ∀ x ∈ l, x.f1.length = 64) (hs : sumV (placesL l ++ dataL l) = s) (hr0 : commitD l D = (e0, D0))
    (hB : Below w.heap.size w W5) (h5 : Kd.R (Kd.int .u8) 5 W5 w.heap.size (fun _ => True) (.slice (some ⟨g5, 0, none⟩) (padN n * 64) c5) (padL n (placesL l))) (h6 : W5.ownsRow w.heap.size 5 1 (.slice (some ⟨g6, 0, none⟩) (n * 64) c6) (dataL l).length (nums .u8 (dataL l)))
    (hc : W5.heap[w.heap.size]? = some (.cells #[.pointer (some ⟨lb, 0, none⟩)] 56 (0, 0)) ∧ W5.heap[w.heap.size + 1]? = some (.cells #[.slice A n cp] 60 (0, 0))) (hsb : W5.heap[sb]? = some (.cells #[.int .u32 s] 23 (0, 0))) (hsb0 : w.heap.size ≤ sb)
    (w7 : World) (p1 q1 p2 q2 : Nat) (hb7 : Below W5.heap.size W5 w7) (k1 : W5.heap.size ≤ p1) (k2 : W5.heap.size ≤ q1) (k3 : W5.heap.size ≤ p2) (k4 : W5.heap.size ≤ q2)
    (e1 : w7.cell? ⟨p1, 0, none⟩ = some (.slice (some ⟨g6, 0, none⟩) (n * 64) c6)) (e2 : w7.cell? ⟨q1, 0, none⟩ = some (.int .i64 5)) (e3 : w7.cell? ⟨p2, 0, none⟩ = some (.slice (some ⟨g5, 0, none⟩) (padN n * 64) c5)) (e4 : w7.cell? ⟨q2, 0, none⟩ = some (.int .i64 1)) :
    Calls Try.prog 78 #[.slice (some ⟨w7.heap.size, 0, none⟩) 5 5] (w7.alloc (.cells #[.func (.func 77) #[] #[.pointer (some ⟨p1, 0, none⟩), .pointer (some ⟨w.heap.size, 0, none⟩), .pointer (some ⟨q1, 0, none⟩)], .func (.func 77) #[] #[.pointer (some ⟨p2, 0, none⟩), .pointer (some ⟨w.heap.size, 0, none⟩), .pointer (some ⟨q2, 0, none⟩)], .func (.func 15) #[.pointer (some ⟨g, 0, none⟩)] #[], .func (.func 79) #[] #[.pointer (some ⟨w.heap.size, 0, none⟩), .pointer (some ⟨w.heap.size + 1, 0, none⟩), .pointer (some ⟨sb, 0, none⟩)], .func (.func 80) #[] #[.pointer (some ⟨w.heap.size, 0, none⟩), .pointer (some ⟨w.heap.size + 1, 0, none⟩)]] 38))
      fun e w' => e = .returned (.int .i64 e0) ∧ Moved w B g w' D0 ∧ ∀ (a : Addr) (v : Value), ¬ B a.block → w7.cell? a = some v → w'.cell? a = some v := by
  obtain ⟨W, hW⟩ : ∃ W, w7.alloc (.cells #[.func (.func 77) #[] #[.pointer (some ⟨p1, 0, none⟩), .pointer (some ⟨w.heap.size, 0, none⟩), .pointer (some ⟨q1, 0, none⟩)], .func (.func 77) #[] #[.pointer (some ⟨p2, 0, none⟩), .pointer (some ⟨w.heap.size, 0, none⟩), .pointer (some ⟨q2, 0, none⟩)], .func (.func 15) #[.pointer (some ⟨g, 0, none⟩)] #[], .func (.func 79) #[] #[.pointer (some ⟨w.heap.size, 0, none⟩), .pointer (some ⟨w.heap.size + 1, 0, none⟩), .pointer (some ⟨sb, 0, none⟩)], .func (.func 80) #[] #[.pointer (some ⟨w.heap.size, 0, none⟩), .pointer (some ⟨w.heap.size + 1, 0, none⟩)]] 38) = W := ⟨_, rfl⟩
  have hnr : W.heap[w7.heap.size]? = some (.cells #[.func (.func 77) #[] #[.pointer (some ⟨p1, 0, none⟩), .pointer (some ⟨w.heap.size, 0, none⟩), .pointer (some ⟨q1, 0, none⟩)], .func (.func 77) #[] #[.pointer (some ⟨p2, 0, none⟩), .pointer (some ⟨w.heap.size, 0, none⟩), .pointer (some ⟨q2, 0, none⟩)], .func (.func 15) #[.pointer (some ⟨g, 0, none⟩)] #[], .func (.func 79) #[] #[.pointer (some ⟨w.heap.size, 0, none⟩), .pointer (some ⟨w.heap.size + 1, 0, none⟩), .pointer (some ⟨sb, 0, none⟩)], .func (.func 80) #[] #[.pointer (some ⟨w.heap.size, 0, none⟩), .pointer (some ⟨w.heap.size + 1, 0, none⟩)]] 38 (0, 0)) := by rw [← hW]; exact heap_alloc_new _ _
  have hb8 : Below w7.heap.size w7 W := by rw [← hW]; exact (Below.refl _ _).alloc (Nat.le_refl _) _
  rw [hW]
  clear hW
  have hb58 : Below W5.heap.size W5 W := hb7.trans (hb8.mono hb7.size)
  have hb08 : Below w.heap.size w W := hB.trans (hb58.mono hB.size)
  have f0 : Fr (fun _ => False) w W := Fr.of_below hb08 _
  have hnB : ∀ k, w.heap.size ≤ k → ¬ B k := fun k hk hB => by have := h.lt k hB; omega
  have hsz := hB.size
  have b5 : ∀ {k : Nat} {cs : Array Value} {t : TypeId}, W5.heap[k]? = some (.cells cs t (0, 0)) → W.cell? ⟨k, 0, none⟩ = cs[0]? := fun {k cs t} hk => cell_of_row _ _ _ _ _ _ ((hb58.block k (Array.getElem?_eq_some_iff.1 hk).1).trans hk)
  have h5W : Kd.R (Kd.int .u8) 5 W w.heap.size (fun _ => True) (.slice (some ⟨g5, 0, none⟩) (padN n * 64) c5) (padL n (placesL l)) := Kd.R_below h5 hb58
  have h6W : Kd.R (Kd.int .u8) 5 W w.heap.size (fun _ => True) (.slice (some ⟨g6, 0, none⟩) (n * 64) c6) (dataL l) := Kd.R_below (Kd.R_of_own (enc := Value.int .u8) (h1 := fun _ => rfl) h6 (fun _ _ => trivial)) hb58
  have hP : (padL n (placesL l)).length = padN n * 64 := padL_length (by rw [placesL_length, hn])
  have hDt : (dataL l).length = n * 64 := by rw [dataL_length l h64, hn]
  obtain ⟨hc5, hst5⟩ := own_stable (W0 := w) h5W hP h.lt
  obtain ⟨hc6, hst6⟩ := own_stable (W0 := w) h6W hDt h.lt
  have RC := com_row g B D A cp n l s ⟨g5, 0, none⟩ ⟨g6, 0, none⟩ c5 c6 (padL n (placesL l)) (dataL l) w.heap.size (w.heap.size + 1) sb p1 q1 p2 q2 w7.heap.size lb 5 W i (h.fr f0 (fun _ _ h => h)) ho hi hn hn64 hP hDt hc5 hc6
    ((b5 hc.1).trans rfl) ((b5 hc.2).trans rfl) ((b5 hsb).trans rfl) (cellK f0 hlog.cells.1) (cell_later hb8 e1) (cell_later hb8 e2) (cell_later hb8 e3) (cell_later hb8 e4)
    (hnB _ (Nat.le_refl _)) (hnB _ (by omega)) (hnB _ hsb0) hlb (hnB _ (by omega)) (hnB _ (by omega)) (hnB _ (by omega)) (hnB _ (by omega)) (hnB _ (by have := hb7.size; omega))
    ((cell_of_row _ _ _ _ _ _ hnr).trans rfl) ((cell_of_row _ _ _ _ _ _ hnr).trans rfl) ((cell_of_row _ _ _ _ _ _ hnr).trans rfl) ((cell_of_row _ _ _ _ _ _ hnr).trans rfl) ((cell_of_row _ _ _ _ _ _ hnr).trans rfl)
    (fun W' f' => hl W' ((f0.mono (fun _ h => h.elim)).trans f' (fun _ h => .inl h))) hr hst5 hst6
  refine RC.mono fun e w' ⟨he, m⟩ => ?_
  have e : runD [writesD (chunkD 5 n (dataL l)), writesD (chunkD 1 (padN n) (padL n (placesL l))), flushD, laysD (headL n s), finishD l] D = commitD l D := by
    unfold commitD
    rw [hn, hs]
  rw [e, hr0] at he m
  exact ⟨he, m.ahead f0, fun a v ha hv => cellB m.fr ha (cell_later hb8 hv)⟩

set_option maxHeartbeats 8000000 in
set_option maxRecDepth 100000 in
theorem commit_calls (lb g : Nat) (dn : Bool) (B : Nat → Prop) (D : DS) (A : Option Addr) (cp n : Nat) (l : List S102) (w : World) (i : Nat) (h : IsDisk w B g D) (ho : JOk i D) (hi : i ≤ 200000) (hlog : IsLog w lb g dn) (hlb : ¬ B lb)
    (hn : l.length = n) (hn0 : 1 ≤ n) (hn64 : n ≤ 64) (hl : ∀ W', Fr B w W' → Kd.C k102 W' A n l) (hr : ∀ x ∈ l, 0 ≤ x.f0 ∧ x.f0 ≤ 1000000) (h64 : ∀ x ∈ l, x.f1.length = 64) :
    Calls Try.prog 58 #[.pointer (some ⟨lb, 0, none⟩), .slice A n cp] w fun e w' => e = .returned (.int .i64 (commitD l D).1) ∧ Moved w B g w' (commitD l D).2 := by
  obtain ⟨⟨e0, D0⟩, hr0⟩ : ∃ r, commitD l D = r := ⟨_, rfl⟩
  rw [hr0]
  dsimp only
  have HR0' := Aside0.mk hr0
  clear hr0
  have H := Aside0.mk h
  have HO := Aside0.mk ho
  have HLG := Aside0.mk hlog
  have HN := Aside0.mk hn
  have HL := Aside0.mk hl
  have HR := Aside0.mk hr
  have H64 := Aside0.mk h64
  have f2 : Fr (fun _ => False) w ((w.alloc (.cells #[.pointer (some ⟨lb, 0, none⟩)] 56)).alloc (.cells #[.slice A n cp] 60)) := ((Fr.refl _ _).alloc _).alloc _
  have HB0 : Aside0 (Below w.heap.size w ((w.alloc (.cells #[.pointer (some ⟨lb, 0, none⟩)] 56)).alloc (.cells #[.slice A n cp] 60))) := ⟨((Below.refl _ _).alloc (Nat.le_refl _) _).alloc (by simp) _⟩
  have HC0 : Aside0 (((w.alloc (.cells #[.pointer (some ⟨lb, 0, none⟩)] 56)).alloc (.cells #[.slice A n cp] 60)).heap[w.heap.size]? = some (.cells #[.pointer (some ⟨lb, 0, none⟩)] 56 (0, 0)) ∧ ((w.alloc (.cells #[.pointer (some ⟨lb, 0, none⟩)] 56)).alloc (.cells #[.slice A n cp] 60)).heap[w.heap.size + 1]? = some (.cells #[.slice A n cp] 60 (0, 0))) := ⟨by
    have e1 : (w.alloc (.cells #[.pointer (some ⟨lb, 0, none⟩)] 56)).heap.size = w.heap.size + 1 := by simp
    refine ⟨?_, ?_⟩
    · rw [Below.heap_alloc _ _ _ (by rw [e1]; omega)]
      exact heap_alloc_new _ _
    · rw [← e1]
      exact heap_alloc_new _ _⟩
  have HR0 : Aside0 (Kd.R (Kd.int .u8) 5 ((w.alloc (.cells #[.pointer (some ⟨lb, 0, none⟩)] 56)).alloc (.cells #[.slice A n cp] 60)) w.heap.size (fun b => some b = (Value.slice none 0 0).ownBlock) (.slice none 0 0) (placesL (l.take 0))) := ⟨Kd.R_nil _ _ _ _ _⟩
  have HW0 : Aside0 (((w.alloc (.cells #[.pointer (some ⟨lb, 0, none⟩)] 56)).alloc (.cells #[.slice A n cp] 60)).ownsRow w.heap.size 5 1 (.slice none 0 0) (dataL (l.take 0)).length (nums .u8 (dataL (l.take 0)))) := ⟨⟨rfl, .inl ⟨rfl, rfl⟩⟩⟩
  clear h ho hlog hn hl hr h64 f2
  go_enter Try.func58, Try.ntmps58
  go_wp2_with fail
  go_loopg [5, 6, 14] n (fun kq v5 v6 v14 W => ∃ (k : Nat), v14 = .int .i64 (k : Int) ∧ Aside0 (k + kq = n) ∧ Aside0 (Kd.R (Kd.int .u8) 5 W w.heap.size (fun b => some b = v5.ownBlock) v5 (placesL (l.take k))) ∧
    Aside0 (W.ownsRow w.heap.size 5 1 v6 (dataL (l.take k)).length (nums .u8 (dataL (l.take k)))) ∧ Aside0 (∀ b, v5.ownBlock = some b → v6.ownBlock ≠ some b) ∧ Aside0 (Below w.heap.size w W) ∧ Aside0 (W.heap[w.heap.size]? = some (.cells #[.pointer (some ⟨lb, 0, none⟩)] 56 (0, 0)) ∧ W.heap[w.heap.size + 1]? = some (.cells #[.slice A n cp] 60 (0, 0))))
  case atStart => exact ⟨0, rfl, ⟨by omega⟩, HR0, HW0, ⟨fun b e => by cases e⟩, HB0, HC0⟩
  case round =>
    clear HR0 HW0 HB0 HC0
    obtain ⟨k, rfl, HI, HR5, HR6, HAP, HB, HC⟩ := hrel
    have hk0 : (0 : Int) ≤ (k : Int) := by omega
    cases gk with
    | zero =>
      have hk : k = n := by have := HI.out; omega
      subst hk
      have htk : l.take k = l := List.take_of_length_le (by have := HN.out; omega)
      rw [htk] at HR5 HR6
      have hpl : (placesL l).length = k * 4 := by rw [placesL_length, HN.out]
      have hdl : (dataL l).length = k * 64 := by rw [dataL_length l H64.out, HN.out]
      obtain ⟨inner, ho5⟩ := Kd.R_own HR5.out
      rw [hpl] at ho5
      obtain ⟨g5, c5, rfl, _⟩ := ho5.form (by omega)
      have ho6 := HR6.out
      rw [hdl] at ho6
      obtain ⟨g6, c6, rfl, _⟩ := ho6.form (by omega)
      obtain ⟨A5, c5', e5, hcap5, hC5⟩ := Kd.R_reads HR5.out
      injection e5 with e5 e5a e5b
      subst e5 e5b
      clear e5a
      rw [hpl] at hC5 hcap5
      have BC := Aside0.mk (bclone_calls ⟨g5, 0, none⟩ c5 (k * 4) (placesL l) wr hpl (by omega) hC5)
      have HPL := Aside0.mk hpl
      have HDL := Aside0.mk hdl
      clear htk hpl hdl inner ho5 ho6 hcap5 hC5 HI
      have hne56 : g5 ≠ g6 := fun e => HAP.out g5 rfl (by rw [e]; rfl)
      clear HAP
      go_wp2_with fail
      refine BC.out.mono ?_
      rintro e w1 ⟨v1, rfl, ho1, hb1⟩
      have HO1 := Aside0.mk ho1
      have HB1 := Aside0.mk hb1
      have HR61 : Aside0 (ReadsInt w1 .u8 (some ⟨g6, 0, none⟩) (k * 64) (dataL l)) := ⟨by
        have h1 : w1.ownsRow w.heap.size 5 1 (.slice (some ⟨g6, 0, none⟩) (k * 64) c6) (dataL l).length (encs (Value.int .u8) (dataL l)) := ownsRow_kept HR6.out (fun b e => hb1.block b (own_lt HR6.out b e))
        obtain ⟨A', c', e', _, hC⟩ := Kd.R_reads (Kd.R_of_own (h1 := fun _ => rfl) (ok := fun _ => True) h1 (fun _ _ => trivial))
        rw [HDL.out] at e' hC
        injection e' with e' _ _
        subst e'
        exact Kd.reads_of_C (enc := Value.int .u8) (d := (0 : Int)) (h1 := fun _ => rfl) hC⟩
      clear ho1 hb1 BC
      go_wp2_with ((with_reducible refine gate_builtin (b := .append) (xs := #[.tmp 29, .tmp 30]) rfl ?_); at_builtin; refine print_append_row wr.heap.size rfl (.tmp 29) (.tmp 30) 22 5 .u8 1 rfl Try.underlying22 info5 (by omega) v1 (placesL l) (dataL l) (some ⟨g6, 0, none⟩) (k * 64) c6 rfl rfl HO1.out HR61.out HB1.out HB1.out.size (by have := HPL.out; omega) ?_; intro v2 w2 h1 h2 h3 h4)
      obtain ⟨A2, c2, rfl, hcap2, hC2⟩ := Kd.R_reads (Kd.R_of_own (enc := Value.int .u8) (h1 := fun _ => rfl) (ok := fun _ => True) h1 (fun _ _ => trivial))
      have SC := Aside0.mk (journal_Sum.calls A2 c2 (placesL l ++ dataL l) (sumV (placesL l ++ dataL l)) w2 hC2 hcap2 rfl)
      obtain ⟨s, hs⟩ : ∃ s, sumV (placesL l ++ dataL l) = s := ⟨_, rfl⟩
      rw [hs] at SC
      have HSU := Aside0.mk hs
      have HB2 := Aside0.mk h2
      clear h1 h2 h3 h4 hcap2 hC2 hs HO1 HB1 HR61
      have hm4 : (0 : Int) ≤ (k : Int) * 4 % 64 := by omega
      have hm5 : (k : Int) * 4 % 64 < 64 := by omega
      refine SC.out.mono ?_
      rintro e w3 ⟨rfl, ⟨nq, rfl⟩⟩
      clear SC
      have HBd : Aside0 (Below wr.heap.size wr (w2.drewN nq)) := ⟨HB2.out.trans ((Drawn0.below (⟨⟨nq, rfl⟩⟩ : Drawn0 w2 (w2.drewN nq))).mono HB2.out.size)⟩
      have HB3 : Aside0 (Below w.heap.size w (w2.drewN nq)) := ⟨HB.out.trans (HBd.out.mono HB.out.size)⟩
      have HR53 : Aside0 (Kd.R (Kd.int .u8) 5 (w2.drewN nq) w.heap.size (fun b => some b = (Value.slice (some ⟨g5, 0, none⟩) (k * 4) c5).ownBlock) (.slice (some ⟨g5, 0, none⟩) (k * 4) c5) (placesL l)) := ⟨Kd.R_below HR5.out HBd.out⟩
      have HR63 : Aside0 ((w2.drewN nq).ownsRow w.heap.size 5 1 (.slice (some ⟨g6, 0, none⟩) (k * 64) c6) (dataL l).length (nums .u8 (dataL l))) := ⟨ownsRow_kept HR6.out (fun b e => HB2.out.block b (own_lt HR6.out b e))⟩
      have HC3 : Aside0 ((w2.drewN nq).heap[w.heap.size]? = some (.cells #[.pointer (some ⟨lb, 0, none⟩)] 56 (0, 0)) ∧ (w2.drewN nq).heap[w.heap.size + 1]? = some (.cells #[.slice A k cp] 60 (0, 0))) := ⟨(HB2.out.block _ (Array.getElem?_eq_some_iff.1 HC.out.1).1).trans HC.out.1, (HB2.out.block _ (Array.getElem?_eq_some_iff.1 HC.out.2).1).trans HC.out.2⟩
      clear HB2 HBd HR5 HR6 HC HB
      generalize w2.drewN nq = W3 at *
      have wa : Below W3.heap.size W3 (W3.alloc (.cells #[.int .u32 s] 23)) := (Below.refl _ _).alloc (Nat.le_refl _) _
      have HB4 : Aside0 (Below w.heap.size w (W3.alloc (.cells #[.int .u32 s] 23))) := ⟨HB3.out.trans (wa.mono HB3.out.size)⟩
      have HR54 : Aside0 (Kd.R (Kd.int .u8) 5 (W3.alloc (.cells #[.int .u32 s] 23)) w.heap.size (fun b => some b = (Value.slice (some ⟨g5, 0, none⟩) (k * 4) c5).ownBlock ∨ W3.heap.size < b) (.slice (some ⟨g5, 0, none⟩) (k * 4) c5) (placesL l)) := ⟨Kd.R_mono (Kd.R_below HR53.out wa) (fun _ h => .inl h)⟩
      have HR64 : Aside0 ((W3.alloc (.cells #[.int .u32 s] 23)).ownsRow w.heap.size 5 1 (.slice (some ⟨g6, 0, none⟩) (k * 64) c6) (dataL l).length (nums .u8 (dataL l))) := ⟨ownsRow_kept HR63.out (fun b e => wa.block b (own_lt HR63.out b e))⟩
      have HC4 : Aside0 ((W3.alloc (.cells #[.int .u32 s] 23)).heap[w.heap.size]? = some (.cells #[.pointer (some ⟨lb, 0, none⟩)] 56 (0, 0)) ∧ (W3.alloc (.cells #[.int .u32 s] 23)).heap[w.heap.size + 1]? = some (.cells #[.slice A k cp] 60 (0, 0))) := ⟨(wa.block _ (Array.getElem?_eq_some_iff.1 HC3.out.1).1).trans HC3.out.1, (wa.block _ (Array.getElem?_eq_some_iff.1 HC3.out.2).1).trans HC3.out.2⟩
      have HS4 : Aside0 ((W3.alloc (.cells #[.int .u32 s] 23)).heap[W3.heap.size]? = some (.cells #[.int .u32 s] 23 (0, 0)) ∧ w.heap.size + 2 ≤ W3.heap.size) := ⟨heap_alloc_new _ _, by have := (Array.getElem?_eq_some_iff.1 HC3.out.2).1; omega⟩
      have h62 : g6 < W3.heap.size := own_lt HR63.out g6 rfl
      have h52 : g5 < W3.heap.size := by
        obtain ⟨inner, ho⟩ := Kd.R_own HR53.out
        exact own_lt ho g5 rfl
      clear HB3 HR53 HR63 HC3 wa
      have HNB : Aside0 (¬ B w.heap.size) := ⟨fun h => by have := H.out.lt _ h; omega⟩
      by_cases hrem : (k : Int) * 4 % 64 = 0
      · have e5 : k * 4 = padN k * 64 := by unfold padN; omega
        have HT := Aside0.mk (fun w7 p1 q1 p2 q2 => com_tail e0 D0 lb g dn B D A cp k l s w (W3.alloc (.cells #[.int .u32 s] 23)) g5 g6 c5 c6 W3.heap.size i H.out HO.out hi HLG.out hlb HN.out hn0 hn64 HL.out HR.out H64.out HSU.out HR0'.out HB4.out
          (by
            rw [← e5]
            have e6 : padL k (placesL l) = placesL l := by unfold padL; rw [show (64 - k * 4 % 64) % 64 = 0 by omega, List.replicate_zero, List.append_nil]
            rw [e6]
            exact Kd.R_mono HR54.out (fun _ _ => trivial)) HR64.out HC4.out HS4.out.1 (by have := HS4.out.2; omega) w7 p1 q1 p2 q2)
        have S0 : Aside0 ((W3.alloc (.cells #[.int .u32 s] 23)).cell? ⟨w.heap.size, 0, none⟩ = some (.pointer (some ⟨lb, 0, none⟩)) ∧ (W3.alloc (.cells #[.int .u32 s] 23)).cell? ⟨lb, 0, none⟩ = some (.pointer (some ⟨g, 0, none⟩))) := ⟨And.intro ((cell_of_row _ _ 0 _ _ _ HC4.out.1).trans rfl) (cell_later HB4.out HLG.out.cells.1)⟩
        have E5 := Aside0.mk e5
        have DR := Aside0.mk (drew_below (W3.alloc (.cells #[.int .u32 s] 23)))
        clear e5
        go_wp2_with fail
        rw [E5.out]
        refine wp_region_held_drew (S := fun W => W.cell? ⟨w.heap.size, 0, none⟩ = some (.pointer (some ⟨lb, 0, none⟩)) ∧ W.cell? ⟨lb, 0, none⟩ = some (.pointer (some ⟨g, 0, none⟩))) (by kernel_rfl) S0.out (fun hHeld => ?_)
        refine wpAnyH_take (i := 0) (oi := ⟨some 43, _, _, _, _, _⟩) (v := ?_) rfl (by kernel_rfl) (by kernel_rfl) (by kernel_rfl) (fun _ _ _ h => h) (Or.inl ⟨by rfl, ?hyA1⟩) (by assumption) ?rsA1
        case hyA1 => (intro w' hSw; (try dsimp only at hSw); (first | (go_simp; done) | (go_simp; with_reducible rfl)))
        try simp only [Act.put, List.setIfInBounds_toArray, List.set_cons_zero, List.set_cons_succ]
        refine wpAnyH_take (i := 1) (oi := ⟨some 44, _, _, _, _, _⟩) (v := ?_) rfl (by kernel_rfl) (by kernel_rfl) (by kernel_rfl) (fun _ _ _ h => h) (Or.inl ⟨by rfl, ?hyA2⟩) (by assumption) ?rsA2
        case hyA2 => (intro w' hSw; (try dsimp only at hSw); (first | (go_simp; done) | (go_simp; with_reducible rfl)))
        try simp only [Act.put, List.setIfInBounds_toArray, List.set_cons_zero, List.set_cons_succ]
        refine wpAnyH_take (i := 3) (oi := ⟨some 46, _, _, _, _, _⟩) (v := ?_) rfl (by kernel_rfl) (by kernel_rfl) (by kernel_rfl) (fun _ _ _ h => h) (Or.inl ⟨by rfl, ?hyA3⟩) (by assumption) ?rsA3
        case hyA3 => (intro w' hSw; (try dsimp only at hSw); (first | (go_simp; done) | (go_simp; with_reducible rfl)))
        try simp only [Act.put, List.setIfInBounds_toArray, List.set_cons_zero, List.set_cons_succ]
        refine wpAnyH_take (i := 4) (oi := ⟨some 47, _, _, _, _, _⟩) (v := ?_) rfl (by kernel_rfl) (by kernel_rfl) (by kernel_rfl) (fun _ _ _ h => h) (Or.inl ⟨by rfl, ?hyA4⟩) (by assumption) ?rsA4
        case hyA4 => (intro w' hSw; (try dsimp only at hSw); (first | (go_simp; done) | (go_simp; with_reducible rfl)))
        try simp only [Act.put, List.setIfInBounds_toArray, List.set_cons_zero, List.set_cons_succ]
        refine wpAnyH_take (i := 6) (oi := ⟨some 49, _, _, _, _, _⟩) (v := ?_) rfl (by kernel_rfl) (by kernel_rfl) (by kernel_rfl) (fun _ _ _ h => h) (Or.inl ⟨by rfl, ?hyA5⟩) (by assumption) ?rsA5
        case hyA5 => (intro w' hSw; (try dsimp only at hSw); (first | (go_simp; done) | (go_simp; with_reducible rfl)))
        try simp only [Act.put, List.setIfInBounds_toArray, List.set_cons_zero, List.set_cons_succ]
        refine wpAnyH_take (i := 7) (oi := ⟨some 50, _, _, _, _, _⟩) (v := ?_) rfl (by kernel_rfl) (by kernel_rfl) (by kernel_rfl) (fun _ _ _ h => h) (Or.inl ⟨by rfl, ?hyA6⟩) (by assumption) ?rsA6
        case hyA6 => (intro w' hSw; (try dsimp only at hSw); (first | (go_simp; done) | (go_simp; with_reducible rfl)))
        try simp only [Act.put, List.setIfInBounds_toArray, List.set_cons_zero, List.set_cons_succ]
        refine wpAnyH_take (i := 8) (oi := ⟨some 51, _, _, _, _, _⟩) (v := ?_) rfl (by kernel_rfl) (by kernel_rfl) (by kernel_rfl) (fun _ _ _ h => h) (Or.inl ⟨by rfl, ?hyA7⟩) (by assumption) ?rsA7
        case hyA7 => (intro w' hSw; (try dsimp only at hSw); (first | (go_simp; done) | (go_simp; with_reducible rfl)))
        try simp only [Act.put, List.setIfInBounds_toArray, List.set_cons_zero, List.set_cons_succ]
        refine wpAnyH_take (i := 9) (oi := ⟨some 52, _, _, _, _, _⟩) (v := ?_) rfl (by kernel_rfl) (by kernel_rfl) (by kernel_rfl) (fun _ _ _ h => h) (Or.inl ⟨by rfl, ?hyA8⟩) (by assumption) ?rsA8
        case hyA8 => (intro w' hSw; (try dsimp only at hSw); (first | (go_simp; done) | (go_simp; with_reducible rfl)))
        try simp only [Act.put, List.setIfInBounds_toArray, List.set_cons_zero, List.set_cons_succ]
        refine wpAnyH_take (i := 10) (oi := ⟨some 53, _, _, _, _, _⟩) (v := ?_) rfl (by kernel_rfl) (by kernel_rfl) (by kernel_rfl) (fun _ _ _ h => h) (Or.inl ⟨by rfl, ?hyA9⟩) (by assumption) ?rsA9
        case hyA9 => (intro w' hSw; (try dsimp only at hSw); (first | (go_simp; done) | (go_simp; with_reducible rfl)))
        try simp only [Act.put, List.setIfInBounds_toArray, List.set_cons_zero, List.set_cons_succ]
        refine wpAnyH_take (i := 11) (oi := ⟨some 54, _, _, _, _, _⟩) (v := ?_) rfl (by kernel_rfl) (by kernel_rfl) (by kernel_rfl) (fun _ _ _ h => h) (Or.inl ⟨by rfl, ?hyA10⟩) (by assumption) ?rsA10
        case hyA10 => (intro w' hSw; (try dsimp only at hSw); (first | (go_simp; done) | (go_simp; with_reducible rfl)))
        try simp only [Act.put, List.setIfInBounds_toArray, List.set_cons_zero, List.set_cons_succ]
        refine wpAnyH_take (i := 12) (oi := ⟨some 55, _, _, _, _, _⟩) (v := ?_) rfl (by kernel_rfl) (by kernel_rfl) (by kernel_rfl) (fun _ _ _ h => h) (Or.inl ⟨by rfl, ?hyA11⟩) (by assumption) ?rsA11
        case hyA11 => (intro w' hSw; (try dsimp only at hSw); (first | (go_simp; done) | (go_simp; with_reducible rfl)))
        try simp only [Act.put, List.setIfInBounds_toArray, List.set_cons_zero, List.set_cons_succ]
        refine wpAnyH_ready (rs := [2]) (by kernel_rfl) (by simp) ?_
        refine AllReadyH.cons rfl (fun K hK => ?_) AllReadyH.nil
        go_simp
        refine (mk_calls 5 _ _ _ _ _).mono ?_
        rintro e w6 ⟨p1, q1, rfl, k1, k2, k3, k4, k5⟩
        have K6 := Aside0.mk k5
        have P1 := Aside0.mk (And.intro k1 (And.intro k2 (And.intro k3 k4)))
        have S6 := Aside0.mk (And.intro (cell_later K6.out S0.out.1) (cell_later K6.out S0.out.2))
        clear k1 k2 k3 k4 k5 hHeld
        go_simp
        refine hK.out _ _ S6.out (fun hHeld => ?_)
        clear hK K
        try simp only [Act.put, List.setIfInBounds_toArray, List.set_cons_zero, List.set_cons_succ]
        refine wpAnyH_ready (rs := [5]) (by kernel_rfl) (by simp) ?_
        refine AllReadyH.cons rfl (fun K hK => ?_) AllReadyH.nil
        go_simp
        refine (mk_calls 1 _ _ _ _ _).mono ?_
        rintro e w7 ⟨p2, q2, rfl, k1, k2, k3, k4, k5⟩
        have K7 := Aside0.mk k5
        have P2 := Aside0.mk (And.intro k1 (And.intro k2 (And.intro k3 k4)))
        have S7 := Aside0.mk (And.intro (cell_later K7.out S6.out.1) (cell_later K7.out S6.out.2))
        clear k1 k2 k3 k4 k5 hHeld
        go_simp
        refine hK.out _ _ S7.out (fun hHeld => ?_)
        clear hK K
        try simp only [Act.put, List.setIfInBounds_toArray, List.set_cons_zero, List.set_cons_succ]
        refine wpAnyH_ready (rs := [13]) (by kernel_rfl) (by simp) ?_
        refine AllReadyH.cons rfl (fun K hK => ?_) AllReadyH.nil
        go_simp
        clear hHeld
        refine hK.out _ _ ⟨cell_later ((Below.refl _ _).alloc (Nat.le_refl _) _) S7.out.1, cell_later ((Below.refl _ _).alloc (Nat.le_refl _) _) S7.out.2⟩ (fun hHeld => ?_)
        clear hK K
        try simp only [Act.put, List.setIfInBounds_toArray, List.set_cons_zero, List.set_cons_succ]
        refine wpAnyH_ready (rs := [14]) (by kernel_rfl) (by simp) ?_
        refine AllReadyH.cons rfl (fun K hK => ?_) AllReadyH.nil
        go_simp
        refine (HT.out w7 p1 q1 p2 q2 ((DR.out w6 K6.out).trans (K7.out.mono K6.out.size)) P1.out.1 P1.out.2.1 (Nat.le_trans K6.out.size P2.out.1) (Nat.le_trans K6.out.size P2.out.2.1) (cell_later K7.out P1.out.2.2.1) (cell_later K7.out P1.out.2.2.2) P2.out.2.2.1 P2.out.2.2.2).mono ?_
        rintro e w9 ⟨rfl, m, h9⟩
        have M := Aside0.mk m
        have S9 := Aside0.mk (And.intro (h9 ⟨w.heap.size, 0, none⟩ _ HNB.out S7.out.1) (h9 ⟨lb, 0, none⟩ _ hlb S7.out.2))
        clear m h9 hHeld
        go_simp
        refine hK.out _ _ S9.out (fun hHeld => ?_)
        clear hK K
        try simp only [Act.put, List.setIfInBounds_toArray, List.set_cons_zero, List.set_cons_succ]
        refine wpAnyH_take (i := 15) (oi := ⟨some 4, _, _, _, _, _⟩) (v := ?_) rfl (by kernel_rfl) (by kernel_rfl) (by kernel_rfl) (fun _ _ _ h => h) (Or.inl ⟨by rfl, ?hyA12⟩) (by assumption) ?rsA12
        case hyA12 => (intro w' hSw; (try dsimp only at hSw); (first | (go_simp; done) | (go_simp; with_reducible rfl)))
        try simp only [Act.put, List.setIfInBounds_toArray, List.set_cons_zero, List.set_cons_succ]
        refine wpAnyH_done (by kernel_rfl) ?_ _
        go_wp2_with fail
        go_ret
        exact ⟨rfl, M.out⟩
      · have hrem1 : (0 : Int) < (k : Int) * 4 % 64 := by omega
        go_wp2_with ((with_reducible refine gate_builtin (b := .append) (xs := #[.tmp 38, .tmp 40]) rfl ?_); at_builtin; refine Kd.R_append_zeros (Kd.int .u8) w.heap.size rfl (.tmp 38) (.tmp 40) 22 3 5 (.int .u8 0) 1 rfl Try.underlying22 Try.underlying3 info5 rfl (by decide) (by decide) (.slice (some ⟨g5, 0, none⟩) (k * 4) c5) (placesL l) 0 (64 - (k : Int) * 4 % 64) (fun b => some b = (Value.slice (some ⟨g5, 0, none⟩) (k * 4) c5).ownBlock ∨ W3.heap.size < b) rfl rfl rfl (fun b h => .inr (by simp at h; omega)) HR54.out (by omega) HB4.out HB4.out.size (by have := HPL.out; omega) ?_; intro v5 W5 r5 b5 gr5 at5)
        have hpad : (placesL l ++ List.replicate (64 - (k : Int) * 4 % 64).toNat 0) = padL k (placesL l) := by
          unfold padL
          rw [show (64 - (k : Int) * 4 % 64).toNat = (64 - k * 4 % 64) % 64 by omega]
        rw [hpad] at r5
        have hpl5 : (padL k (placesL l)).length = padN k * 64 := padL_length HPL.out
        obtain ⟨inner, ho5⟩ := Kd.R_own r5
        rw [hpl5] at ho5
        obtain ⟨g5', c5', rfl, _⟩ := ho5.form (by unfold padN; omega)
        have w45 : ∀ b, b < W3.heap.size + 1 → b ≠ g5 → W5.heap[b]? = (W3.alloc (.cells #[.int .u32 s] 23)).heap[b]? := fun b hb hne => gr5.block b (by simpa using hb) (fun e => hne (by injection e))
        have hz3 := HS4.out.2
        have HT := Aside0.mk (fun w7 p1 q1 p2 q2 => com_tail e0 D0 lb g dn B D A cp k l s w W5 g5' g6 c5' c6 W3.heap.size i H.out HO.out hi HLG.out hlb HN.out hn0 hn64 HL.out HR.out H64.out HSU.out HR0'.out b5
          (Kd.R_mono r5 (fun _ _ => trivial)) (ownsRow_kept HR64.out (fun b e => by
            have e : g6 = b := by simpa [Value.ownBlock] using e
            subst e
            exact w45 g6 (by omega) (fun e => hne56 e.symm)))
          ⟨(w45 _ (by omega) (fun e => Kd.R_ne HR54.out HC4.out.1 (by decide) (by rw [e]; rfl))).trans HC4.out.1, (w45 _ (by omega) (fun e => Kd.R_ne HR54.out HC4.out.2 (by decide) (by rw [e]; rfl))).trans HC4.out.2⟩
          ((w45 _ (by omega) (by omega)).trans HS4.out.1) (by omega) w7 p1 q1 p2 q2)
        have S0 : Aside0 (W5.cell? ⟨w.heap.size, 0, none⟩ = some (.pointer (some ⟨lb, 0, none⟩)) ∧ W5.cell? ⟨lb, 0, none⟩ = some (.pointer (some ⟨g, 0, none⟩))) := ⟨And.intro ((cell_of_row W5 _ 0 _ _ _ ((w45 _ (by omega) (fun e => Kd.R_ne HR54.out HC4.out.1 (by decide) (by rw [e]; rfl))).trans HC4.out.1)).trans rfl) (cell_later b5 HLG.out.cells.1)⟩
        have DR := Aside0.mk (drew_below W5)
        clear r5 b5 gr5 at5 hpad hpl5 inner ho5 w45 hz3 hrem hrem1 hm4 hm5
        refine wp_region_held_drew (S := fun W => W.cell? ⟨w.heap.size, 0, none⟩ = some (.pointer (some ⟨lb, 0, none⟩)) ∧ W.cell? ⟨lb, 0, none⟩ = some (.pointer (some ⟨g, 0, none⟩))) (by kernel_rfl) S0.out (fun hHeld => ?_)
        refine wpAnyH_take (i := 0) (oi := ⟨some 43, _, _, _, _, _⟩) (v := ?_) rfl (by kernel_rfl) (by kernel_rfl) (by kernel_rfl) (fun _ _ _ h => h) (Or.inl ⟨by rfl, ?hyB1⟩) (by assumption) ?rsB1
        case hyB1 => (intro w' hSw; (try dsimp only at hSw); (first | (go_simp; done) | (go_simp; with_reducible rfl)))
        try simp only [Act.put, List.setIfInBounds_toArray, List.set_cons_zero, List.set_cons_succ]
        refine wpAnyH_take (i := 1) (oi := ⟨some 44, _, _, _, _, _⟩) (v := ?_) rfl (by kernel_rfl) (by kernel_rfl) (by kernel_rfl) (fun _ _ _ h => h) (Or.inl ⟨by rfl, ?hyB2⟩) (by assumption) ?rsB2
        case hyB2 => (intro w' hSw; (try dsimp only at hSw); (first | (go_simp; done) | (go_simp; with_reducible rfl)))
        try simp only [Act.put, List.setIfInBounds_toArray, List.set_cons_zero, List.set_cons_succ]
        refine wpAnyH_take (i := 3) (oi := ⟨some 46, _, _, _, _, _⟩) (v := ?_) rfl (by kernel_rfl) (by kernel_rfl) (by kernel_rfl) (fun _ _ _ h => h) (Or.inl ⟨by rfl, ?hyB3⟩) (by assumption) ?rsB3
        case hyB3 => (intro w' hSw; (try dsimp only at hSw); (first | (go_simp; done) | (go_simp; with_reducible rfl)))
        try simp only [Act.put, List.setIfInBounds_toArray, List.set_cons_zero, List.set_cons_succ]
        refine wpAnyH_take (i := 4) (oi := ⟨some 47, _, _, _, _, _⟩) (v := ?_) rfl (by kernel_rfl) (by kernel_rfl) (by kernel_rfl) (fun _ _ _ h => h) (Or.inl ⟨by rfl, ?hyB4⟩) (by assumption) ?rsB4
        case hyB4 => (intro w' hSw; (try dsimp only at hSw); (first | (go_simp; done) | (go_simp; with_reducible rfl)))
        try simp only [Act.put, List.setIfInBounds_toArray, List.set_cons_zero, List.set_cons_succ]
        refine wpAnyH_take (i := 6) (oi := ⟨some 49, _, _, _, _, _⟩) (v := ?_) rfl (by kernel_rfl) (by kernel_rfl) (by kernel_rfl) (fun _ _ _ h => h) (Or.inl ⟨by rfl, ?hyB5⟩) (by assumption) ?rsB5
        case hyB5 => (intro w' hSw; (try dsimp only at hSw); (first | (go_simp; done) | (go_simp; with_reducible rfl)))
        try simp only [Act.put, List.setIfInBounds_toArray, List.set_cons_zero, List.set_cons_succ]
        refine wpAnyH_take (i := 7) (oi := ⟨some 50, _, _, _, _, _⟩) (v := ?_) rfl (by kernel_rfl) (by kernel_rfl) (by kernel_rfl) (fun _ _ _ h => h) (Or.inl ⟨by rfl, ?hyB6⟩) (by assumption) ?rsB6
        case hyB6 => (intro w' hSw; (try dsimp only at hSw); (first | (go_simp; done) | (go_simp; with_reducible rfl)))
        try simp only [Act.put, List.setIfInBounds_toArray, List.set_cons_zero, List.set_cons_succ]
        refine wpAnyH_take (i := 8) (oi := ⟨some 51, _, _, _, _, _⟩) (v := ?_) rfl (by kernel_rfl) (by kernel_rfl) (by kernel_rfl) (fun _ _ _ h => h) (Or.inl ⟨by rfl, ?hyB7⟩) (by assumption) ?rsB7
        case hyB7 => (intro w' hSw; (try dsimp only at hSw); (first | (go_simp; done) | (go_simp; with_reducible rfl)))
        try simp only [Act.put, List.setIfInBounds_toArray, List.set_cons_zero, List.set_cons_succ]
        refine wpAnyH_take (i := 9) (oi := ⟨some 52, _, _, _, _, _⟩) (v := ?_) rfl (by kernel_rfl) (by kernel_rfl) (by kernel_rfl) (fun _ _ _ h => h) (Or.inl ⟨by rfl, ?hyB8⟩) (by assumption) ?rsB8
        case hyB8 => (intro w' hSw; (try dsimp only at hSw); (first | (go_simp; done) | (go_simp; with_reducible rfl)))
        try simp only [Act.put, List.setIfInBounds_toArray, List.set_cons_zero, List.set_cons_succ]
        refine wpAnyH_take (i := 10) (oi := ⟨some 53, _, _, _, _, _⟩) (v := ?_) rfl (by kernel_rfl) (by kernel_rfl) (by kernel_rfl) (fun _ _ _ h => h) (Or.inl ⟨by rfl, ?hyB9⟩) (by assumption) ?rsB9
        case hyB9 => (intro w' hSw; (try dsimp only at hSw); (first | (go_simp; done) | (go_simp; with_reducible rfl)))
        try simp only [Act.put, List.setIfInBounds_toArray, List.set_cons_zero, List.set_cons_succ]
        refine wpAnyH_take (i := 11) (oi := ⟨some 54, _, _, _, _, _⟩) (v := ?_) rfl (by kernel_rfl) (by kernel_rfl) (by kernel_rfl) (fun _ _ _ h => h) (Or.inl ⟨by rfl, ?hyB10⟩) (by assumption) ?rsB10
        case hyB10 => (intro w' hSw; (try dsimp only at hSw); (first | (go_simp; done) | (go_simp; with_reducible rfl)))
        try simp only [Act.put, List.setIfInBounds_toArray, List.set_cons_zero, List.set_cons_succ]
        refine wpAnyH_take (i := 12) (oi := ⟨some 55, _, _, _, _, _⟩) (v := ?_) rfl (by kernel_rfl) (by kernel_rfl) (by kernel_rfl) (fun _ _ _ h => h) (Or.inl ⟨by rfl, ?hyB11⟩) (by assumption) ?rsB11
        case hyB11 => (intro w' hSw; (try dsimp only at hSw); (first | (go_simp; done) | (go_simp; with_reducible rfl)))
        try simp only [Act.put, List.setIfInBounds_toArray, List.set_cons_zero, List.set_cons_succ]
        refine wpAnyH_ready (rs := [2]) (by kernel_rfl) (by simp) ?_
        refine AllReadyH.cons rfl (fun K hK => ?_) AllReadyH.nil
        go_simp
        refine (mk_calls 5 _ _ _ _ _).mono ?_
        rintro e w6 ⟨p1, q1, rfl, k1, k2, k3, k4, k5⟩
        have K6 := Aside0.mk k5
        have P1 := Aside0.mk (And.intro k1 (And.intro k2 (And.intro k3 k4)))
        have S6 := Aside0.mk (And.intro (cell_later K6.out S0.out.1) (cell_later K6.out S0.out.2))
        clear k1 k2 k3 k4 k5 hHeld
        go_simp
        refine hK.out _ _ S6.out (fun hHeld => ?_)
        clear hK K
        try simp only [Act.put, List.setIfInBounds_toArray, List.set_cons_zero, List.set_cons_succ]
        refine wpAnyH_ready (rs := [5]) (by kernel_rfl) (by simp) ?_
        refine AllReadyH.cons rfl (fun K hK => ?_) AllReadyH.nil
        go_simp
        refine (mk_calls 1 _ _ _ _ _).mono ?_
        rintro e w7 ⟨p2, q2, rfl, k1, k2, k3, k4, k5⟩
        have K7 := Aside0.mk k5
        have P2 := Aside0.mk (And.intro k1 (And.intro k2 (And.intro k3 k4)))
        have S7 := Aside0.mk (And.intro (cell_later K7.out S6.out.1) (cell_later K7.out S6.out.2))
        clear k1 k2 k3 k4 k5 hHeld
        go_simp
        refine hK.out _ _ S7.out (fun hHeld => ?_)
        clear hK K
        try simp only [Act.put, List.setIfInBounds_toArray, List.set_cons_zero, List.set_cons_succ]
        refine wpAnyH_ready (rs := [13]) (by kernel_rfl) (by simp) ?_
        refine AllReadyH.cons rfl (fun K hK => ?_) AllReadyH.nil
        go_simp
        clear hHeld
        refine hK.out _ _ ⟨cell_later ((Below.refl _ _).alloc (Nat.le_refl _) _) S7.out.1, cell_later ((Below.refl _ _).alloc (Nat.le_refl _) _) S7.out.2⟩ (fun hHeld => ?_)
        clear hK K
        try simp only [Act.put, List.setIfInBounds_toArray, List.set_cons_zero, List.set_cons_succ]
        refine wpAnyH_ready (rs := [14]) (by kernel_rfl) (by simp) ?_
        refine AllReadyH.cons rfl (fun K hK => ?_) AllReadyH.nil
        go_simp
        refine (HT.out w7 p1 q1 p2 q2 ((DR.out w6 K6.out).trans (K7.out.mono K6.out.size)) P1.out.1 P1.out.2.1 (Nat.le_trans K6.out.size P2.out.1) (Nat.le_trans K6.out.size P2.out.2.1) (cell_later K7.out P1.out.2.2.1) (cell_later K7.out P1.out.2.2.2) P2.out.2.2.1 P2.out.2.2.2).mono ?_
        rintro e w9 ⟨rfl, m, h9⟩
        have M := Aside0.mk m
        have S9 := Aside0.mk (And.intro (h9 ⟨w.heap.size, 0, none⟩ _ HNB.out S7.out.1) (h9 ⟨lb, 0, none⟩ _ hlb S7.out.2))
        clear m h9 hHeld
        go_simp
        refine hK.out _ _ S9.out (fun hHeld => ?_)
        clear hK K
        try simp only [Act.put, List.setIfInBounds_toArray, List.set_cons_zero, List.set_cons_succ]
        refine wpAnyH_take (i := 15) (oi := ⟨some 4, _, _, _, _, _⟩) (v := ?_) rfl (by kernel_rfl) (by kernel_rfl) (by kernel_rfl) (fun _ _ _ h => h) (Or.inl ⟨by rfl, ?hyB12⟩) (by assumption) ?rsB12
        case hyB12 => (intro w' hSw; (try dsimp only at hSw); (first | (go_simp; done) | (go_simp; with_reducible rfl)))
        try simp only [Act.put, List.setIfInBounds_toArray, List.set_cons_zero, List.set_cons_succ]
        refine wpAnyH_done (by kernel_rfl) ?_ _
        go_wp2_with fail
        go_ret
        exact ⟨rfl, M.out⟩
    | succ k1 =>
      have hk1 : (k : Int) < (n : Int) := by have := HI.out; omega
      have HI3 : Aside0 (k + 1 + k1 = n) := ⟨by have := HI.out; omega⟩
      obtain ⟨x, hx⟩ : ∃ x, l[k]? = some x := ⟨_, List.getElem?_eq_getElem (by rw [HN.out]; omega)⟩
      obtain ⟨ad, A1, cap1, rfl, g1, g2, g3, g4⟩ := stab_102 (B' := B) HN.out HL.out (Fr.refl B w) (fun _ h => .inl h) hx
      replace g1 := cell_later HB.out g1
      replace g2 := cell_later HB.out g2
      obtain ⟨r1, r2⟩ := HR.out x (List.mem_of_getElem? hx)
      rw [H64.out x (List.mem_of_getElem? hx)] at g2 g3 g4
      have G4 := Aside0.mk g4
      have G3 := Aside0.mk g3
      have HX := Aside0.mk hx
      clear g4 g3 hx
      go_wp2_with fail
      have wa : Below wr.heap.size wr (wr.alloc (.cells #[.int .i64 x.f0, .slice A1 64 cap1] 102)) := (Below.refl _ _).alloc (Nat.le_refl _) _
      have hbx : (wr.alloc (.cells #[.int .i64 x.f0, .slice A1 64 cap1] 102)).heap[wr.heap.size]? = some (.cells #[.int .i64 x.f0, .slice A1 64 cap1] 102 (0, 0)) := heap_alloc_new _ _
      have HPL : Aside0 ((placesL (l.take k)).length ≤ 1000000) := ⟨by rw [placesL_length, List.length_take]; have := HN.out; omega⟩
      refine (journal_four.calls (fun b => some b = u5.ownBlock) u5 (placesL (l.take k)) x.f0 _ w _ (HB.out.trans (wa.mono HB.out.size)) (Kd.R_below HR5.out wa) (four_f HPL.out)).mono ?_
      rintro e w2 ⟨v5, rfl, r5, b5, k5⟩
      have h5lt : ∀ b, some b = u5.ownBlock → b < wr.heap.size := fun b e => by
        obtain ⟨inner, ho⟩ := Kd.R_own HR5.out
        exact own_lt ho b e.symm
      have hkeep : ∀ b, b < wr.heap.size → some b ≠ u5.ownBlock → w2.heap[b]? = wr.heap[b]? := fun b hb hne => (k5.2 b (by simp; omega) hne).trans (wa.block b hb)
      have HX2 : Aside0 (w2.cell? ⟨wr.heap.size, 1, none⟩ = some (.slice A1 64 cap1)) := ⟨by
        have e1 : w2.heap[wr.heap.size]? = some (.cells #[.int .i64 x.f0, .slice A1 64 cap1] 102 (0, 0)) := (k5.2 _ (by simp) (fun e => by have := h5lt _ e; omega)).trans hbx
        rw [cell_of_row _ _ _ _ _ _ e1]
        rfl⟩
      have HR5' : Aside0 (Kd.R (Kd.int .u8) 5 w2 w.heap.size (fun b => some b = v5.ownBlock) v5 (placesL (l.take (k + 1)))) := ⟨by
        have e1 : placesL (l.take (k + 1)) = placesL (l.take k) ++ fourL x.f0 := by
          obtain ⟨hlt, hget⟩ := List.getElem?_eq_some_iff.1 HX.out
          rw [List.take_succ_eq_append_getElem hlt, hget]
          simp [placesL, List.flatMap_append]
        rw [e1]
        exact Kd.R_tight rfl r5⟩
      have HR6' : Aside0 (w2.ownsRow w.heap.size 5 1 u6 (dataL (l.take k)).length (nums .u8 (dataL (l.take k)))) := ⟨ownsRow_kept HR6.out (fun b e => hkeep b (own_lt HR6.out b e) (fun e' => HAP.out b e'.symm e))⟩
      have HAP' : Aside0 (∀ b, v5.ownBlock = some b → u6.ownBlock ≠ some b) := ⟨fun b e e6 => (r5.1 b e).elim (fun h => HAP.out b h.symm e6) (fun h => by have := own_lt HR6.out b e6; simp at h; omega)⟩
      have HC' : Aside0 (w2.heap[w.heap.size]? = some (.cells #[.pointer (some ⟨lb, 0, none⟩)] 56 (0, 0)) ∧ w2.heap[w.heap.size + 1]? = some (.cells #[.slice (some ad) n cp] 60 (0, 0))) := ⟨by
        have t1 := HC.out.1
        have t2 := HC.out.2
        exact ⟨(hkeep _ (Array.getElem?_eq_some_iff.1 t1).1 (Kd.R_ne HR5.out t1 (by decide))).trans t1, (hkeep _ (Array.getElem?_eq_some_iff.1 t2).1 (Kd.R_ne HR5.out t2 (by decide))).trans t2⟩⟩
      have HB' := Aside0.mk b5
      have hx2 := HX2.out
      clear r5 b5 k5 h5lt hkeep wa hbx HR5 HR6 HAP HC
      have HRD : Aside0 (ReadsInt w2 .u8 A1 64 x.f1) := ⟨Kd.reads_of_C (enc := Value.int .u8) (d := (0 : Int)) (h1 := fun _ => rfl) (G4.out w2 (Fr.of_below HB'.out B))⟩
      have HDL : Aside0 ((dataL (l.take k)).length ≤ 1000000) := ⟨by rw [dataL_length _ (fun y hy => H64.out y (List.mem_of_mem_take hy)), List.length_take]; have := HN.out; omega⟩
      go_wp2_with ((with_reducible refine gate_builtin (b := .append) (xs := #[.tmp 23, .tmp 25]) rfl ?_); at_builtin; refine print_append_row w.heap.size rfl (.tmp 23) (.tmp 25) 22 5 .u8 1 rfl Try.underlying22 info5 (by omega) u6 (dataL (l.take k)) x.f1 A1 64 cap1 rfl rfl HR6'.out HRD.out HB'.out HB'.out.size (by have := HDL.out; omega) ?_; intro v6 w3 h1 h2 h3 h4)
      have e1 : dataL (l.take (k + 1)) = dataL (l.take k) ++ x.f1 := by
        obtain ⟨hlt, hget⟩ := List.getElem?_eq_some_iff.1 HX.out
        rw [List.take_succ_eq_append_getElem hlt, hget]
        simp [dataL, List.flatMap_append]
      rw [← e1] at h1
      have ne5 : ∀ b, v5.ownBlock = some b → some b ≠ u6.ownBlock := fun b e e' => HAP'.out b e e'.symm
      have HR5'' : Aside0 (Kd.R (Kd.int .u8) 5 w3 w.heap.size (fun b => some b = v5.ownBlock) v5 (placesL (l.take (k + 1)))) := ⟨Kd.R_grown HR5'.out h3 (fun b e => ne5 b e.symm)⟩
      have HR6'' := Aside0.mk h1
      have HAP'' : Aside0 (∀ b, v5.ownBlock = some b → v6.ownBlock ≠ some b) := ⟨fun b e e6 => by
        rcases h4 with h4 | ⟨b', h4, h5⟩
        · exact HAP'.out b e (h4 ▸ e6)
        · rw [h4] at e6
          injection e6 with e6
          obtain ⟨inner, ho⟩ := Kd.R_own HR5'.out
          have := own_lt ho b e
          omega⟩
      have HC'' : Aside0 (w3.heap[w.heap.size]? = some (.cells #[.pointer (some ⟨lb, 0, none⟩)] 56 (0, 0)) ∧ w3.heap[w.heap.size + 1]? = some (.cells #[.slice (some ad) n cp] 60 (0, 0))) := ⟨by
        have t1 := HC'.out.1
        have t2 := HC'.out.2
        exact ⟨(h3.block _ (Array.getElem?_eq_some_iff.1 t1).1 (own_ne HR6'.out t1 (by decide))).trans t1, (h3.block _ (Array.getElem?_eq_some_iff.1 t2).1 (own_ne HR6'.out t2 (by decide))).trans t2⟩⟩
      have HB'' := Aside0.mk h2
      clear h1 h2 h3 h4 e1 ne5 HR5' HR6' HAP' HC' HB' hx2 g1 g2
      go_roundg k1
      case measure => omega
      case rel => exact ⟨k + 1, by go_num, HI3, HR5'', HR6'', HAP'', HB'', HC''⟩
end Go.Proofs.Ytppgbfkhiofjiaa.X
