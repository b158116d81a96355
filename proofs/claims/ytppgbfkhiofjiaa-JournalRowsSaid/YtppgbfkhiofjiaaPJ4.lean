/-
  The journal, in plain terms: commits, failings, openings, as the laws go through them; and the picture of the sectors.
-/
import Derived.Test.YtppgbfkhiofjiaaPJA
import Derived.Test.YtppgbfkhiofjiaaEJZ
namespace Go.Proofs.Ytppgbfkhiofjiaa.X
open Go.RowKit Go.Proofs.YtppgbfkhiofjiaaW.PrintWords Go.Proofs.Ytppgbfkhiofjiaa.Y
set_option linter.unusedVariables false
set_option linter.unusedSimpArgs false

def RecW (N : Int) (a : Prop) (l : List S102) (old f : Fn) : Prop := (a ∧ Empty N f old) ∨ Empty N f (nextF l old) ∨ (Fits N l ∧ Full N l f old)
/-- A disk with an empty journal and nothing pending. -/
structure Idle (N : Int) (D : DS) : Prop where
  down : D.down = false
  n : D.n = N
  c : D.c = []
  head : D.f 0 = headL 0 0
/-- A disk behind a failing. -/
structure Wait (N : Int) (a : Prop) (l : List S102) (old : Fn) (D : DS) : Prop where
  down : D.down = false
  n : D.n = N
  c : D.c = []
  rec_ : RecW N a l old D.f
theorem idle_fresh (N : Int) : Idle N (freshM N) := ⟨rfl, rfl, rfl, rfl⟩
theorem Idle.arm {N : Int} {D : DS} (h : Idle N D) (k : Int) : Idle N { D with left := k } := ⟨h.down, h.n, h.c, h.head⟩
theorem Wait.arm {N : Int} {a : Prop} {l : List S102} {old : Fn} {D : DS} (h : Wait N a l old D) (k : Int) : Wait N a l old { D with left := k } := ⟨h.down, h.n, h.c, h.rec_⟩
theorem open_idle {N : Int} {D : DS} (h : Idle N D) (hN : 69 < N) : openD D = (0, D) := by
  have hrd : rd64 D 0 = headL 0 0 := by rw [rd_nil h.c, h.head]
  have c1 : cntOf D = 0 := by unfold cntOf; rw [hrd]; decide +kernel
  have c2 : sumOf D = 0 := by unfold sumOf; rw [hrd]; decide +kernel
  have c3 : sameB (headL 0 0) (headL 0 0) = true := by unfold sameB; exact beq_self_eq_true _
  unfold openD
  rw [if_neg (by rw [h.n]; omega), if_neg (by rw [h.down]; decide), c1, c2, hrd, c3, if_neg (by decide), if_neg (by decide), if_neg (by decide), if_pos rfl]
theorem wrongL_zero {D : DS} : ∀ {l : List S102}, (∀ x ∈ l, 0 ≤ x.f0 ∧ x.f0 < D.n - 69 ∧ x.f1.length = 64) → wrongL D l = 0
  | [], _ => rfl
  | x :: l, h => by
    obtain ⟨h1, h2, h3⟩ := h x (by simp)
    have hb : hasB D x.f0 = true := by unfold hasB; exact decide_eq_true ⟨h1, h2⟩
    rw [wrongL, if_neg (by rw [hb]; decide), if_neg (by simp [h3]), wrongL_zero (fun y hy => h y (by simp [hy]))]
/-- A Commit on an idle journal. -/
theorem commit_out {N : Int} {D : DS} {l : List S102} (hI : Idle N D) (hN : 69 < N) (hl : Fits N l ∨ l = []) :
    ((logC l D false).1 = 0 ∧ (logC l D false).2.2 = false ∧ Idle N (logC l D false).2.1 ∧ (D.left = -1 → (logC l D false).2.1.left = -1) ∧ Empty N (logC l D false).2.1.f (nextF l D.f)) ∨
      ((logC l D false).1 = 230 ∧ (logC l D false).2.2 = true ∧ D.left ≠ -1 ∧ (logC l D false).2.1.n = N ∧ ∀ kp, RecW N True l D.f (settleF kp 0 (logC l D false).2.1.c (logC l D false).2.1.f)) := by
  rcases hl with hl | rfl
  · have hw : wrongL D l = 0 := wrongL_zero (fun x hx => by have := hl.ok x hx; have := hI.n; omega)
    have hp := hl.pos
    have hE : logC l D false = ((commitD l D).1, (commitD l D).2, (commitD l D).1 != 0) := by
      unfold logC
      rw [if_neg (by decide), if_neg (by have := hl.le; omega), hw, if_neg (by simp), if_neg (by omega)]
    rw [hE]
    have hR := ran_commit (D := D) (l := l) hI.down (by rw [hI.n]; exact hN) (by rw [hI.n]; exact hl) hI.c hI.head
    rw [hI.n] at hR
    rcases hR with ⟨h1, h2, h3, h4, h5, h6⟩ | ⟨h1, h2, h3, h4, h5⟩
    · exact .inl ⟨h1, by show ((commitD l D).1 != 0) = false; rw [h1]; rfl, ⟨h2, h3.trans hI.n, h5, h6.head⟩, h4, h6⟩
    · refine .inr ⟨h1, by show ((commitD l D).1 != 0) = true; rw [h1]; rfl, h4, h3.trans hI.n, fun kp => ?_⟩
      rcases h5 kp with h | h | h
      · exact .inl h
      · exact .inr (.inl h)
      · exact .inr (.inr ⟨hl, h⟩)
  · have hE : logC [] D false = (0, D, false) := by unfold logC; rfl
    rw [hE]
    exact .inl ⟨rfl, rfl, hI, fun h => h, ⟨hI.head, fun k _ _ => rfl⟩⟩
/-- The power brought back. -/
theorem mend_out {N : Int} {a : Prop} {l : List S102} {old : Fn} {D : DS} (kp : List Bool) (hn : D.n = N) (h : RecW N a l old (settleF (keepB kp) 0 D.c D.f)) : Wait N a l old (mendD kp D) := ⟨rfl, hn, rfl, h⟩
theorem mend_idle {N : Int} {a : Prop} {l : List S102} {old : Fn} {D : DS} (kp : List Bool) (hI : Idle N D) (h : (a ∧ Empty N D.f old) ∨ Empty N D.f (nextF l old)) : Wait N a l old (mendD kp D) :=
  mend_out kp hI.n (by
    rw [hI.c]
    rcases h with h | h
    · exact .inl h
    · exact .inr (.inl h))
/-- Opening behind a failing. -/
theorem open_out {N : Int} {a : Prop} {l : List S102} {old : Fn} {D : DS} (h : Wait N a l old D) (hN : 69 < N) (hN2 : N ≤ 4096) :
    ((openD D).1 = 0 ∧ Idle N (openD D).2 ∧ (D.left = -1 → (openD D).2.left = -1) ∧ ((a ∧ Empty N (openD D).2.f old) ∨ Empty N (openD D).2.f (nextF l old))) ∨
      ((openD D).1 = 230 ∧ D.left ≠ -1 ∧ (openD D).2.n = N ∧ ∀ kp, RecW N a l old (settleF kp 0 (openD D).2.c (openD D).2.f)) := by
  have easy : ∀ (_ : D.f 0 = headL 0 0) (_ : (a ∧ Empty N D.f old) ∨ Empty N D.f (nextF l old)), ((openD D).1 = 0 ∧ Idle N (openD D).2 ∧ (D.left = -1 → (openD D).2.left = -1) ∧ ((a ∧ Empty N (openD D).2.f old) ∨ Empty N (openD D).2.f (nextF l old))) ∨
      ((openD D).1 = 230 ∧ D.left ≠ -1 ∧ (openD D).2.n = N ∧ ∀ kp, RecW N a l old (settleF kp 0 (openD D).2.c (openD D).2.f)) := fun h0 hh => by
    have hI : Idle N D := ⟨h.down, h.n, h.c, h0⟩
    rw [open_idle hI hN]
    exact .inl ⟨rfl, hI, fun h => h, hh⟩
  rcases h.rec_ with ⟨ha, hr⟩ | hr | ⟨hl, hr⟩
  · exact easy hr.head (.inl ⟨ha, hr⟩)
  · exact easy hr.head (.inr hr)
  · have hR := ran_open (D := D) (l := l) (old := old) (a := a) h.down (by rw [h.n]; exact hN) (by rw [h.n]; exact hN2) (by rw [h.n]; exact hl) h.c (.inr (.inr (by rw [h.n]; exact hr)))
    rw [h.n] at hR
    rcases hR with ⟨h1, h2, h3, h4, h5, h6⟩ | ⟨h1, h2, h3, h4, h5⟩
    · refine .inl ⟨h1, ⟨h2, h3.trans h.n, h5, ?_⟩, h4, h6⟩
      rcases h6 with h6 | h6
      · exact h6.2.head
      · exact h6.head
    · refine .inr ⟨h1, h4, h3.trans h.n, fun kp => ?_⟩
      rcases h5 kp with h | h | h
      · exact .inl h
      · exact .inr (.inl h)
      · exact .inr (.inr ⟨hl, h⟩)

/-! ### The picture -/
def imgF (f : Fn) : Nat → List Int
  | 0 => []
  | n + 1 => imgF f n ++ f (69 + n)
theorem sect_img {D : DS} (hc : D.c = []) : ∀ n, sectL D 69 n = imgF D.f n
  | 0 => rfl
  | n + 1 => by rw [sectL, imgF, sect_img hc n, rd_nil hc]
theorem img_congr {f g : Fn} : ∀ {n : Nat}, (∀ k : Nat, k < n → f (69 + k) = g (69 + k)) → imgF f n = imgF g n
  | 0, _ => rfl
  | n + 1, h => by rw [imgF, imgF, img_congr (fun k hk => h k (by omega)), h n (by omega)]
theorem img_length {f : Fn} (hf : ∀ k, (f k).length = 64) : ∀ n, (imgF f n).length = n * 64
  | 0 => rfl
  | n + 1 => by rw [imgF, List.length_append, img_length hf n, hf]; omega
theorem upd_len {f : Fn} {n : Int} {b : List Int} (hf : ∀ k, (f k).length = 64) (hb : b.length = 64) : ∀ k, (upd f n b k).length = 64 := fun k => by
  unfold upd
  split
  · exact hb
  · exact hf k
theorem spl_img {f : Fn} (hf : ∀ k, (f k).length = 64) {b : List Int} (hb : b.length = 64) : ∀ (n m : Nat), m < n → spl (imgF f n) (64 * m) b = imgF (upd f (69 + m) b) n
  | n + 1, m, h => by
    have hl := img_length hf n
    rw [imgF, imgF]
    by_cases hm : m = n
    · subst hm
      have e1 : imgF (upd f (69 + m) b) m = imgF f m := img_congr (fun k hk => by unfold upd; rw [if_neg (by omega)])
      have e2 : upd f (69 + (m : Int)) b (69 + m) = b := by unfold upd; rw [if_pos rfl]
      rw [e1, e2]
      unfold spl
      rw [List.take_append_of_le_length (by omega), List.take_of_length_le (by omega), List.drop_eq_nil_of_le (by rw [List.length_append, hl, hf, hb]; omega), List.append_nil]
    · have e2 : upd f (69 + (m : Int)) b (69 + n) = f (69 + n) := by unfold upd; rw [if_neg (by omega)]
      rw [e2, ← spl_img hf hb n m (by omega)]
      unfold spl
      rw [List.take_append_of_le_length (by omega), List.drop_append_of_le_length (by omega)]
      simp
/-- As the program wants them. -/
def jw (l : List S105) : List S102 := l.map fun x => ⟨x.f0, x.f1⟩
theorem laid_img : ∀ (l : List S105) {f : Fn}, (∀ k, (f k).length = 64) → (∀ x ∈ l, 0 ≤ x.f0 ∧ x.f0 < 8 ∧ x.f1.length = 64) → laidL (imgF f 8) l = imgF (nextF (jw l) f) 8
  | [], f, _, _ => rfl
  | x :: l, f, hf, h => by
    obtain ⟨h1, h2, h3⟩ := h x (by simp)
    obtain ⟨m, hm⟩ := Int.eq_ofNat_of_zero_le h1
    have e : nextF (jw (x :: l)) f = nextF (jw l) (upd f (69 + x.f0) x.f1) := by
      unfold nextF jw wr69
      rw [List.map_cons, List.map_cons, app_cons]
    rw [e, laidL, hm, Int.toNat_natCast, spl_img hf h3 8 m (by omega), laid_img l (upd_len hf h3) (fun y hy => h y (by simp [hy]))]
/-- Bytes that make the same text. -/
def eqv (a b : List Int) : Prop := a.map (fun n => UInt8.ofNat n.toNat) = b.map (fun n => UInt8.ofNat n.toNat)
theorem eqv_str {a b : List Int} (h : eqv a b) : strOfNums a = strOfNums b := by
  unfold strOfNums
  rw [h]
theorem eqv_bytes (a : List Int) : eqv (bytesOf (strOfNums a)) a := by
  unfold eqv bytesOf
  rw [strOfNums_data, List.map_map, List.map_map]
  apply List.map_congr_left
  intro x hx
  show UInt8.ofNat (((UInt8.ofNat x.toNat).toNat : Nat) : Int).toNat = UInt8.ofNat x.toNat
  rw [Int.toNat_natCast, UInt8.ofNat_toNat]
theorem eqv_spl {a b : List Int} (h : eqv a b) (o : Nat) (x : List Int) : eqv (spl a o x) (spl b o x) := by
  unfold eqv spl at *
  rw [List.map_append, List.map_append, List.map_append, List.map_append, List.map_take, List.map_take, List.map_drop, List.map_drop, h]
theorem eqv_laid : ∀ (l : List S105) {a b : List Int}, eqv a b → eqv (laidL a l) (laidL b l)
  | [], a, b, h => h
  | x :: l, a, b, h => eqv_laid l (eqv_spl h _ _)
/-- The picture of what is behind the writes. -/
theorem laid_next {f : Fn} {l : List S105} (hf : ∀ k, (f k).length = 64) (h : ∀ x ∈ l, 0 ≤ x.f0 ∧ x.f0 < 8 ∧ x.f1.length = 64) : strOfNums (laidL (bytesOf (strOfNums (imgF f 8))) l) = strOfNums (imgF (nextF (jw l) f) 8) := by
  rw [eqv_str (eqv_laid l (eqv_bytes (imgF f 8))), laid_img l hf h]
theorem img_empty {f g : Fn} (h : Empty 77 f g) : imgF f 8 = imgF g 8 := img_congr (fun k hk => h.rest _ (by omega) (by omega))
theorem fits_tame (l : List S105) : Fits 77 (jw (tameL l)) ∨ jw (tameL l) = [] := by
  cases hl : tameL l with
  | nil => exact .inr rfl
  | cons x r =>
    refine .inl ⟨by simp [jw], ?_, fun y hy => ?_⟩
    · have : (tameL l).length ≤ 20 := by unfold tameL; rw [List.length_map, List.length_take]; omega
      rw [hl] at this
      simp only [jw, List.length_map]
      omega
    · obtain ⟨z, hz, rfl⟩ := List.mem_map.1 hy
      have := tame_ok l z (by rw [hl]; exact hz)
      exact ⟨this.1, by show 69 + z.f0 < 77; omega, this.2.2⟩
end Go.Proofs.Ytppgbfkhiofjiaa.X
