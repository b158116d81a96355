/-
  The journal, in plain terms: what a run of steps on a disk comes to, whether the power fails in it or not.
  The journal, in plain terms: what a commit leaves behind when the power fails in it, and what opening makes of that.
  The journal, in plain terms: whenever the power fails in a commit, or in the opening behind it, the disk can be opened to what was, or to what is behind all of the writes.
  The journal, in plain terms: a commit, whether the power fails in it or not.
-/
import Derived.Test.YtppgbfkhiofjiaaEJB
import Derived.Test.YtppgbfkhiofjiaaEJA
namespace Go.Proofs.Ytppgbfkhiofjiaa.X
open Go.RowKit Go.Proofs.YtppgbfkhiofjiaaW.PrintWords Go.Proofs.Ytppgbfkhiofjiaa.Y
set_option linter.unusedVariables false
set_option linter.unusedSimpArgs false

abbrev Fn := Int → List Int
abbrev Pd := List (Int × List Int)
/-- A run: it has gone through, or the power has failed in it. -/
def Ran (P C : Fn → Pd → Prop) (D : DS) (r : Int × DS) : Prop :=
  (r.1 = 0 ∧ r.2.down = false ∧ r.2.n = D.n ∧ (D.left = -1 → r.2.left = -1) ∧ P r.2.f r.2.c) ∨ (r.1 = 230 ∧ r.2.down = true ∧ r.2.n = D.n ∧ D.left ≠ -1 ∧ C r.2.f r.2.c)
theorem Ran.imp {P C P' C' : Fn → Pd → Prop} {D : DS} {r : Int × DS} (h : Ran P C D r) (hP : ∀ f c, P f c → P' f c) (hC : ∀ f c, C f c → C' f c) : Ran P' C' D r := by
  rcases h with ⟨h1, h2, h3, h4, h5⟩ | ⟨h1, h2, h3, h4, h5⟩
  · exact .inl ⟨h1, h2, h3, h4, hP _ _ h5⟩
  · exact .inr ⟨h1, h2, h3, h4, hC _ _ h5⟩
theorem Ran.seq {P C P' : Fn → Pd → Prop} {D : DS} {r : Int × DS} {k : DS → Int × DS} (h : Ran P C D r) (hk : ∀ D', D'.down = false → D'.n = D.n → P D'.f D'.c → Ran P' C D' (k D')) : Ran P' C D (seqD r k) := by
  rcases h with ⟨h1, h2, h3, h4, h5⟩ | ⟨h1, h2, h3, h4, h5⟩
  · unfold seqD
    rw [if_pos h1]
    rcases hk r.2 h2 h3 h5 with ⟨k1, k2, k3, k4, k5⟩ | ⟨k1, k2, k3, k4, k5⟩
    · exact .inl ⟨k1, k2, k3.trans h3, fun h => k4 (h4 h), k5⟩
    · exact .inr ⟨k1, k2, k3.trans h3, fun h => k4 (h4 h), k5⟩
  · unfold seqD
    rw [if_neg (by rw [h1]; decide)]
    exact .inr ⟨h1, h2, h3, h4, h5⟩
theorem Ran.nil {P C : Fn → Pd → Prop} {D : DS} (hd : D.down = false) (h : P D.f D.c) : Ran P C D (0, D) := .inl ⟨rfl, hd, rfl, fun h => h, h⟩
theorem Ran.last {P C : Fn → Pd → Prop} {D : DS} {r : Int × DS} {k : DS → Int × DS} (h : Ran P C D r) (hk : k = runD []) : Ran P C D (seqD r k) := h.seq (fun D' hd hn hp => by rw [hk]; exact Ran.nil hd hp)

theorem ran_write {D : DS} {n : Int} {b : List Int} (hd : D.down = false) (h0 : 0 ≤ n) (hn : n < D.n) (hb : b.length = 64) :
    Ran (fun f c => f = D.f ∧ c = D.c ++ [(n, b)]) (fun f c => f = D.f ∧ c = D.c) D (writeD D n b) := by
  have hl : lookD D n = 0 := by unfold lookD; rw [hd, if_neg (by decide), if_neg (by omega), if_neg (by omega)]
  unfold writeD
  rw [if_pos hl, if_pos hb]
  unfold stepD
  by_cases h : D.left = 0
  · rw [if_pos h]
    exact .inr ⟨rfl, rfl, rfl, by omega, rfl, rfl⟩
  · rw [if_neg h]
    refine .inl ⟨rfl, hd, rfl, fun h1 => ?_, rfl, rfl⟩
    show (if 0 < D.left then D.left - 1 else D.left) = -1
    rw [if_neg (by omega), h1]
def app (c : Pd) (f : Fn) : Fn := settleF (fun _ => true) 0 c f
theorem settle_ix (i j : Nat) : ∀ (c : Pd) (f : Fn), settleF (fun _ => true) i c f = settleF (fun _ => true) j c f
  | [], f => rfl
  | p :: c, f => by
    rw [settleF, settleF]
    have h : ∀ (i' j' : Nat) (g : Fn), settleF (fun _ => true) i' c g = settleF (fun _ => true) j' c g := by
      clear f
      induction c with
      | nil => intros; rfl
      | cons q c ih => intro i' j' g; rw [settleF, settleF]; exact ih _ _ _
    exact h _ _ _
theorem app_nil (f : Fn) : app [] f = f := rfl
theorem app_cons (p : Int × List Int) (c : Pd) (f : Fn) : app (p :: c) f = app c (upd f p.1 p.2) := by
  unfold app
  rw [settleF, if_pos rfl]
  exact settle_ix _ _ _ _
theorem app_append : ∀ (c d : Pd) (f : Fn), app (c ++ d) f = app d (app c f)
  | [], d, f => rfl
  | p :: c, d, f => by rw [List.cons_append, app_cons, app_cons, app_append c d]
theorem ran_flush {D : DS} (hd : D.down = false) : Ran (fun f c => f = app D.c D.f ∧ c = []) (fun f c => f = D.f ∧ c = D.c) D (flushD D) := by
  unfold flushD
  rw [hd, if_neg (by decide)]
  unfold stepD
  by_cases h : D.left = 0
  · rw [if_pos h]
    exact .inr ⟨rfl, rfl, rfl, by omega, rfl, rfl⟩
  · rw [if_neg h]
    refine .inl ⟨rfl, hd, rfl, fun h1 => ?_, rfl, rfl⟩
    show (if 0 < D.left then D.left - 1 else D.left) = -1
    rw [if_neg (by omega), h1]
theorem ran_writes : ∀ (ps : Pd) {D : DS} (_ : D.down = false) (_ : ∀ p ∈ ps, 0 ≤ p.1 ∧ p.1 < D.n ∧ p.2.length = 64),
    Ran (fun f c => f = D.f ∧ c = D.c ++ ps) (fun f c => f = D.f ∧ ∃ k, c = D.c ++ ps.take k) D (writesD ps D)
  | [], D, hd, h => Ran.nil hd ⟨rfl, by simp⟩
  | p :: ps, D, hd, h => by
    obtain ⟨a1, a2, a3⟩ := h p (by simp)
    rw [writesD]
    refine Ran.seq (P := fun f c => f = D.f ∧ c = D.c ++ [p]) ((ran_write hd a1 a2 a3).imp (fun f c h => h) (fun f c h => ⟨h.1, 0, by rw [h.2]; simp⟩)) (fun D' hd' hn' hp => ?_)
    obtain ⟨e1, e2⟩ := hp
    refine (ran_writes ps hd' (fun q hq => by rw [hn']; exact h q (by simp [hq]))).imp (fun f c hh => ?_) (fun f c hh => ?_)
    · rw [e1, e2] at hh
      exact ⟨hh.1, by rw [hh.2]; simp⟩
    · rw [e1, e2] at hh
      obtain ⟨h1, k, h2⟩ := hh
      exact ⟨h1, k + 1, by rw [h2]; simp⟩
theorem ran_lays {D : DS} {b : List Int} (hd : D.down = false) (hn : 0 < D.n) (hb : b.length = 64) (hc : D.c = []) :
    Ran (fun f c => f = upd D.f 0 b ∧ c = []) (fun f c => f = D.f ∧ (c = [] ∨ c = [(0, b)])) D (laysD b D) := by
  unfold laysD
  rw [runD]
  refine Ran.seq (P := fun f c => f = D.f ∧ c = [(0, b)]) ((ran_write hd (Int.le_refl 0) hn hb).imp (fun f c h => ⟨h.1, by rw [h.2, hc]; rfl⟩) (fun f c h => ⟨h.1, .inl (by rw [h.2, hc])⟩)) (fun D' hd' hn' hp => ?_)
  obtain ⟨e1, e2⟩ := hp
  rw [runD]
  refine Ran.last ((ran_flush hd').imp (fun f c h => ?_) (fun f c h => ?_)) rfl
  · rw [e1, e2] at h
    exact h
  · rw [e1, e2] at h
    exact ⟨h.1, .inr h.2⟩
theorem ran_finish {D : DS} {l : List S102} (hd : D.down = false) (hn : 69 < D.n) (hl : ∀ x ∈ l, 0 ≤ x.f0 ∧ 69 + x.f0 < D.n ∧ x.f1.length = 64) (hc : D.c = []) :
    Ran (fun f c => f = upd (app (wr69 l) D.f) 0 (headL 0 0) ∧ c = []) (fun f c => (f = D.f ∧ ∃ k, c = (wr69 l).take k) ∨ (f = app (wr69 l) D.f ∧ (c = [] ∨ c = [(0, headL 0 0)]))) D (finishD l D) := by
  unfold finishD
  rw [runD]
  refine Ran.seq (P := fun f c => f = D.f ∧ c = wr69 l) ((ran_writes (wr69 l) hd (fun p hp => ?_)).imp (fun f c h => ⟨h.1, by rw [h.2, hc]; rfl⟩) (fun f c h => .inl ⟨h.1, by obtain ⟨k, hk⟩ := h.2; exact ⟨k, by rw [hk, hc]; rfl⟩⟩)) (fun D' hd' hn' hp => ?_)
  · obtain ⟨x, hx, rfl⟩ := List.mem_map.1 hp
    obtain ⟨h1, h2, h3⟩ := hl x hx
    exact ⟨by show 0 ≤ 69 + x.f0; omega, h2, h3⟩
  obtain ⟨e1, e2⟩ := hp
  rw [runD]
  refine Ran.seq (P := fun f c => f = app (wr69 l) D.f ∧ c = []) ((ran_flush hd').imp (fun f c h => ?_) (fun f c h => .inl ⟨by rw [h.1, e1], (wr69 l).length, by rw [h.2, e2, List.take_length]⟩)) (fun D2 hd2 hn2 hp2 => ?_)
  · rw [e1, e2] at h
    exact h
  obtain ⟨e3, e4⟩ := hp2
  rw [runD]
  refine Ran.last ((ran_lays hd2 (by omega) (headL_length 0 0) e4).imp (fun f c h => ?_) (fun f c h => .inr ?_)) rfl
  · rw [e3] at h
    exact h
  · rw [e3] at h
    exact h
end Go.Proofs.Ytppgbfkhiofjiaa.X

namespace Go.Proofs.Ytppgbfkhiofjiaa.X
open Go.RowKit Go.Proofs.YtppgbfkhiofjiaaW.PrintWords Go.Proofs.Ytppgbfkhiofjiaa.Y
set_option linter.unusedVariables false
set_option linter.unusedSimpArgs false

/-- What some kept writes leave at one place. -/
theorem settle_at (kp : Nat → Bool) (k : Int) : ∀ (c : Pd) (i : Nat) (f : Fn), settleF kp i c f k = f k ∨ ∃ p ∈ c, p.1 = k ∧ settleF kp i c f k = p.2
  | [], i, f => .inl rfl
  | p :: c, i, f => by
    rw [settleF]
    rcases settle_at kp k c (i + 1) (if kp i = true then upd f p.1 p.2 else f) with h | ⟨q, hq, h1, h2⟩
    · rw [h]
      split
      · unfold upd
        split
        · rename_i h3 h4
          exact .inr ⟨p, by simp, h4.symm, rfl⟩
        · exact .inl rfl
      · exact .inl rfl
    · exact .inr ⟨q, by simp [hq], h1, h2⟩
theorem settle_no (kp : Nat → Bool) {k : Int} {c : Pd} {i : Nat} {f : Fn} (h : ∀ p ∈ c, p.1 ≠ k) : settleF kp i c f k = f k := by
  rcases settle_at kp k c i f with h1 | ⟨p, hp, h1, _⟩
  · exact h1
  · exact absurd h1 (h p hp)
theorem app_no {k : Int} {c : Pd} {f : Fn} (h : ∀ p ∈ c, p.1 ≠ k) : app c f k = f k := settle_no _ h
/-- All writes laid: a place that is written has what the last one lays, whatever was there. -/
theorem app_hit {k : Int} : ∀ {c : Pd} {f g : Fn}, (∃ p ∈ c, p.1 = k) → app c f k = app c g k
  | [], f, g, h => by obtain ⟨p, hp, _⟩ := h; simp at hp
  | q :: c, f, g, h => by
    rw [app_cons, app_cons]
    by_cases hc : ∃ p ∈ c, p.1 = k
    · exact app_hit hc
    · have hn : ∀ p ∈ c, p.1 ≠ k := fun p hp e => hc ⟨p, hp, e⟩
      rw [app_no hn, app_no hn]
      obtain ⟨p, hp, e⟩ := h
      rcases List.mem_cons.1 hp with rfl | hp
      · unfold upd
        rw [if_pos e.symm, if_pos e.symm]
      · exact absurd e (hn p hp)
theorem app_agree {k : Int} {c : Pd} {f g : Fn} (h : (∀ p ∈ c, p.1 ≠ k) → f k = g k) : app c f k = app c g k := by
  by_cases hc : ∃ p ∈ c, p.1 = k
  · exact app_hit hc
  · have hn : ∀ p ∈ c, p.1 ≠ k := fun p hp e => hc ⟨p, hp, e⟩
    rw [app_no hn, app_no hn, h hn]

/-! ### The chunks of a row of bytes -/
theorem chunk_mem {a : Int} : ∀ {n : Nat} {L : List Int} {p : Int × List Int}, L.length = n * 64 → p ∈ chunkD a n L → a ≤ p.1 ∧ p.1 < a + n ∧ p.2.length = 64
  | n + 1, L, p, hl, hp => by
    rw [chunkD] at hp
    rcases List.mem_cons.1 hp with rfl | hp
    · exact ⟨Int.le_refl _, by show a < a + ((n + 1 : Nat) : Int); omega, by show (L.take 64).length = 64; rw [List.length_take]; omega⟩
    · have := chunk_mem (a := a + 1) (by rw [List.length_drop]; omega) hp
      omega
theorem app_chunk {a : Int} : ∀ {n : Nat} {L : List Int} {f : Fn} (j : Nat), j < n → app (chunkD a n L) f (a + j) = (L.drop (j * 64)).take 64
  | n + 1, L, f, j, hj => by
    rw [chunkD, app_cons]
    cases j with
    | zero =>
      rw [app_no]
      · unfold upd
        rw [if_pos (by simp)]
        simp
      · intro p hp
        have : a + 1 ≤ p.1 := by
          have key : ∀ (n : Nat) (a : Int) (L : List Int), ∀ p ∈ chunkD a n L, a ≤ p.1 := by
            intro n
            induction n with
            | zero => intro a L p hp; simp [chunkD] at hp
            | succ n ih =>
              intro a L p hp
              rw [chunkD] at hp
              rcases List.mem_cons.1 hp with rfl | hp
              · exact Int.le_refl _
              · have := ih (a + 1) _ p hp
                omega
          exact key _ _ _ p hp
        simp
        omega
    | succ j =>
      rw [show a + ((j + 1 : Nat) : Int) = a + 1 + j by omega, app_chunk j (by omega), List.drop_drop, show 64 + j * 64 = (j + 1) * 64 by omega]

/-! ### Numbers in four bytes -/
theorem or_add (i : Nat) (hi : i ≤ 32) (a b : Int) (h0 : 0 ≤ a) (h1 : a < 2 ^ i) (h2 : 0 ≤ b) (h3 : b * 2 ^ i + a < 4294967296) : bits .or .u32 a (b * 2 ^ i) = a + b * 2 ^ i := by
  obtain ⟨x, rfl⟩ := Int.eq_ofNat_of_zero_le h0
  obtain ⟨y, rfl⟩ := Int.eq_ofNat_of_zero_le h2
  have hx : x < 2 ^ i := by exact_mod_cast h1
  have e : ((y : Int) * 2 ^ i) = ((y * 2 ^ i : Nat) : Int) := by exact_mod_cast rfl
  have hz : y * 2 ^ i + x < 4294967296 := by rw [e] at h3; omega
  rw [e, (bits_nat .u32 32 (by decide) (fun n a b => by rw [IntKind.wrap_u32]; omega) x (y * 2 ^ i) (by omega) (by omega)).2]
  rw [Nat.or_comm, Nat.mul_comm, ← Nat.two_pow_add_eq_or_of_lt hx]
  push_cast
  rw [Int.mul_comm]
  omega
theorem numL_bytes {a b c d : Int} {r : List Int} (ha : 0 ≤ a ∧ a < 256) (hb : 0 ≤ b ∧ b < 256) (hc : 0 ≤ c ∧ c < 256) (hd : 0 ≤ d ∧ d < 256) : numL (a :: b :: c :: d :: r) = a + b * 256 + c * 65536 + d * 16777216 := by
  have e : journal_number.f (a :: b :: c :: d :: r) = some (bits .or .u32 (bits .or .u32 (bits .or .u32 (a % 4294967296) ((b % 4294967296 * 256) % 4294967296)) ((c % 4294967296 * 65536) % 4294967296)) ((d % 4294967296 * 16777216) % 4294967296)) := by
    have hl : (4 : Int) ≤ ((a :: b :: c :: d :: r).length : Int) := by simp only [List.length_cons]; omega
    unfold journal_number.f
    rw [if_pos (by omega), if_pos (by omega), if_pos (by omega), if_pos (by omega)]
    rfl
  unfold numL
  rw [e, Option.getD_some]
  have m1 : a % 4294967296 = a := by omega
  have m2 : (b % 4294967296 * 256) % 4294967296 = b * 2 ^ 8 := by omega
  have m3 : (c % 4294967296 * 65536) % 4294967296 = c * 2 ^ 16 := by omega
  have m4 : (d % 4294967296 * 16777216) % 4294967296 = d * 2 ^ 24 := by omega
  rw [m1, m2, m3, m4, or_add 8 (by decide) a b (by omega) (by omega) (by omega) (by omega), or_add 16 (by decide) (a + b * 2 ^ 8) c (by omega) (by omega) (by omega) (by omega), or_add 24 (by decide) (a + b * 2 ^ 8 + c * 2 ^ 16) d (by omega) (by omega) (by omega) (by omega)]
  rfl
theorem numL_four {n : Int} {r : List Int} (h0 : 0 ≤ n) (h1 : n < 4294967296) : numL (fourL n ++ r) = n := by
  have h := numL_bytes (r := r) (a := n % 256) (b := n / 256 % 256) (c := n / 65536 % 256) (d := n / 16777216 % 256) ⟨by omega, by omega⟩ ⟨by omega, by omega⟩ ⟨by omega, by omega⟩ ⟨by omega, by omega⟩
  rw [show fourL n ++ r = n % 256 :: n / 256 % 256 :: n / 65536 % 256 :: n / 16777216 % 256 :: r from rfl, h]
  omega
theorem head_count {n s : Int} (h0 : 0 ≤ n) (h1 : n < 4294967296) : numL ((headL n s).drop 4) = n := by
  have e : (headL n s).drop 4 = fourL n ++ (fourL s ++ List.replicate 52 0) := rfl
  rw [e, numL_four h0 h1]
theorem head_sum {n s : Int} (h0 : 0 ≤ s) (h1 : s < 4294967296) : numL ((headL n s).drop 8) = s := by
  have e : (headL n s).drop 8 = fourL s ++ List.replicate 52 0 := rfl
  rw [e, numL_four h0 h1]
theorem sumV_range (l : List Int) : 0 ≤ sumV l ∧ sumV l < 4294967296 := by
  obtain ⟨n, h⟩ : ∃ n, sumV l = IntKind.u32.wrap n := ⟨_, rfl⟩
  rw [h, IntKind.wrap_u32]
  omega
end Go.Proofs.Ytppgbfkhiofjiaa.X

namespace Go.Proofs.Ytppgbfkhiofjiaa.X
open Go.RowKit Go.Proofs.YtppgbfkhiofjiaaW.PrintWords Go.Proofs.Ytppgbfkhiofjiaa.Y
set_option linter.unusedVariables false
set_option linter.unusedSimpArgs false

def nextF (l : List S102) (old : Fn) : Fn := app (wr69 l) old
structure Empty (N : Int) (f g : Fn) : Prop where
  head : f 0 = headL 0 0
  rest : ∀ k, 69 ≤ k → k < N → f k = g k
structure Full (N : Int) (l : List S102) (f old : Fn) : Prop where
  head : f 0 = headL l.length (sumV (placesL l ++ dataL l))
  pl : (f 1 ++ f 2 ++ f 3 ++ f 4).take (4 * l.length) = placesL l
  dt : ∀ (i : Nat) x, l[i]? = some x → f (5 + i) = x.f1
  rest : ∀ k, 69 ≤ k → k < N → (∀ x ∈ l, 69 + x.f0 ≠ k) → f k = old k
def Rec (N : Int) (a : Prop) (l : List S102) (old f : Fn) : Prop := (a ∧ Empty N f old) ∨ Empty N f (nextF l old) ∨ Full N l f old
/-- Writes that can be made. -/
structure Fits (N : Int) (l : List S102) : Prop where
  pos : 1 ≤ l.length
  le : l.length ≤ 64
  ok : ∀ x ∈ l, 0 ≤ x.f0 ∧ 69 + x.f0 < N ∧ x.f1.length = 64
theorem wr69_mem {l : List S102} {p : Int × List Int} (h : p ∈ wr69 l) : ∃ x ∈ l, p = (69 + x.f0, x.f1) := by
  obtain ⟨x, hx, rfl⟩ := List.mem_map.1 h
  exact ⟨x, hx, rfl⟩
theorem full_part {N : Int} {l : List S102} {f old : Fn} (h : Full N l f old) (hl : Fits N l) (kp : Nat → Bool) {c : Pd} (hc : ∀ p ∈ c, p ∈ wr69 l) : Full N l (settleF kp 0 c f) old := by
  have hlow : ∀ k, k < 69 → settleF kp 0 c f k = f k := fun k hk => settle_no kp (fun p hp e => by
    obtain ⟨x, hx, rfl⟩ := wr69_mem (hc p hp)
    have := (hl.ok x hx).1
    have : 69 + x.f0 = k := e
    omega)
  refine ⟨(hlow 0 (by omega)).trans h.head, ?_, fun i x hx => ?_, fun k h1 h2 h3 => ?_⟩
  · rw [hlow 1 (by omega), hlow 2 (by omega), hlow 3 (by omega), hlow 4 (by omega)]
    exact h.pl
  · have hi : i < l.length := (List.getElem?_eq_some_iff.1 hx).1
    have := hl.le
    rw [hlow (5 + i) (by omega)]
    exact h.dt i x hx
  · rw [settle_no kp (fun p hp e => ?_)]
    · exact h.rest k h1 h2 h3
    · obtain ⟨x, hx, rfl⟩ := wr69_mem (hc p hp)
      exact h3 x hx e
theorem full_app {N : Int} {l : List S102} {f old : Fn} (h : Full N l f old) (hl : Fits N l) : Full N l (app (wr69 l) f) old := full_part h hl _ (fun p hp => hp)
theorem full_next {N : Int} {l : List S102} {f old : Fn} (h : Full N l f old) (hl : Fits N l) : Empty N (upd (app (wr69 l) f) 0 (headL 0 0)) (nextF l old) := by
  refine ⟨by unfold upd; rw [if_pos rfl], fun k h1 h2 => ?_⟩
  unfold upd nextF
  rw [if_neg (by omega)]
  exact app_agree (fun hn => h.rest k h1 h2 (fun x hx => hn (69 + x.f0, x.f1) (List.mem_map.2 ⟨x, hx, rfl⟩)))
theorem full_tail {N : Int} {a : Prop} {l : List S102} {f old : Fn} (h : Full N l f old) (hl : Fits N l) (kp : Nat → Bool) {c : Pd} (hc : c = [] ∨ c = [(0, headL 0 0)]) : Rec N a l old (settleF kp 0 c (app (wr69 l) f)) := by
  rcases hc with rfl | rfl
  · exact .inr (.inr (full_app h hl))
  · rw [settleF, settleF]
    split
    · exact .inr (.inl (full_next h hl))
    · exact .inr (.inr (full_app h hl))
/-- Finishing a transaction. -/
theorem ran_fin {D : DS} {l : List S102} {old : Fn} {a : Prop} (hd : D.down = false) (hn : 69 < D.n) (hl : Fits D.n l) (hc : D.c = []) (hf : Full D.n l D.f old) :
    Ran (fun f c => c = [] ∧ Empty D.n f (nextF l old)) (fun f c => ∀ kp, Rec D.n a l old (settleF kp 0 c f)) D (finishD l D) := by
  refine (ran_finish hd hn hl.ok hc).imp (fun f c h => ⟨h.2, by rw [h.1]; exact full_next hf hl⟩) (fun f c h kp => ?_)
  rcases h with ⟨rfl, k, rfl⟩ | ⟨rfl, h⟩
  · exact .inr (.inr (full_part hf hl kp (fun p hp => List.mem_of_mem_take hp)))
  · exact full_tail hf hl kp h

theorem placesL_drop : ∀ (l : List S102) (k : Nat), (placesL l).drop (4 * k) = placesL (l.drop k)
  | [], k => by simp [placesL]
  | x :: l, 0 => by simp
  | x :: l, k + 1 => by
    rw [List.drop_succ_cons, ← placesL_drop l k, placesL, List.flatMap_cons, show 4 * (k + 1) = (fourL x.f0).length + 4 * k by show _ = 4 + 4 * k; omega, ← List.drop_drop, List.drop_left]
    rfl
theorem dataL_drop : ∀ (l : List S102) (k : Nat), (∀ x ∈ l, x.f1.length = 64) → (dataL l).drop (64 * k) = dataL (l.drop k)
  | [], k, _ => by simp [dataL]
  | x :: l, 0, _ => by simp
  | x :: l, k + 1, h => by
    rw [List.drop_succ_cons, ← dataL_drop l k (fun y hy => h y (by simp [hy])), dataL, List.flatMap_cons, show 64 * (k + 1) = x.f1.length + 64 * k by rw [h x (by simp)]; omega, ← List.drop_drop, List.drop_left]
    rfl
theorem placeN_at {l : List S102} {k : Nat} {x : S102} (h : l[k]? = some x) (h0 : 0 ≤ x.f0) (h1 : x.f0 < 4294967296) : placeN (placesL l) k = x.f0 := by
  obtain ⟨hlt, hget⟩ := List.getElem?_eq_some_iff.1 h
  unfold placeN
  rw [placesL_drop, List.drop_eq_getElem_cons hlt, hget, placesL, List.flatMap_cons]
  exact numL_four h0 h1
theorem leftL_eq {l : List S102} (hb : ∀ x ∈ l, 0 ≤ x.f0 ∧ x.f0 < 4294967296 ∧ x.f1.length = 64) : ∀ k, k ≤ l.length → leftL (placesL l) (dataL l) k = l.take k
  | 0, _ => by simp [leftL]
  | k + 1, h => by
    have hx : l[k]? = some l[k] := List.getElem?_eq_getElem (by omega)
    obtain ⟨b1, b2, b3⟩ := hb _ (List.getElem_mem (by omega : k < l.length))
    have e : l.take (k + 1) = l.take k ++ [l[k]] := List.take_succ_eq_append_getElem (by omega)
    rw [leftL, leftL_eq hb k (by omega), e, placeN_at hx b1 b2, dataL_drop l k (fun x hx => (hb x hx).2.2), List.drop_eq_getElem_cons (by omega), dataL, List.flatMap_cons]
    rw [show (64 : Nat) = l[k].f1.length from b3.symm, List.take_left]
theorem okPl_eq {m : Int} {l : List S102} (hb : ∀ x ∈ l, 0 ≤ x.f0 ∧ x.f0 < 4294967296 ∧ x.f0 < m) : ∀ k, k ≤ l.length → okPl m (placesL l) k = true
  | 0, _ => rfl
  | k + 1, h => by
    have hx : l[k]? = some l[k] := List.getElem?_eq_getElem (by omega)
    obtain ⟨b1, b2, b3⟩ := hb _ (List.getElem_mem (by omega : k < l.length))
    rw [okPl, okPl_eq hb k (by omega), placeN_at hx b1 b2]
    simpa using b3
theorem rd_nil {D : DS} (hc : D.c = []) (k : Int) : rd64 D k = D.f k := by unfold rd64; rw [hc]; rfl
theorem sect_data {D : DS} {l : List S102} (hc : D.c = []) (hdt : ∀ (i : Nat) x, l[i]? = some x → D.f (5 + i) = x.f1) : ∀ k, k ≤ l.length → sectL D 5 k = dataL (l.take k)
  | 0, _ => by simp [sectL, dataL]
  | k + 1, h => by
    have hx : l[k]? = some l[k] := List.getElem?_eq_getElem (by omega)
    have e : l.take (k + 1) = l.take k ++ [l[k]] := List.take_succ_eq_append_getElem (by omega)
    rw [sectL, sect_data hc hdt k (by omega), rd_nil hc, hdt k _ hx, e]
    unfold dataL
    rw [List.flatMap_append, List.flatMap_cons, List.flatMap_nil, List.append_nil]

/-- Opening a disk behind a failing. -/
theorem ran_open {D : DS} {l : List S102} {old : Fn} {a : Prop} (hd : D.down = false) (hn : 69 < D.n) (hN : D.n ≤ 4096) (hl : Fits D.n l) (hc : D.c = []) (hr : Rec D.n a l old D.f) :
    Ran (fun f c => c = [] ∧ ((a ∧ Empty D.n f old) ∨ Empty D.n f (nextF l old))) (fun f c => ∀ kp, Rec D.n a l old (settleF kp 0 c f)) D (openD D) := by
  have hn' : ¬ D.n ≤ 69 := by omega
  have hd' : ¬ D.down = true := by rw [hd]; decide
  have hempty : D.f 0 = headL 0 0 → openD D = (0, D) := fun h0 => by
    have hrd : rd64 D 0 = headL 0 0 := by rw [rd_nil hc, h0]
    have c1 : cntOf D = 0 := by unfold cntOf; rw [hrd]; decide +kernel
    have c2 : sumOf D = 0 := by unfold sumOf; rw [hrd]; decide +kernel
    have c3 : sameB (headL 0 0) (headL 0 0) = true := by unfold sameB; exact beq_self_eq_true _
    unfold openD
    rw [if_neg hn', if_neg hd', c1, c2, hrd, c3, if_neg (by decide), if_neg (by decide), if_neg (by decide), if_pos rfl]
  rcases hr with ⟨ha, h⟩ | h | h
  · rw [hempty h.head]
    exact Ran.nil hd ⟨hc, .inl ⟨ha, h⟩⟩
  · rw [hempty h.head]
    exact Ran.nil hd ⟨hc, .inr h⟩
  · have hs := sumV_range (placesL l ++ dataL l)
    have hp := hl.pos
    have hle := hl.le
    have hrd : rd64 D 0 = headL l.length (sumV (placesL l ++ dataL l)) := by rw [rd_nil hc, h.head]
    have c1 : cntOf D = l.length := by unfold cntOf; rw [hrd]; exact head_count (by omega) (by omega)
    have c2 : sumOf D = sumV (placesL l ++ dataL l) := by unfold sumOf; rw [hrd]; exact head_sum hs.1 hs.2
    have c3 : sameB (headL l.length (sumV (placesL l ++ dataL l))) (headL l.length (sumV (placesL l ++ dataL l))) = true := by unfold sameB; exact beq_self_eq_true _
    have p1 : placesOf D l.length = placesL l := by
      unfold placesOf
      have : sectL D 1 4 = D.f 1 ++ D.f 2 ++ D.f 3 ++ D.f 4 := by
        simp only [sectL, rd_nil hc]
        rfl
      rw [this]
      exact h.pl
    have p2 : sectL D 5 l.length = dataL l := by rw [sect_data hc h.dt l.length (Nat.le_refl _), List.take_length]
    have hE : leftE D l.length (sumV (placesL l ++ dataL l)) = 0 := by
      unfold leftE
      rw [p1, p2, if_neg (by simp), if_pos (okPl_eq (fun x hx => by have := hl.ok x hx; omega) _ (Nat.le_refl _))]
    have hW : leftW D l.length = l := by
      unfold leftW
      rw [p1, p2, leftL_eq (fun x hx => by have := hl.ok x hx; omega) _ (Nat.le_refl _), List.take_length]
    have hO : openD D = finishD l D := by
      unfold openD
      rw [if_neg hn', if_neg hd', c1, c2, hrd, c3, if_neg (by omega), if_neg (by omega), if_neg (by decide), if_neg (by omega), Int.toNat_natCast, hE, if_neg (by simp), hW]
    rw [hO]
    exact (ran_fin hd hn hl hc h).imp (fun f c h => ⟨h.1, .inr h.2⟩) (fun f c h => h)
end Go.Proofs.Ytppgbfkhiofjiaa.X

namespace Go.Proofs.Ytppgbfkhiofjiaa.X
open Go.RowKit Go.Proofs.YtppgbfkhiofjiaaW.PrintWords Go.Proofs.Ytppgbfkhiofjiaa.Y
set_option linter.unusedVariables false
set_option linter.unusedSimpArgs false

theorem placesL_len4 (l : List S102) : (placesL l).length = l.length * 4 := placesL_length l
/-- The front sectors, with a transaction laid out on them. -/
def laidF (l : List S102) (f : Fn) : Fn := app (chunkD 1 (padN l.length) (padL l.length (placesL l))) (app (chunkD 5 l.length (dataL l)) f)
theorem laidF_other {N : Int} {l : List S102} (hl : Fits N l) (f : Fn) {k : Int} (hk : k < 1 ∨ 69 ≤ k) : laidF l f k = f k := by
  have hle := hl.le
  have hpad := padN_le hle
  have h1 : (padL l.length (placesL l)).length = padN l.length * 64 := padL_length (placesL_length l)
  have h2 : (dataL l).length = l.length * 64 := dataL_length l (fun x hx => (hl.ok x hx).2.2)
  unfold laidF
  rw [app_no (fun p hp e => by have := chunk_mem h1 hp; omega), app_no (fun p hp e => by have := chunk_mem h2 hp; omega)]
theorem laidF_data {N : Int} {l : List S102} (hl : Fits N l) (f : Fn) {i : Nat} {x : S102} (hx : l[i]? = some x) : laidF l f (5 + i) = x.f1 := by
  obtain ⟨hlt, hget⟩ := List.getElem?_eq_some_iff.1 hx
  have hle := hl.le
  have hpad := padN_le hle
  have h1 : (padL l.length (placesL l)).length = padN l.length * 64 := padL_length (placesL_length l)
  unfold laidF
  rw [app_no (fun p hp e => by have := chunk_mem h1 hp; omega), app_chunk i hlt, Nat.mul_comm, dataL_drop l i (fun y hy => (hl.ok y hy).2.2), List.drop_eq_getElem_cons hlt, hget, dataL, List.flatMap_cons]
  have h64 : x.f1.length = 64 := (hl.ok x (List.mem_of_getElem? hx)).2.2
  rw [show (64 : Nat) = x.f1.length from h64.symm, List.take_left]
theorem laidF_place {N : Int} {l : List S102} (hl : Fits N l) (f : Fn) {j : Nat} (hj : j < padN l.length) : laidF l f (1 + j) = ((padL l.length (placesL l)).drop (j * 64)).take 64 := by
  unfold laidF
  rw [app_chunk j hj]
theorem four_chunks {P : List Int} {n m : Nat} {a b c d : List Int} (hm : 1 ≤ m) (hm4 : m ≤ 4) (hP : P.length = m * 64) (hn : 4 * n ≤ m * 64) (h : ∀ j : Nat, j < m → (match j with | 0 => a | 1 => b | 2 => c | _ => d) = (P.drop (j * 64)).take 64) :
    (a ++ b ++ c ++ d).take (4 * n) = P.take (4 * n) := by
  have key : ∀ (Q r : List Int), (a ++ b ++ c ++ d) = Q ++ r → Q = P → (a ++ b ++ c ++ d).take (4 * n) = P.take (4 * n) := by
    intro Q r h1 h2
    rw [h1, h2, List.take_append_of_le_length (by omega)]
  have t : ∀ i, P.drop (i * 64) = (P.drop (i * 64)).take 64 ++ P.drop ((i + 1) * 64) := fun i => by
    rw [show (i + 1) * 64 = i * 64 + 64 by omega, ← List.drop_drop, List.take_append_drop]
  have e0 : P = (P.drop (0 * 64)).take 64 ++ P.drop (1 * 64) := by simp
  have z : ∀ i, m ≤ i → P.drop (i * 64) = [] := fun i hi => List.drop_eq_nil_of_le (by rw [hP]; exact Nat.mul_le_mul_right _ hi)
  have a0 : a = (P.drop (0 * 64)).take 64 := h 0 (by omega)
  match m, hm, hm4 with
  | 1, _, _ =>
    refine key a (b ++ c ++ d) (by simp) ?_
    rw [z 1 (Nat.le_refl _), List.append_nil] at e0
    rw [a0]
    exact e0.symm
  | 2, _, _ =>
    have b0 : b = (P.drop (1 * 64)).take 64 := h 1 (by omega)
    refine key (a ++ b) (c ++ d) (by simp) ?_
    have e1 := t 1
    rw [z 2 (Nat.le_refl _), List.append_nil] at e1
    rw [e1] at e0
    rw [a0, b0]
    exact e0.symm
  | 3, _, _ =>
    have b0 : b = (P.drop (1 * 64)).take 64 := h 1 (by omega)
    have c0 : c = (P.drop (2 * 64)).take 64 := h 2 (by omega)
    refine key (a ++ b ++ c) d (by simp) ?_
    have e1 := t 1
    have e2 := t 2
    rw [z 3 (Nat.le_refl _), List.append_nil] at e2
    rw [e2] at e1
    rw [e1] at e0
    rw [a0, b0, c0, List.append_assoc]
    exact e0.symm
  | 4, _, _ =>
    have b0 : b = (P.drop (1 * 64)).take 64 := h 1 (by omega)
    have c0 : c = (P.drop (2 * 64)).take 64 := h 2 (by omega)
    have d0 : d = (P.drop (3 * 64)).take 64 := h 3 (by omega)
    refine key (a ++ b ++ c ++ d) [] (by simp) ?_
    have e1 := t 1
    have e2 := t 2
    have e3 := t 3
    rw [z 4 (Nat.le_refl _), List.append_nil] at e3
    rw [e3] at e2
    rw [e2] at e1
    rw [e1] at e0
    rw [a0, b0, c0, d0, List.append_assoc, List.append_assoc]
    exact e0.symm
theorem laidF_places {N : Int} {l : List S102} (hl : Fits N l) (f : Fn) : (laidF l f 1 ++ laidF l f 2 ++ laidF l f 3 ++ laidF l f 4).take (4 * l.length) = placesL l := by
  have hle := hl.le
  have hp := hl.pos
  have hpad := padN_le hle
  have hm1 : 1 ≤ padN l.length := by unfold padN; omega
  have h4 : 4 * l.length ≤ padN l.length * 64 := by unfold padN; omega
  have h1 : (padL l.length (placesL l)).length = padN l.length * 64 := padL_length (placesL_length l)
  rw [four_chunks hm1 hpad h1 h4 (fun j hj => ?_)]
  · unfold padL
    rw [List.take_append_of_le_length (by rw [placesL_length]; omega), List.take_of_length_le (by rw [placesL_length]; omega)]
  · have := laidF_place hl f hj
    match j, hj with
    | 0, hj => exact this
    | 1, hj => exact this
    | 2, hj => exact this
    | 3, hj => exact this
    | j + 4, hj => omega
theorem laid_full {N : Int} {l : List S102} (hl : Fits N l) (old : Fn) : Full N l (upd (laidF l old) 0 (headL l.length (sumV (placesL l ++ dataL l)))) old := by
  have hle := hl.le
  have hu : ∀ k, k ≠ 0 → upd (laidF l old) 0 (headL l.length (sumV (placesL l ++ dataL l))) k = laidF l old k := fun k hk => by unfold upd; rw [if_neg hk]
  refine ⟨by unfold upd; rw [if_pos rfl], ?_, fun i x hx => ?_, fun k h1 h2 h3 => ?_⟩
  · rw [hu 1 (by decide), hu 2 (by decide), hu 3 (by decide), hu 4 (by decide)]
    exact laidF_places hl old
  · rw [hu _ (by omega)]
    exact laidF_data hl old hx
  · rw [hu _ (by omega)]
    exact laidF_other hl old (.inr h1)
/-- A commit. -/
theorem ran_commit {D : DS} {l : List S102} (hd : D.down = false) (hn : 69 < D.n) (hl : Fits D.n l) (hc : D.c = []) (h0 : D.f 0 = headL 0 0) :
    Ran (fun f c => c = [] ∧ Empty D.n f (nextF l D.f)) (fun f c => ∀ kp, Rec D.n True l D.f (settleF kp 0 c f)) D (commitD l D) := by
  have hle := hl.le
  have hpad := padN_le hle
  have h1 : (padL l.length (placesL l)).length = padN l.length * 64 := padL_length (placesL_length l)
  have h2 : (dataL l).length = l.length * 64 := dataL_length l (fun x hx => (hl.ok x hx).2.2)
  -- what lies on the front sectors alone changes nothing
  have front : ∀ (kp : Nat → Bool) (c : Pd), (∀ p ∈ c, 1 ≤ p.1 ∧ p.1 < 69) → Rec D.n True l D.f (settleF kp 0 c D.f) := fun kp c hcc =>
    .inl ⟨trivial, ⟨(settle_no kp (fun p hp e => by have := hcc p hp; omega)).trans h0, fun k k1 k2 => settle_no kp (fun p hp e => by have := hcc p hp; omega)⟩⟩
  have m1 : ∀ p ∈ chunkD 5 l.length (dataL l), 1 ≤ p.1 ∧ p.1 < 69 := fun p hp => by have := chunk_mem h2 hp; omega
  have m2 : ∀ p ∈ chunkD 1 (padN l.length) (padL l.length (placesL l)), 1 ≤ p.1 ∧ p.1 < 69 := fun p hp => by have := chunk_mem h1 hp; omega
  unfold commitD
  rw [runD]
  refine Ran.seq (P := fun f c => f = D.f ∧ c = chunkD 5 l.length (dataL l)) ((ran_writes _ hd (fun p hp => by have := chunk_mem h2 hp; omega)).imp (fun f c h => ⟨h.1, by rw [h.2, hc]; rfl⟩) (fun f c h kp => ?_)) (fun D1 hd1 hn1 hp1 => ?_)
  · obtain ⟨rfl, k, rfl⟩ := h
    rw [hc]
    exact front kp _ (fun p hp => m1 p (List.mem_of_mem_take hp))
  obtain ⟨e1, e2⟩ := hp1
  rw [runD]
  refine Ran.seq (P := fun f c => f = D.f ∧ c = chunkD 5 l.length (dataL l) ++ chunkD 1 (padN l.length) (padL l.length (placesL l))) ((ran_writes _ hd1 (fun p hp => by have := chunk_mem h1 hp; omega)).imp (fun f c h => ⟨h.1.trans e1, by rw [h.2, e2]⟩) (fun f c h kp => ?_)) (fun D2 hd2 hn2 hp2 => ?_)
  · obtain ⟨rfl, k, rfl⟩ := h
    rw [e1, e2]
    refine front kp _ (fun p hp => ?_)
    rcases List.mem_append.1 hp with hp | hp
    · exact m1 p hp
    · exact m2 p (List.mem_of_mem_take hp)
  obtain ⟨e3, e4⟩ := hp2
  rw [runD]
  refine Ran.seq (P := fun f c => f = laidF l D.f ∧ c = []) ((ran_flush hd2).imp (fun f c h => ⟨by rw [h.1, e3, e4, app_append]; rfl, h.2⟩) (fun f c h kp => ?_)) (fun D3 hd3 hn3 hp3 => ?_)
  · obtain ⟨rfl, rfl⟩ := h
    rw [e3, e4]
    refine front kp _ (fun p hp => ?_)
    rcases List.mem_append.1 hp with hp | hp
    · exact m1 p hp
    · exact m2 p hp
  obtain ⟨e5, e6⟩ := hp3
  rw [runD]
  have hemp : Empty D.n (laidF l D.f) D.f := ⟨(laidF_other hl D.f (.inl (by decide))).trans h0, fun k k1 k2 => laidF_other hl D.f (.inr k1)⟩
  refine Ran.seq (P := fun f c => f = upd (laidF l D.f) 0 (headL l.length (sumV (placesL l ++ dataL l))) ∧ c = []) ((ran_lays hd3 (by omega) (headL_length _ _) e6).imp (fun f c h => ⟨by rw [h.1, e5], h.2⟩) (fun f c h kp => ?_)) (fun D4 hd4 hn4 hp4 => ?_)
  · obtain ⟨rfl, hcc⟩ := h
    rw [e5]
    rcases hcc with rfl | rfl
    · exact .inl ⟨trivial, hemp⟩
    · rw [settleF, settleF]
      split
      · exact .inr (.inr (laid_full hl D.f))
      · exact .inl ⟨trivial, hemp⟩
  obtain ⟨e7, e8⟩ := hp4
  have hN : D4.n = D.n := by rw [hn4, hn3, hn2, hn1]
  rw [runD]
  have hfin := ran_fin (D := D4) (l := l) (old := D.f) (a := True) hd4 (by omega) (by rw [hN]; exact hl) e8 (by rw [hN, e7]; exact laid_full hl D.f)
  rw [hN] at hfin
  exact Ran.last hfin rfl
end Go.Proofs.Ytppgbfkhiofjiaa.X
