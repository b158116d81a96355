/-
  Of the proof of JournalPlays (put together by wip/tools/mkclaimj.py):
  The journal: the contract of left, and of Open.
  The journal: the contract of Open.
  The journal, in plain terms: a disk that holds bytes goes on holding bytes; how the reference reads a head, and the places.
-/
import Derived.Test.YtppgbfkhiofjiaaQD
import Derived.WalkSpells
namespace Go.Proofs.Ytppgbfkhiofjiaa.X
open Go.RowKit Go.Proofs.YtppgbfkhiofjiaaW.PrintWords Go.Proofs.YtppgbfkhiofjiaaW.PrintLast Go.Proofs.YtppgbfkhiofjiaaW.PrintMore Go.Proofs.Ytppgbfkhiofjiaa.Y
set_option linter.unusedVariables false
set_option linter.unusedSimpArgs false

def numL (l : List Int) : Int := (journal_number.f l).getD 0
theorem numL_f {l : List Int} (h : 4 ≤ l.length) : journal_number.f l = some (numL l) := by
  unfold numL journal_number.f
  rw [if_pos (by omega), if_pos (by omega), if_pos (by omega), if_pos (by omega)]
  rfl
theorem numL_range (l : List Int) : 0 ≤ numL l ∧ numL l < 4294967296 := by
  have h : ∀ a b, 0 ≤ bits .or .u32 a b ∧ bits .or .u32 a b < 4294967296 := fun a b => by
    obtain ⟨n, h⟩ : ∃ n, bits .or .u32 a b = IntKind.u32.wrap n := ⟨_, rfl⟩
    rw [h, IntKind.wrap_u32]
    omega
  unfold numL journal_number.f
  split
  · split
    · split
      · split
        · exact h _ _
        · exact ⟨by decide, by decide⟩
      · exact ⟨by decide, by decide⟩
    · exact ⟨by decide, by decide⟩
  · exact ⟨by decide, by decide⟩
def placeN (P : List Int) (i : Nat) : Int := numL (P.drop (4 * i))
def leftL (P Dt : List Int) : Nat → List S102
  | 0 => []
  | k + 1 => leftL P Dt k ++ [⟨placeN P k, (Dt.drop (64 * k)).take 64⟩]
def okPl (m : Int) (P : List Int) : Nat → Bool
  | 0 => true
  | k + 1 => okPl m P k && decide (placeN P k < m)
def encV (g c : Nat) (P : List Int) : Nat → List Value
  | 0 => []
  | k + 1 => encV g c P k ++ [.int .i64 (placeN P k), .slice (some ⟨g, 64 * k, none⟩) 64 (c - 64 * k)]
theorem encV_length (g c : Nat) (P : List Int) : ∀ k, (encV g c P k).length = k * 2
  | 0 => rfl
  | k + 1 => by rw [encV, List.length_append, encV_length g c P k]; simp; omega
theorem leftL_length (P Dt : List Int) : ∀ k, (leftL P Dt k).length = k
  | 0 => rfl
  | k + 1 => by rw [leftL, List.length_append, leftL_length P Dt k]; rfl
theorem encV_at (g c : Nat) (P : List Int) : ∀ (n j : Nat), j < n → (encV g c P n)[j * 2]? = some (.int .i64 (placeN P j)) ∧ (encV g c P n)[j * 2 + 1]? = some (.slice (some ⟨g, 64 * j, none⟩) 64 (c - 64 * j))
  | 0, j, h => by omega
  | n + 1, j, h => by
    rw [encV]
    by_cases hj : j < n
    · obtain ⟨h1, h2⟩ := encV_at g c P n j hj
      rw [List.getElem?_append_left (by rw [encV_length]; omega), List.getElem?_append_left (by rw [encV_length]; omega)]
      exact ⟨h1, h2⟩
    · have : j = n := by omega
      subst this
      rw [List.getElem?_append_right (by rw [encV_length]; omega), List.getElem?_append_right (by rw [encV_length]; omega), encV_length]
      refine ⟨?_, ?_⟩
      · rw [show j * 2 - j * 2 = 0 by omega]; rfl
      · rw [show j * 2 + 1 - j * 2 = 1 by omega]; rfl
theorem leftL_at (P Dt : List Int) : ∀ (n j : Nat), j < n → (leftL P Dt n)[j]? = some ⟨placeN P j, (Dt.drop (64 * j)).take 64⟩
  | 0, j, h => by omega
  | n + 1, j, h => by
    rw [leftL]
    by_cases hj : j < n
    · rw [List.getElem?_append_left (by rw [leftL_length]; omega)]
      exact leftL_at P Dt n j hj
    · have : j = n := by omega
      subst this
      rw [List.getElem?_append_right (by rw [leftL_length]; omega), leftL_length, Nat.sub_self]
      rfl
theorem left_read {W : World} {base gR capR n g c : Nat} {P Dt : List Int} (hrow : W.ownsRow base 102 2 (.slice (some ⟨gR, 0, none⟩) n capR) n (encV g c P n)) (hdata : Kd.C (Kd.int .u8) W (some ⟨g, 0, none⟩) (n * 64) Dt) (hl : Dt.length = n * 64) (hc : n * 64 ≤ c) (hn : n ≤ 1000) :
    Kd.C k102 W (some ⟨gR, 0, none⟩) n (leftL P Dt n) := by
  refine ⟨leftL_length _ _ _, by omega, fun h0 => ⟨_, rfl, fun j p hj => ?_⟩⟩
  have hj' : j < n := by have := (List.getElem?_eq_some_iff.1 hj).1; rwa [leftL_length] at this
  rw [leftL_at P Dt n j hj'] at hj
  obtain rfl := Option.some.inj hj
  obtain ⟨e1, e2⟩ := encV_at g c P n j hj'
  have hlen : ((Dt.drop (64 * j)).take 64).length = 64 := by rw [List.length_take, List.length_drop, hl]; omega
  have hC : Kd.C (Kd.int .u8) W (some ⟨g, 64 * j, none⟩) ((Dt.drop (64 * j)).take 64).length ((Dt.drop (64 * j)).take 64) := by
    have h1 := hdata
    rw [← hl] at h1
    have h2 := Kd.C_drop (c := Dt.length + 1) h1 (m := 64 * j) (by omega) (by omega)
    rw [if_neg (by omega)] at h2
    have h3 := Kd.C_take h2 (m := 64) (by rw [List.length_drop]; omega)
    have e : (some (⟨g, 0, none⟩ : Addr)).map (·.add (64 * j * (Kd.int IntKind.u8).sz)) = some ⟨g, 64 * j, none⟩ := by
      have : (Kd.int IntKind.u8).sz = 1 := rfl
      rw [this, Option.map_some, Addr.add_mid, Nat.zero_add, Nat.mul_one]
    rw [e] at h3
    exact h3
  refine ⟨_, ?_, k102_mk W (⟨placeN P j, (Dt.drop (64 * j)).take 64⟩ : S102) (A1 := some ⟨g, 64 * j, none⟩) (c1 := c - 64 * j) (by rw [hlen]; omega) hC, fun i u hu => ?_⟩
  · rfl
  · rcases hrow.2 with ⟨h, _⟩ | ⟨gb, cap, cur, he, _, hb, _, _, _, hx⟩
    · cases h
    · injection he with he _ _
      injection he with he
      injection he with he
      subst he
      rw [Addr.add_mid, Nat.zero_add, cell_of_row W gR _ _ 102 (0, 0) hb]
      have hcell : ∀ k v, (encV g c P n)[k]? = some v → cur[k]? = some v := fun k v hv => by
        rw [← hx, List.getElem?_take] at hv
        split at hv
        · rw [← hv, ← Array.getElem?_toList]
        · cases hv
      match i, hu with
      | 0, hu =>
        obtain rfl := Option.some.inj hu
        exact hcell _ _ e1
      | 1, hu =>
        obtain rfl := Option.some.inj hu
        rw [hlen]
        exact hcell _ _ e2

def placesOf (D : DS) (n : Nat) : List Int := (sectL D 1 4).take (4 * n)
/-- What is wrong with the transaction that a head says. -/
def leftE (D : DS) (n : Nat) (s : Int) : Int := if sumV (placesOf D n ++ sectL D 5 n) ≠ s then 240 else if okPl (D.n - 69) (placesOf D n) n = true then 0 else 2
def leftW (D : DS) (n : Nat) : List S102 := leftL (placesOf D n) (sectL D 5 n) n

theorem wp_app_row {P : Program} {w : World} {ops : Array Oper} {rest : List Oper} {o : Oper} {a : Act} {Q : Exit → Act → World → Prop} (hgd : o.guard = none) (s x : Operand) (t : TypeId)
    (ho : o.op = .call { callee := .builtin .append, args := #[s, x], argTypes := #[t, t] })
    (base : Nat) (e : TypeId) (z : Value) (size bytes : Nat) (ht : P.underlying t = some (.slice e)) (hinfo : (P.info? e).map (fun i => (i.zero, i.size, i.bytes)) = some (some z, size, bytes)) (hzs : z.cells.size = size) (hsz : 0 < size)
    (v : Value) (n : Nat) (xs : List Value) (hs : a.eval s = v) (hown : w.ownsRow base e size v n xs)
    (ad : Addr) (m c : Nat) (news : List Value) (hx : a.eval x = .slice (some ad) m c) (hl : news.length = m * size) (hnews : ∀ j u, news[j]? = some u → w.cell? (ad.add j) = some u) (h1 : ∀ u ∈ news, u.oneCell' = true)
    (h63 : n + m ≤ maxLen) (hbytes : (n + m) * bytes ≤ 140737488355328) (hbase : base ≤ w.heap.size)
    (h : ∀ v' w', w'.ownsRow base e size v' (n + m) (xs ++ news) → w.grownBy w' v.ownBlock → (v'.ownBlock = v.ownBlock ∨ v'.ownBlock = some w.heap.size) → wpList P ops Q rest (a.put o.dst v') w') : wpList P ops Q (o :: rest) a w := by
  obtain ⟨i0, hi, hzz⟩ := Option.map_eq_some_iff.1 hinfo
  simp only [Prod.mk.injEq] at hzz
  obtain ⟨hz0, hz1, hz2⟩ := hzz
  refine wpList_plain hgd fun K hK => ?_
  obtain ⟨v', w', hr, h2, h3, _, h4⟩ := run_append_own_at (P := P) w base t o.type e i0 z size bytes ht hi hz0 hz1 hz2 hzs hsz v n xs hown ad m c news hl hnews h1 h63 hbytes hbase
  unfold Oper.wp execOp
  simp only [ho, resolve, invoke, builtin, Sem.run_bind, Sem.run_pure, Result.andThen_ok, List.map_toArray, List.map_cons, List.map_nil, hs, hx, hr]
  exact hK _ _ (h v' w' h2 h3 h4)

theorem slice22 (A : Addr) (m cp a b : Nat) (h1 : a ≤ b) (h2 : b ≤ cp) (h3 : a < cp) (x y : Int) (hx : x = (a : Int)) (hy : y = (b : Int)) (W : World) :
    (Instr.slice 22 (.slice (some A) m cp) (some (.int .i64 x)) (some (.int .i64 y)) none).run Try.prog W = .ok (.slice (some (A.add a)) (b - a) (cp - a)) W := by
  subst hx hy
  have hel : Try.prog.elem 22 = 5 := by simp [Program.elem, Try.underlying22]
  have hu : Try.prog.underlying 22 = some (.slice (Try.prog.elem 22)) := by rw [hel]; exact Try.underlying22
  obtain ⟨i0, hi0, hzz⟩ := Option.map_eq_some_iff.1 info5
  simp only [Prod.mk.injEq] at hzz
  rw [run_slice_lh W 22 (some A) m cp hu .i64 .i64 _ _ (by omega) (by omega) (by omega), hel]
  have e3 : ¬ cp = a := by omega
  simp [sizeOf, typeInfo, hi0, hzz.2.1, sliced, Result.andThen, e3]
theorem slice22h (A : Addr) (m cp b : Nat) (h2 : b ≤ cp) (h0 : 0 < cp) (y : Int) (hy : y = (b : Int)) (W : World) :
    (Instr.slice 22 (.slice (some A) m cp) none (some (.int .i64 y)) none).run Try.prog W = .ok (.slice (some A) b cp) W := by
  subst hy
  have hel : Try.prog.elem 22 = 5 := by simp [Program.elem, Try.underlying22]
  have hu : Try.prog.underlying 22 = some (.slice (Try.prog.elem 22)) := by rw [hel]; exact Try.underlying22
  obtain ⟨i0, hi0, hzz⟩ := Option.map_eq_some_iff.1 info5
  simp only [Prod.mk.injEq] at hzz
  rw [run_slice_h W 22 (some A) m cp hu .i64 _ (by omega) (by omega), hel]
  have e3 : ¬ cp = 0 := by omega
  have e4 : A.add 0 = A := by unfold Addr.add; simp
  simp [sizeOf, typeInfo, hi0, hzz.2.1, sliced, Result.andThen, e3, e4]
theorem slice22l (A : Addr) (m cp a : Nat) (h1 : a ≤ m) (h3 : a < cp) (x : Int) (hx : x = (a : Int)) (W : World) :
    (Instr.slice 22 (.slice (some A) m cp) (some (.int .i64 x)) none none).run Try.prog W = .ok (.slice (some (A.add a)) (m - a) (cp - a)) W := by
  subst hx
  have hel : Try.prog.elem 22 = 5 := by simp [Program.elem, Try.underlying22]
  have hu : Try.prog.underlying 22 = some (.slice (Try.prog.elem 22)) := by rw [hel]; exact Try.underlying22
  obtain ⟨i0, hi0, hzz⟩ := Option.map_eq_some_iff.1 info5
  simp only [Prod.mk.injEq] at hzz
  rw [run_slice_l W 22 (some A) m cp hu .i64 _ (by omega) (by omega), hel]
  have e3 : ¬ cp = a := by omega
  simp [sizeOf, typeInfo, hi0, hzz.2.1, sliced, Result.andThen, e3]

theorem okPl_false {m : Int} {P : List Int} : ∀ {n k : Nat}, k < n → ¬ placeN P k < m → okPl m P n = false
  | n + 1, k, h, hk => by
    rw [okPl]
    by_cases e : k = n
    · subst e
      simp [hk]
    · rw [okPl_false (show k < n by omega) hk]
      rfl
theorem own_reads64 {w : World} {base n g c : Nat} {l : List Int} (h : w.ownsRow base 5 1 (.slice (some ⟨g, 0, none⟩) n c) n (nums .u8 l)) (hn : l.length = n) : n ≤ c ∧ Kd.C (Kd.int .u8) w (some ⟨g, 0, none⟩) n l := by
  rw [← hn] at h
  obtain ⟨A', c', e', hcap, hC⟩ := Kd.R_reads (Kd.R_of_own (enc := Value.int .u8) (h1 := fun _ => rfl) (ok := fun _ => True) h (fun _ _ => trivial))
  injection e' with e1 _ e2
  subst e1 e2
  rw [hn] at hcap hC
  exact ⟨hcap, hC⟩
theorem C_dropAt {w : World} {g n a : Nat} {l : List Int} (h : Kd.C (Kd.int .u8) w (some ⟨g, 0, none⟩) n l) (hn : l.length = n) (ha : a ≤ n) : Kd.C (Kd.int .u8) w (some ((⟨g, 0, none⟩ : Addr).add a)) (n - a) (l.drop a) := by
  have h1 := h
  rw [← hn] at h1
  have h2 := Kd.C_drop (c := l.length + 1) h1 (m := a) (by omega) (by omega)
  rw [if_neg (by omega), List.length_drop, hn] at h2
  have : (Kd.int IntKind.u8).sz = 1 := rfl
  simpa [this] using h2
theorem C_takeAt {w : World} {A : Option Addr} {n a : Nat} {l : List Int} (h : Kd.C (Kd.int .u8) w A n l) (hn : l.length = n) (ha : a ≤ n) : Kd.C (Kd.int .u8) w A a (l.take a) := by
  have h1 := h
  rw [← hn] at h1
  have h2 := Kd.C_take h1 (m := a) (by omega)
  rwa [List.length_take, hn, Nat.min_eq_left ha] at h2
/-- What left's end says. -/
def LeftEnd (D : DS) (n : Nat) (s : Int) (w : World) (e : Ending) (w' : World) : Prop :=
  ∃ A m cp, e = .returned (.tuple #[.slice A m cp, .int .i64 (leftE D n s)]) ∧ Fr (fun _ => False) w w' ∧ (leftE D n s = 0 → m = n ∧ ∀ (B : Nat → Prop) W', (∀ k, B k → k < w.heap.size) → Fr B w' W' → Kd.C k102 W' A n (leftW D n))

set_option maxHeartbeats 8000000 in
set_option maxRecDepth 100000 in
theorem left_calls (g : Nat) (B : Nat → Prop) (D : DS) (n : Nat) (s : Int) (w : World) (h : IsDisk w B g D) (hd : D.down = false) (hD : 69 < D.n ∧ D.n ≤ 4096) (hn0 : 1 ≤ n) (hn : n ≤ 64) (hc : D.c.length ≤ 1000000) :
    Calls Try.prog 63 #[.pointer (some ⟨g, 0, none⟩), .int .i64 (n : Int), .int .u32 s] w (LeftEnd D n s w) := by
  obtain ⟨d1, d2⟩ := hD
  have H := Aside0.mk h
  have HD := Aside0.mk hd
  have HC := Aside0.mk hc
  have R1 := Aside0.mk (sectors_row g B D 1 4 w h hd (by omega) (by omega) (by omega) hc)
  have L1 := Aside0.mk (h.sectL_length 1 4)
  have L2 := Aside0.mk (h.sectL_length 5 n)
  clear h hd hc
  go_enter Try.func63, Try.ntmps63
  go_wp2_with fail
  refine R1.out.mono ?_
  rintro e w1 ⟨v8, rfl, ho8, hb1⟩
  rw [L1.out] at ho8
  obtain ⟨g8, c8, rfl, hz8⟩ := ho8.form (by omega)
  have HO8 := Aside0.mk ho8
  have HB1 := Aside0.mk hb1
  obtain ⟨hcap8, hC8⟩ := own_reads64 ho8 L1.out
  have HC8 : Aside0 (∀ W, Below w1.heap.size w1 W → Kd.C (Kd.int .u8) W (some ⟨g8, 0, none⟩) (4 * n) (placesOf D n)) := ⟨fun W hb => C_takeAt (Kd.C_below hC8 hb) L1.out (by omega)⟩
  have LP : Aside0 ((placesOf D n).length = 4 * n) := ⟨by unfold placesOf; rw [List.length_take, L1.out]; omega⟩
  have R2 := Aside0.mk (sectors_row g B D 5 n w1 (H.out.fr (Fr.of_below hb1 (fun _ => False)) (fun _ _ h => h)) HD.out (by omega) (by omega) (by omega) HC.out)
  have sl1 := slice22h ⟨g8, 0, none⟩ 256 c8 (4 * n) (by omega) (by omega) (4 * (n : Int)) (by omega)
  clear ho8 hb1 R1 hC8
  go_wp2_with fail
  refine R2.out.mono ?_
  rintro e w2 ⟨v9, rfl, ho9, hb2⟩
  rw [L2.out] at ho9
  obtain ⟨g9, c9, rfl, hz9⟩ := ho9.form (by omega)
  obtain ⟨hcap9, hC9⟩ := own_reads64 ho9 L2.out
  have HC9 : Aside0 (∀ W, Below w2.heap.size w2 W → Kd.C (Kd.int .u8) W (some ⟨g9, 0, none⟩) (n * 64) (sectL D 5 n)) := ⟨fun W hb => Kd.C_below hC9 hb⟩
  have HB2 : Aside0 (Below w.heap.size w w2) := ⟨HB1.out.trans (hb2.mono HB1.out.size)⟩
  have HB12 := Aside0.mk hb2
  have BC := Aside0.mk (bclone_calls ⟨g8, 0, none⟩ c8 (4 * n) (placesOf D n) w2 LP.out (by omega) (HC8.out w2 hb2))
  have hlt9 : g9 < w2.heap.size := hz9.2
  have hge9 : Aside0 (w.heap.size ≤ g9) := ⟨Nat.le_trans HB1.out.size hz9.1⟩
  clear ho9 hb2 hC9 R2 sl1 hz8 hz9
  go_wp2_with fail
  refine BC.out.mono ?_
  rintro e w3 ⟨v3, rfl, ho3, hb3⟩
  have HO3 := Aside0.mk ho3
  have HB3 := Aside0.mk hb3
  have HR9 : Aside0 (ReadsInt w3 .u8 (some ⟨g9, 0, none⟩) (n * 64) (sectL D 5 n)) := ⟨Kd.reads_of_C (enc := Value.int .u8) (d := (0 : Int)) (h1 := fun _ => rfl) (HC9.out w3 hb3)⟩
  clear ho3 hb3 BC
  go_wp2_with ((with_reducible refine gate_builtin (b := .append) (xs := #[.tmp 22, .tmp 23]) rfl ?_); at_builtin; refine print_append_row w2.heap.size rfl (.tmp 22) (.tmp 23) 22 5 .u8 1 rfl Try.underlying22 info5 (by omega) v3 (placesOf D n) (sectL D 5 n) (some ⟨g9, 0, none⟩) (n * 64) c9 rfl rfl HO3.out HR9.out HB3.out HB3.out.size (by have := LP.out; omega) ?_; intro v4 w4 h1 h2 h3 h4)
  obtain ⟨A4, c4, rfl, hcap4, hC4⟩ := Kd.R_reads (Kd.R_of_own (enc := Value.int .u8) (h1 := fun _ => rfl) (ok := fun _ => True) h1 (fun _ _ => trivial))
  have SC := Aside0.mk (journal_Sum.calls A4 c4 (placesOf D n ++ sectL D 5 n) (sumV (placesOf D n ++ sectL D 5 n)) w4 hC4 hcap4 rfl)
  have HB24 := Aside0.mk h2
  clear h1 h2 h3 h4 hcap4 hC4 HO3 HR9 HB3
  refine SC.out.mono ?_
  rintro e w5 ⟨rfl, ⟨nq, rfl⟩⟩
  clear SC
  have HB25 : Aside0 (Below w2.heap.size w2 (w4.drewN nq)) := ⟨HB24.out.trans ((Drawn0.below (⟨⟨nq, rfl⟩⟩ : Drawn0 w4 (w4.drewN nq))).mono HB24.out.size)⟩
  clear HB24
  generalize w4.drewN nq = W5 at *
  obtain ⟨s0, hs0⟩ : ∃ s0, sumV (placesOf D n ++ sectL D 5 n) = s0 := ⟨_, rfl⟩
  rw [hs0]
  have HS0 := Aside0.mk hs0
  clear hs0
  by_cases hs : s0 = s
  · subst hs
    have HF0 : Aside0 (W5.ownsRow W5.heap.size 102 2 (.slice none 0 0) 0 (encV g9 c9 (placesOf D n) 0)) := ⟨⟨rfl, .inl ⟨rfl, rfl⟩⟩⟩
    have HBW := Aside0.mk (Below.refl W5.heap.size W5)
    have HOK : Aside0 (okPl (D.n - 69) (placesOf D n) 0 = true) := ⟨rfl⟩
    go_wp2_with fail
    go_loopg [10, 29] n (fun kq v10 v29 W => ∃ (k : Nat), v29 = .int .i64 (k : Int) ∧ Aside0 (k + kq = n) ∧ Aside0 (okPl (D.n - 69) (placesOf D n) k = true) ∧ Aside0 (W.ownsRow W5.heap.size 102 2 v10 k (encV g9 c9 (placesOf D n) k)) ∧ Aside0 (Below W5.heap.size W5 W))
    case atStart => exact ⟨0, rfl, ⟨by omega⟩, HOK, HF0, HBW⟩
    case round =>
      clear HF0 HBW HOK
      obtain ⟨k, rfl, HI, HOK, HF, HBW⟩ := hrel
      have hk0 : (0 : Int) ≤ (k : Int) := by omega
      cases gk with
      | zero =>
        have hk : k = n := by have := HI.out; omega
        subst hk
        go_wp2_with fail
        go_ret2
        obtain ⟨gR, cR, rfl, hzR⟩ := HF.out.form (by omega)
        have hE : leftE D k s0 = 0 := by
          unfold leftE
          rw [HS0.out, if_neg (by simp), if_pos HOK.out]
        refine ⟨some ⟨gR, 0, none⟩, k, cR, by rw [hE]; rfl, Fr.of_below (HB2.out.trans ((HB25.out.trans (HBW.out.mono HB25.out.size)).mono HB2.out.size)) _, fun _ => ⟨rfl, fun B' W' hB' f' => ?_⟩⟩
        have hsz : w.heap.size ≤ W5.heap.size := Nat.le_trans HB2.out.size HB25.out.size
        have d1 := HC9.out wr (HB25.out.trans (HBW.out.mono HB25.out.size))
        have d2 := C_fr (0 : Int) d1 f' (fun ad e _ hb => by injection e with e; subst e; have h1 : g9 < w.heap.size := hB' _ hb; have := hge9.out; omega)
        have r2 := ownsRow_kept (w' := W') HF.out (fun b e => f'.keep b (own_lt HF.out b e) (fun hb => by have := hB' _ hb; have := own_base HF.out b e; omega))
        exact left_read r2 d2 L2.out hcap9 (by omega)
      | succ k1 =>
        have hk1 : (k : Int) < (n : Int) := by have := HI.out; omega
        have HI3 : Aside0 (k + 1 + k1 = n) := ⟨by have := HI.out; omega⟩
        have hbw : Below w2.heap.size w2 wr := HB25.out.trans (HBW.out.mono HB25.out.size)
        have NC : Aside0 (Calls Try.prog 60 #[.slice (some ⟨g8, 4 * k, none⟩) (4 * n - 4 * k) (c8 - 4 * k)] wr fun e w' => e = .returned (.int .u32 (placeN (placesOf D n) k)) ∧ Drawn0 wr w') := ⟨by
          have hl : ((placesOf D n).drop (4 * k)).length = 4 * n - 4 * k := by rw [List.length_drop, LP.out]
          have hr := C_dropAt (HC8.out wr (HB12.out.trans (hbw.mono HB12.out.size))) LP.out (a := 4 * k) (by omega)
          have h0 := journal_number.calls (some ((⟨g8, 0, none⟩ : Addr).add (4 * k))) (c8 - 4 * k) ((placesOf D n).drop (4 * k)) (placeN (placesOf D n) k) wr (by rw [hl]; exact hr) (by rw [hl]; omega) (numL_f (by rw [hl]; omega))
          rw [hl, Addr.add_mid, Nat.zero_add] at h0
          exact h0⟩
        have SC : Aside0 (∀ nq, Calls Try.prog 53 #[.pointer (some ⟨g, 0, none⟩)] (wr.drewN nq) fun e w' => e = .returned (.int .i64 D.n) ∧ w' = wr.drewN nq) := ⟨fun nq => sect_calls g B D (wr.drewN nq) ((H.out.fr (Fr.of_below (HB2.out.trans (hbw.mono HB2.out.size)) (fun _ => False)) (fun _ _ h => h)).drewN nq)⟩
        have sl1 := slice22l ⟨g8, 0, none⟩ (4 * n) c8 (4 * k) (by omega) (by omega) (4 * (k : Int)) (by omega)
        rw [Addr.add_mid, Nat.zero_add] at sl1
        have sl2 : ∀ W, (Instr.slice 22 (.slice (some ⟨g9, 0, none⟩) (n * 64) c9) (some (.int .i64 (64 * (k : Int)))) (some (.int .i64 (64 * ((k : Int) + 1)))) none).run Try.prog W = .ok (.slice (some ⟨g9, 64 * k, none⟩) 64 (c9 - 64 * k)) W := fun W => by
          have := slice22 ⟨g9, 0, none⟩ (n * 64) c9 (64 * k) (64 * (k + 1)) (by omega) (by omega) (by omega) (64 * (k : Int)) (64 * ((k : Int) + 1)) (by omega) (by omega) W
          rw [show 64 * (k + 1) - 64 * k = 64 by omega, Addr.add_mid, Nat.zero_add] at this
          exact this
        obtain ⟨pl, hpl⟩ : ∃ pl, placeN (placesOf D n) k = pl := ⟨_, rfl⟩
        have hpr := numL_range ((placesOf D n).drop (4 * k))
        have hpr' : 0 ≤ pl ∧ pl < 4294967296 := by rw [← hpl]; exact hpr
        obtain ⟨p1, p2⟩ := hpr'
        rw [hpl] at NC
        have HPL := Aside0.mk hpl
        clear hpl hpr hbw
        go_wp2_with fail
        refine NC.out.mono ?_
        rintro e w6 ⟨rfl, ⟨nq, rfl⟩⟩
        go_wp2_with fail
        refine (SC.out _).mono ?_
        rintro e w7 ⟨rfl, rfl⟩
        clear SC NC sl1
        by_cases hp : pl < D.n - 69
        · have HBn : Aside0 (Below W5.heap.size W5 (wr.drewN nq)) := ⟨HBW.out.trans ((Drawn0.below (⟨⟨nq, rfl⟩⟩ : Drawn0 wr (wr.drewN nq))).mono HBW.out.size)⟩
          have HFn : Aside0 ((wr.drewN nq).ownsRow W5.heap.size 102 2 u10 k (encV g9 c9 (placesOf D n) k)) := ⟨HF.out⟩
          clear HF HBW
          generalize wr.drewN nq = W6 at *
          have wa : Below W6.heap.size W6 (W6.alloc (.cells #[.int .i64 pl, .slice (some ⟨g9, 64 * k, none⟩) 64 (c9 - 64 * k)] 102)) := (Below.refl _ _).alloc (Nat.le_refl _) _
          have HB7 : Aside0 (Below W5.heap.size W5 (W6.alloc (.cells #[.int .i64 pl, .slice (some ⟨g9, 64 * k, none⟩) 64 (c9 - 64 * k)] 102))) := ⟨HBn.out.trans (wa.mono HBn.out.size)⟩
          have HF7 : Aside0 ((W6.alloc (.cells #[.int .i64 pl, .slice (some ⟨g9, 64 * k, none⟩) 64 (c9 - 64 * k)] 102)).ownsRow W5.heap.size 102 2 u10 k (encV g9 c9 (placesOf D n) k)) := ⟨ownsRow_kept HFn.out (fun b e => wa.block b (own_lt HFn.out b e))⟩
          have HNW : Aside0 (∀ (j : Nat) (u : Value), [Value.int .i64 pl, .slice (some ⟨g9, 64 * k, none⟩) 64 (c9 - 64 * k)][j]? = some u → (W6.alloc (.cells #[.int .i64 pl, .slice (some ⟨g9, 64 * k, none⟩) 64 (c9 - 64 * k)] 102)).cell? ((⟨W6.heap.size, 0, none⟩ : Addr).add j) = some u) := ⟨fun j u hj => by
            rw [Addr.add_mid, Nat.zero_add, cell_of_row _ _ _ _ _ _ (heap_alloc_new W6 _), ← hj]
            exact List.getElem?_toArray⟩
          have HOK2 : Aside0 (okPl (D.n - 69) (placesOf D n) (k + 1) = true) := ⟨by
            rw [okPl, HOK.out, HPL.out]
            simpa using hp⟩
          clear wa HBn HFn
          go_wp2_with ((with_reducible refine gate_builtin (b := .append) (xs := #[.tmp 43, .tmp 53]) rfl ?_); at_builtin; refine wp_app_row rfl (.tmp 43) (.tmp 53) 60 rfl W5.heap.size 102 _ 2 32 Try.underlying60 info102 rfl (by decide) u10 k (encV g9 c9 (placesOf D n) k) rfl HF7.out ⟨W6.heap.size, 0, none⟩ 1 1 [.int .i64 pl, .slice (some ⟨g9, 64 * k, none⟩) 64 (c9 - 64 * k)] rfl rfl HNW.out (by intro u hu; simp at hu; rcases hu with rfl | rfl <;> rfl) (by simp only [maxLen]; omega) (by omega) HB7.out.size ?_; intro v10 W8 h1 h2 h3)
          have HF8 : Aside0 (W8.ownsRow W5.heap.size 102 2 v10 (k + 1) (encV g9 c9 (placesOf D n) (k + 1))) := ⟨by rw [encV, HPL.out]; exact h1⟩
          have HB8 : Aside0 (Below W5.heap.size W5 W8) := ⟨HB7.out.grown h2 HB7.out.size (fun b e => own_base HF7.out b e)⟩
          clear h1 h2 h3 HF7 HB7 HNW sl2
          go_roundg k1
          case measure => omega
          case rel => exact ⟨k + 1, by go_num, HI3, HOK2, HF8, HB8⟩
        · have hE : Aside0 (leftE D n s0 = 2) := ⟨by
            unfold leftE
            rw [HS0.out, if_neg (by simp), okPl_false (k := k) (by omega) (by rw [HPL.out]; exact hp), if_neg (by decide)]⟩
          have hp' : D.n - 69 ≤ pl := by omega
          go_wp2_with fail
          go_ret2
          exact ⟨none, 0, 0, by rw [hE.out]; rfl, (Fr.of_below (HB2.out.trans ((HB25.out.trans (HBW.out.mono HB25.out.size)).mono HB2.out.size)) _).drewN _, fun h => by rw [hE.out] at h; cases h⟩
  · have hsn : (s0 != s) = true := by simpa using hs
    have HE : Aside0 (leftE D n s = 240) := ⟨by unfold leftE; rw [HS0.out, if_pos hs]⟩
    go_wp2_with fail
    go_ret2
    refine ⟨none, 0, 0, by rw [HE.out]; rfl, Fr.of_below (HB2.out.trans (HB25.out.mono HB2.out.size)) _, fun h => by rw [HE.out] at h; cases h⟩
end Go.Proofs.Ytppgbfkhiofjiaa.X

namespace Go.Proofs.Ytppgbfkhiofjiaa.X
open Go.RowKit Go.Proofs.YtppgbfkhiofjiaaW.PrintWords Go.Proofs.YtppgbfkhiofjiaaW.PrintLast Go.Proofs.YtppgbfkhiofjiaaW.PrintMore Go.Proofs.Ytppgbfkhiofjiaa.Y
set_option linter.unusedVariables false
set_option linter.unusedSimpArgs false

def sameB (a b : List Int) : Bool := (strOfNums a).toList == (strOfNums b).toList
def cntOf (D : DS) : Int := numL ((rd64 D 0).drop 4)
def sumOf (D : DS) : Int := numL ((rd64 D 0).drop 8)
/-- Opening a journal: the answer, and the disk behind it. -/
def openD (D : DS) : Int × DS :=
  if D.n ≤ 69 then (2, D) else if D.down = true then (230, D) else
    if 64 < cntOf D then (6, D) else if cntOf D = 0 ∧ sumOf D ≠ 0 then (6, D) else if sameB (rd64 D 0) (headL (cntOf D) (sumOf D)) = false then (6, D)
    else if cntOf D = 0 then (0, D) else if leftE D (cntOf D).toNat (sumOf D) ≠ 0 then (leftE D (cntOf D).toNat (sumOf D), D) else finishD (leftW D (cntOf D).toNat) D
theorem JOk.opened {i : Nat} {D : DS} (h : JOk i D) : JOk (i + 70) (openD D).2 := by
  have hm : ∀ {e : Int}, JOk (i + 70) ((e, D) : Int × DS).2 := h.mono (by omega)
  unfold openD
  split
  · exact hm
  · split
    · exact hm
    · split
      · exact hm
      · rename_i hc
        split
        · exact hm
        · split
          · exact hm
          · split
            · exact hm
            · split
              · exact hm
              · have h2 := h.finish (leftW D (cntOf D).toNat)
                unfold leftW at h2 ⊢
                rw [leftL_length] at h2
                exact h2.mono (by omega)

theorem okPl_all {m : Int} {P Dt : List Int} : ∀ {n : Nat}, okPl m P n = true → ∀ x ∈ leftL P Dt n, 0 ≤ x.f0 ∧ x.f0 < m
  | 0, _, x, hx => by simp [leftL] at hx
  | n + 1, h, x, hx => by
    rw [okPl, Bool.and_eq_true] at h
    rw [leftL, List.mem_append] at hx
    rcases hx with hx | hx
    · exact okPl_all h.1 x hx
    · rw [List.mem_singleton] at hx
      subst hx
      exact ⟨(numL_range _).1, of_decide_eq_true h.2⟩
theorem leftE_ok {D : DS} {n : Nat} {s : Int} (h : leftE D n s = 0) : ∀ x ∈ leftW D n, 0 ≤ x.f0 ∧ x.f0 < D.n - 69 := by
  unfold leftE at h
  split at h
  · cases h
  · split at h
    · rename_i h2
      exact okPl_all h2
    · cases h
/-- What Open's end says. -/
def OpenEnd (B : Nat → Prop) (g : Nat) (r : Int × DS) (w : World) (e : Ending) (w' : World) : Prop :=
  ∃ v, e = .returned (.tuple #[v, .int .i64 r.1]) ∧ Fr B w w' ∧ (r.1 ≠ 0 → v = .pointer none ∧ Moved w B g w' r.2) ∧
    (r.1 = 0 → ∃ lb B', v = .pointer (some ⟨lb, 0, none⟩) ∧ w.heap.size ≤ lb ∧ IsLog w' lb g false ∧ IsDisk w' B' g r.2 ∧ (∀ k, B' k → B k ∨ w.heap.size ≤ k) ∧ ¬ B' lb)
theorem OpenEnd.bad {B : Nat → Prop} {g : Nat} {x : Int} {D : DS} {w w' : World} (h : Moved w B g w' D) (hx : x ≠ 0) : OpenEnd B g (x, D) w (.returned (.tuple #[.pointer none, .int .i64 x])) w' :=
  ⟨_, rfl, h.fr, fun _ => ⟨rfl, h⟩, fun h0 => absurd h0 hx⟩
theorem OpenEnd.good {B : Nat → Prop} {g : Nat} {D : DS} {w W : World} (h : Moved w B g W D) : OpenEnd B g (0, D) w (.returned (.tuple #[.pointer (some ⟨W.heap.size, 0, none⟩), .int .i64 0])) (W.alloc (.cells #[.pointer (some ⟨g, 0, none⟩), .bool false] 104)) := by
  obtain ⟨B', h1, h2, h3⟩ := h
  exact ⟨_, rfl, h3.alloc _, fun h0 => absurd rfl h0, fun _ => ⟨W.heap.size, B', rfl, h3.size, heap_alloc_new _ _, h1.alloc _, h2, fun hb => Nat.lt_irrefl _ (h1.lt _ hb)⟩⟩

set_option maxHeartbeats 8000000 in
set_option maxRecDepth 100000 in
theorem open_calls (g : Nat) (B : Nat → Prop) (D : DS) (w : World) (i : Nat) (h : IsDisk w B g D) (ho : JOk i D) (hi : i ≤ 200000) (hD : 0 ≤ D.n ∧ D.n ≤ 4096) :
    Calls Try.prog 33 #[.pointer (some ⟨g, 0, none⟩)] w (OpenEnd B g (openD D) w) := by
  have SC := small_calls g B D w h
  have M0 := Aside0.mk (Moved.refl h)
  by_cases hn : D.n ≤ 69
  · rw [show decide (D.n ≤ 69) = true by simpa using hn] at SC
    have SC := Aside0.mk SC
    have HE : Aside0 (openD D = (2, D)) := ⟨by unfold openD; rw [if_pos hn]⟩
    clear h ho hn hD
    go_enter Try.func33, Try.ntmps33
    go_wp2_with fail
    refine SC.out.mono ?_
    rintro e w' ⟨rfl, rfl⟩
    go_wp2_with fail
    go_ret2
    rw [HE.out]
    exact OpenEnd.bad M0.out (by decide)
  · rw [show decide (D.n ≤ 69) = false by simpa using hn] at SC
    have SC := Aside0.mk SC
    by_cases hd : D.down = true
    · have HE : Aside0 (openD D = (230, D)) := ⟨by unfold openD; rw [if_neg hn, if_pos hd]⟩
      have hlk : lookD D 0 = 230 := by unfold lookD; rw [if_pos hd]
      have RC := read_bad g B D 0 w h (by rw [hlk]; decide)
      rw [hlk] at RC
      have RC := Aside0.mk RC
      clear h ho hn hD hd hlk
      go_enter Try.func33, Try.ntmps33
      go_wp2_with fail
      refine SC.out.mono ?_
      rintro e w' ⟨rfl, rfl⟩
      go_wp2_with fail
      refine RC.out.mono ?_
      rintro e w1 ⟨rfl, hd1⟩
      have HD1 := Aside0.mk hd1
      clear hd1
      go_wp2_with fail
      go_ret2
      rw [HE.out]
      exact OpenEnd.bad (M0.out.quiet (Fr.of_drawn HD1.out _)) (by decide)
    · have hd' : D.down = false := by simpa using hd
      have HDN := Aside0.mk hd'
      have hlk : lookD D 0 = 0 := by unfold lookD; rw [if_neg hd, if_neg (by omega), if_neg (by omega)]
      have RC := Aside0.mk (read_calls g B D 0 w h hlk wf0 (by have := ho.u; omega))
      have HL := Aside0.mk (h.rd64_length 0)
      have H := Aside0.mk h
      have HO := Aside0.mk ho
      obtain ⟨d1, d2⟩ := hD
      have HN : Aside0 (openD D = if 64 < cntOf D then (6, D) else if cntOf D = 0 ∧ sumOf D ≠ 0 then (6, D) else if sameB (rd64 D 0) (headL (cntOf D) (sumOf D)) = false then (6, D)
          else if cntOf D = 0 then (0, D) else if leftE D (cntOf D).toNat (sumOf D) ≠ 0 then (leftE D (cntOf D).toNat (sumOf D), D) else finishD (leftW D (cntOf D).toNat) D) := ⟨by unfold openD; rw [if_neg hn, if_neg hd]⟩
      clear h ho hd hd' hlk
      go_enter Try.func33, Try.ntmps33
      go_wp2_with fail
      refine SC.out.mono ?_
      rintro e w' ⟨rfl, rfl⟩
      go_wp2_with fail
      refine RC.out.mono ?_
      rintro e w1 ⟨gb, rfl, hgb, har, hf1⟩
      have HA := Aside0.mk har
      have HF1 := Aside0.mk hf1
      have HGB := Aside0.mk hgb
      have NC4 : Aside0 (∀ W : World, W.heap = w1.heap → Calls Try.prog 60 #[.slice (some ⟨gb, 4, none⟩) 60 60] W fun e w' => e = .returned (.int .u32 (cntOf D)) ∧ Drawn0 W w') := ⟨fun W e => by
        have hr : IsArr W gb (rd64 D 0) := har.kept (by rw [e])
        have hC : Kd.C (Kd.int .u8) W (some ⟨gb, 0, none⟩) 64 (rd64 D 0) := Kd.C_of_reads (d := (0 : Int)) (h1 := fun _ => rfl) (IsArr.reads hr HL.out)
        have h1 := C_dropAt hC HL.out (a := 4) (by omega)
        rw [Addr.add_mid, Nat.zero_add] at h1
        have hl : ((rd64 D 0).drop 4).length = 60 := by rw [List.length_drop, HL.out]
        have h0 := journal_number.calls (some ⟨gb, 4, none⟩) 60 ((rd64 D 0).drop 4) (cntOf D) W (by rw [hl]; exact h1) (by rw [hl]; omega) (numL_f (by rw [hl]; omega))
        rw [hl] at h0
        exact h0⟩
      have NC8 : Aside0 (∀ W : World, W.heap = w1.heap → Calls Try.prog 60 #[.slice (some ⟨gb, 8, none⟩) 56 56] W fun e w' => e = .returned (.int .u32 (sumOf D)) ∧ Drawn0 W w') := ⟨fun W e => by
        have hr : IsArr W gb (rd64 D 0) := har.kept (by rw [e])
        have hC : Kd.C (Kd.int .u8) W (some ⟨gb, 0, none⟩) 64 (rd64 D 0) := Kd.C_of_reads (d := (0 : Int)) (h1 := fun _ => rfl) (IsArr.reads hr HL.out)
        have h1 := C_dropAt hC HL.out (a := 8) (by omega)
        rw [Addr.add_mid, Nat.zero_add] at h1
        have hl : ((rd64 D 0).drop 8).length = 56 := by rw [List.length_drop, HL.out]
        have h0 := journal_number.calls (some ⟨gb, 8, none⟩) 56 ((rd64 D 0).drop 8) (sumOf D) W (by rw [hl]; exact h1) (by rw [hl]; omega) (numL_f (by rw [hl]; omega))
        rw [hl] at h0
        exact h0⟩
      have c1 : 0 ≤ cntOf D := (numL_range _).1
      have c2 : cntOf D < 4294967296 := (numL_range _).2
      have hcn : ∃ cn, cntOf D = cn := ⟨_, rfl⟩
      obtain ⟨cn, hcn⟩ := hcn
      have hsn : ∃ sn, sumOf D = sn := ⟨_, rfl⟩
      obtain ⟨sn, hsn⟩ := hsn
      rw [hcn] at NC4 c1 c2
      rw [hsn] at NC8
      have s1 : 0 ≤ sn := by rw [← hsn]; exact (numL_range _).1
      have s2 : sn < 4294967296 := by rw [← hsn]; exact (numL_range _).2
      rw [hcn, hsn] at HN
      clear hgb har hf1 RC SC hcn hsn
      go_wp2_with fail
      have N4 : Aside0 (Calls Try.prog 60 #[.slice (some ⟨gb, 4, none⟩) 60 60] w1.drew fun e w' => e = .returned (.int .u32 cn) ∧ w'.heap = w1.heap ∧ Fr (fun _ => False) w1 w') := ⟨(NC4.out w1.drew rfl).mono fun e w' ⟨he, ⟨q, hq⟩⟩ => ⟨he, by rw [hq]; rfl, by rw [hq]; exact (Fr.refl _ w1).drew.drewN q⟩⟩
      have N8 : Aside0 (∀ W : World, W.heap = w1.heap → Fr (fun _ => False) w1 W → Calls Try.prog 60 #[.slice (some ⟨gb, 8, none⟩) 56 56] W fun e w' => e = .returned (.int .u32 sn) ∧ w'.heap = w1.heap ∧ Fr (fun _ => False) w1 w') := ⟨fun W e f => (NC8.out W e).mono fun e' w' ⟨he, ⟨q, hq⟩⟩ => ⟨he, by rw [hq]; exact e, by rw [hq]; exact f.drewN q⟩⟩
      clear NC4 NC8
      go_region_held3 (fun W => Fr (fun _ => False) w1 W) (first | exact HF3.out | exact HF2.out | exact (Fr.refl _ w1).drew) (first
        | (go_at_call 60; (with_reducible refine N4.out.mono ?_); rintro e w2 ⟨rfl, h2, f2⟩; have HQ2 := Aside0.mk h2; have HF2 := Aside0.mk f2; clear h2 f2)
        | (go_at_call 60; (with_reducible refine (N8.out w2 HQ2.out HF2.out).mono ?_); rintro e w3 ⟨rfl, h3, f3⟩; have HQ3 := Aside0.mk h3; have HF3 := Aside0.mk f3; clear h3 f3))
      have HF := Aside0.mk (HF1.out.trans HF3.out (fun _ h => h.elim))
      clear N4 N8 HQ2 HQ3 HF2
      have HA3 : Aside0 (IsArr w3 gb (rd64 D 0)) := ⟨HA.out.kept (HF3.out.keep _ HA.out.lt (fun h => h))⟩
      clear HA HF1 HF3
      by_cases b1 : 64 < cn
      · have HE : Aside0 (openD D = (6, D)) := ⟨by rw [HN.out, if_pos (by omega)]⟩
        have b1' : (64 : Int) < cn := by omega
        go_wp2_with fail
        go_ret2
        rw [HE.out]
        exact OpenEnd.bad (M0.out.quiet HF.out) (by decide)
      · have b1' : cn ≤ 64 := by omega
        have HN2 := Aside0.mk (HN.out.trans (if_neg (by omega)))
        by_cases b2 : cn = 0 ∧ sn ≠ 0
        · obtain ⟨rfl, hsn⟩ := b2
          have HE : Aside0 (openD D = (6, D)) := ⟨by rw [HN2.out, if_pos ⟨rfl, hsn⟩]⟩
          have e1 : (sn != 0) = true := by simpa using hsn
          go_wp2_with fail
          go_ret2
          rw [HE.out]
          exact OpenEnd.bad (M0.out.quiet HF.out) (by decide)
        · have HN3 := Aside0.mk (HN2.out.trans (if_neg (fun h => b2 h)))
          have HC := Aside0.mk (head_calls cn sn w3 ⟨by omega, by omega⟩)
          have EQ : Aside0 (∀ (A : Option Addr) (c : Nat) (w4 : World), Kd.R (Kd.int .u8) 5 w4 w3.heap.size (fun _ => True) (.slice A 64 c) (headL cn sn) → Below w3.heap.size w3 w4 →
              Calls Try.prog 61 #[.slice (some ⟨gb, 0, none⟩) 64 64, .slice A 64 c] w4 fun e w5 => e = .returned (.bool (sameB (rd64 D 0) (headL cn sn))) ∧ Fr (fun _ => False) w' w5) := ⟨fun A c w4 hR hB => by
            obtain ⟨A', c', e', hcap, hC⟩ := Kd.R_reads hR
            injection e' with e1 _ e2
            subst e1 e2
            have hr : IsArr w4 gb (rd64 D 0) := HA3.out.kept (hB.block _ HA3.out.lt)
            have hC0 : Kd.C (Kd.int .u8) w4 (some ⟨gb, 0, none⟩) 64 (rd64 D 0) := Kd.C_of_reads (d := (0 : Int)) (h1 := fun _ => rfl) (IsArr.reads hr HL.out)
            have h0 := bytes_Equal.calls (some ⟨gb, 0, none⟩) 64 (rd64 D 0) A c (headL cn sn) (sameB (rd64 D 0) (headL cn sn)) w4 (by rw [HL.out]; exact hC0) (by rw [HL.out]; exact Nat.le_refl _) hC hcap rfl
            rw [HL.out] at h0
            exact h0.mono fun e w5 ⟨he, hd⟩ => ⟨he, (HF.out.trans (Fr.of_below hB (fun _ => False)) (fun _ h => .inl h)).trans (Fr.of_drawn hd (fun _ => False)) (fun _ h => .inl h)⟩⟩
          obtain ⟨sb, hsb⟩ : ∃ sb, sameB (rd64 D 0) (headL cn sn) = sb := ⟨_, rfl⟩
          rw [hsb] at EQ HN3
          clear hsb HN HN2
          cases sb with
          | false =>
            have HE : Aside0 (openD D = (6, D)) := ⟨by rw [HN3.out, if_pos rfl]⟩
            by_cases b3 : cn = 0
            · obtain rfl : sn = 0 := by
                by_cases h : sn = 0
                · exact h
                · exact absurd ⟨b3, h⟩ b2
              subst b3
              go_wp2_with fail
              refine HC.out.mono ?_
              rintro e w4 ⟨A4, c4, rfl, r4, b4⟩
              have E5 := Aside0.mk (EQ.out A4 c4 w4 r4 b4)
              clear r4 b4
              go_wp2_with fail
              refine E5.out.mono ?_
              rintro e w5 ⟨rfl, f5⟩
              have F5 := Aside0.mk f5
              clear f5
              go_wp2_with fail
              go_ret2
              rw [HE.out]
              exact OpenEnd.bad (M0.out.quiet F5.out) (by decide)
            · have b3' : (cn == 0) = false := by simpa using b3
              go_wp2_with fail
              refine HC.out.mono ?_
              rintro e w4 ⟨A4, c4, rfl, r4, b4⟩
              have E5 := Aside0.mk (EQ.out A4 c4 w4 r4 b4)
              clear r4 b4
              go_wp2_with fail
              refine E5.out.mono ?_
              rintro e w5 ⟨rfl, f5⟩
              have F5 := Aside0.mk f5
              clear f5
              go_wp2_with fail
              go_ret2
              rw [HE.out]
              exact OpenEnd.bad (M0.out.quiet F5.out) (by decide)
          | true =>
            have HN4 := Aside0.mk (HN3.out.trans (if_neg (by decide)))
            by_cases b3 : cn = 0
            · obtain rfl : sn = 0 := by
                by_cases h : sn = 0
                · exact h
                · exact absurd ⟨b3, h⟩ b2
              subst b3
              have HE : Aside0 (openD D = (0, D)) := ⟨HN4.out.trans (if_pos (by simp))⟩
              go_wp2_with fail
              refine HC.out.mono ?_
              rintro e w4 ⟨A4, c4, rfl, r4, b4⟩
              have E5 := Aside0.mk (EQ.out A4 c4 w4 r4 b4)
              clear r4 b4
              go_wp2_with fail
              refine E5.out.mono ?_
              rintro e w5 ⟨rfl, f5⟩
              have F5 := Aside0.mk f5
              clear f5
              go_wp2_with fail
              go_ret2
              rw [HE.out]
              exact OpenEnd.good (M0.out.quiet F5.out)
            · have b3' : (cn == 0) = false := by simpa using b3
              have HP4 : Aside0 ((0 : Int) < cn) := ⟨by omega⟩
              obtain ⟨n, hn'⟩ : ∃ n : Nat, cn.toNat = n := ⟨_, rfl⟩
              have HNN : Aside0 ((n : Int) = cn) := ⟨by omega⟩
              have HN5 := Aside0.mk (HN4.out.trans (if_neg (by omega)))
              rw [hn'] at HN5
              clear hn'
              go_wp2_with fail
              refine HC.out.mono ?_
              rintro e w4 ⟨A4, c4, rfl, r4, b4⟩
              have E5 := Aside0.mk (EQ.out A4 c4 w4 r4 b4)
              clear r4 b4
              go_wp2_with fail
              refine E5.out.mono ?_
              rintro e w5 ⟨rfl, f5⟩
              have F5 := Aside0.mk f5
              have lc := left_calls g B D n sn w5 (H.out.fr f5 (fun _ _ h => h)) HDN.out ⟨by omega, by omega⟩ (by have := HNN.out; omega) (by have := HNN.out; omega) (by have := HO.out.u; omega)
              rw [HNN.out] at lc
              have LC := Aside0.mk lc
              have hn64 : n ≤ 64 := by have := HNN.out; omega
              clear f5 HC EQ E5 b3' b1 b2 b3 lc
              have b4' := HP4.out
              go_wp2_with fail
              refine LC.out.mono ?_
              rintro e w6 ⟨A6, m6, cp6, rfl, f6, q6⟩
              have F6 : Aside0 (Fr (fun _ => False) w' w6) := ⟨F5.out.trans f6 (fun _ h => h.elim)⟩
              have Q6 := Aside0.mk q6
              clear f6 q6 LC
              obtain ⟨le, hle⟩ : ∃ le, leftE D n sn = le := ⟨_, rfl⟩
              have HLE := Aside0.mk hle
              rw [hle] at Q6 HN5 ⊢
              clear hle
              by_cases hz : le = 0
              · subst hz
                obtain ⟨rfl, q7⟩ := Q6.out rfl
                have HN6 := Aside0.mk (HN5.out.trans (if_neg (by simp)))
                have FC := Aside0.mk (finish_calls g B D A6 cp6 m6 (leftW D m6) w6 i (H.out.fr F6.out (fun _ _ h => h)) HO.out (by omega) (leftL_length _ _ _)
                  (fun W' f' => q7 B W' (fun k hk => Nat.lt_of_lt_of_le (H.out.lt k hk) F5.out.size) f') (fun x hx => by have := leftE_ok HLE.out x hx; omega))
                clear Q6 q7
                go_wp2_with fail
                refine FC.out.mono ?_
                rintro e w7 ⟨rfl, m7⟩
                have M7 := Aside0.mk (m7.ahead F6.out)
                clear m7 FC
                obtain ⟨⟨fe, fD⟩, hfr⟩ : ∃ r, finishD (leftW D m6) D = r := ⟨_, rfl⟩
                rw [hfr] at M7 HN6 ⊢
                clear hfr
                dsimp only at M7 ⊢
                by_cases hz2 : fe = 0
                · subst hz2
                  go_wp2_with fail
                  go_ret2
                  rw [HN6.out]
                  exact OpenEnd.good M7.out
                · have e1 : (fe != 0) = true := by simpa using hz2
                  go_wp2_with fail
                  go_ret2
                  rw [HN6.out]
                  exact OpenEnd.bad M7.out hz2
              · have e1 : (le != 0) = true := by simpa using hz
                have e2 : (le == 0) = false := by simpa using hz
                have HN6 := Aside0.mk (HN5.out.trans (if_pos hz))
                go_wp2_with fail
                go_ret2
                rw [HN6.out]
                exact OpenEnd.bad (M0.out.quiet F6.out) hz
end Go.Proofs.Ytppgbfkhiofjiaa.X

namespace Go.Proofs.Ytppgbfkhiofjiaa.X
open Go.RowKit Go.Proofs.YtppgbfkhiofjiaaW.PrintWords Go.Proofs.YtppgbfkhiofjiaaW.PrintLast Go.Proofs.YtppgbfkhiofjiaaW.PrintMore Go.Proofs.Ytppgbfkhiofjiaa.Y
set_option linter.unusedVariables false
set_option linter.unusedSimpArgs false
theorem or_add (i : Nat) (hi : i ≤ 32) (a b : Int) (h0 : 0 ≤ a) (h1 : a < 2 ^ i) (h2 : 0 ≤ b) (h3 : b * 2 ^ i + a < 4294967296) : bits .or .u32 a (b * 2 ^ i) = a + b * 2 ^ i := by
  obtain ⟨x, rfl⟩ := Int.eq_ofNat_of_zero_le h0
  obtain ⟨y, rfl⟩ := Int.eq_ofNat_of_zero_le h2
  have hx : x < 2 ^ i := by exact_mod_cast h1
  have e : ((y : Int) * 2 ^ i) = ((y * 2 ^ i : Nat) : Int) := by exact_mod_cast rfl
  have hz : y * 2 ^ i + x < 4294967296 := by rw [e] at h3; omega
  rw [e, (bits_nat .u32 32 (by decide) (fun n a b => by rw [IntKind.wrap_u32]; omega) x (y * 2 ^ i) (by omega) (by omega)).2]
  rw [Nat.or_comm, Nat.mul_comm, ← Nat.two_pow_add_eq_or_of_lt hx]
  push_cast
  rw [Int.mul_comm]
  omega
theorem numL_bytes {a b c d : Int} {r : List Int} (ha : 0 ≤ a ∧ a < 256) (hb : 0 ≤ b ∧ b < 256) (hc : 0 ≤ c ∧ c < 256) (hd : 0 ≤ d ∧ d < 256) : numL (a :: b :: c :: d :: r) = a + b * 256 + c * 65536 + d * 16777216 := by
  have e : journal_number.f (a :: b :: c :: d :: r) = some (bits .or .u32 (bits .or .u32 (bits .or .u32 (a % 4294967296) ((b % 4294967296 * 256) % 4294967296)) ((c % 4294967296 * 65536) % 4294967296)) ((d % 4294967296 * 16777216) % 4294967296)) := by
    have hl : (4 : Int) ≤ ((a :: b :: c :: d :: r).length : Int) := by simp only [List.length_cons]; omega
    unfold journal_number.f
    rw [if_pos (by omega), if_pos (by omega), if_pos (by omega), if_pos (by omega)]
    rfl
  unfold numL
  rw [e, Option.getD_some]
  have m1 : a % 4294967296 = a := by omega
  have m2 : (b % 4294967296 * 256) % 4294967296 = b * 2 ^ 8 := by omega
  have m3 : (c % 4294967296 * 65536) % 4294967296 = c * 2 ^ 16 := by omega
  have m4 : (d % 4294967296 * 16777216) % 4294967296 = d * 2 ^ 24 := by omega
  rw [m1, m2, m3, m4, or_add 8 (by decide) a b (by omega) (by omega) (by omega) (by omega), or_add 16 (by decide) (a + b * 2 ^ 8) c (by omega) (by omega) (by omega) (by omega), or_add 24 (by decide) (a + b * 2 ^ 8 + c * 2 ^ 16) d (by omega) (by omega) (by omega) (by omega)]
  rfl
theorem sumV_range (l : List Int) : 0 ≤ sumV l ∧ sumV l < 4294967296 := by
  obtain ⟨n, h⟩ : ∃ n, sumV l = IntKind.u32.wrap n := ⟨_, rfl⟩
  rw [h, IntKind.wrap_u32]
  omega
/-- As the program wants them. -/
def jw (l : List S105) : List S102 := l.map fun x => ⟨x.f0, x.f1⟩
theorem info105' : (Try.prog.info? 105).map (fun i => (i.zero, i.size, i.bytes)) = some (some (.agg #[(.int .i64 0), (.slice none 0 0)]), 2, 32) := by kernel_rfl
end Go.Proofs.Ytppgbfkhiofjiaa.X


namespace Go.Proofs.Ytppgbfkhiofjiaa.X
open Go.RowKit Go.Proofs.YtppgbfkhiofjiaaW.PrintWords Go.Proofs.YtppgbfkhiofjiaaW.PrintLast Go.Proofs.YtppgbfkhiofjiaaW.PrintMore Go.Proofs.Ytppgbfkhiofjiaa.Y
set_option linter.unusedVariables false
set_option linter.unusedSimpArgs false
theorem writes_l0 {l : List S105} (hb : ∀ x ∈ l, x.f1.length < 140737488355328) (hn : l.length < 4398046511104) : ∀ (d i : Nat), i + d = l.length → redlinelaw24_writes.l0 (d + 1) l (jw (l.take i)) (i : Int) = some (jw l)
  | 0, i, h => by
    rw [redlinelaw24_writes.l0, if_neg (by omega), List.take_of_length_le (by omega)]
  | d + 1, i, h => by
    have hi : i < l.length := by omega
    have hrd : rd_T105 l (i : Int) = l[i] := by
      unfold rd_T105
      rw [Int.toNat_natCast, List.getD_eq_getElem?_getD, List.getElem?_eq_getElem hi]
      rfl
    have hlen := hb _ (List.getElem_mem hi)
    have hw : wrap64 ((i : Int) + 1) = ((i + 1 : Nat) : Int) := by unfold wrap64; omega
    have hj : jw (l.take i) ++ [(⟨l[i].f0, ([] : List Int) ++ l[i].f1⟩ : S102)] = jw (l.take (i + 1)) := by
      have e : l.take (i + 1) = l.take i ++ [l[i]] := List.take_succ_eq_append_getElem hi
      rw [e]
      unfold jw
      rw [List.map_append]
      rfl
    have hjl : (jw (l.take i)).length = i := by unfold jw; rw [List.length_map, List.length_take]; omega
    rw [redlinelaw24_writes.l0, if_pos (by omega), if_pos (by omega), Option.bind_some, hrd, if_pos (by simp only [List.length_nil]; omega), if_pos (by rw [hjl]; omega), hw, hj]
    exact writes_l0 hb hn d (i + 1) (by omega)
def Made102 (w w' : World) (A : Option Addr) (n : Nat) (l : List S102) : Prop := ∀ (B : Nat → Prop) W', (∀ k, B k → k < w.heap.size) → Fr B w' W' → Kd.C k102 W' A n l
theorem jw_length (l : List S105) : (jw l).length = l.length := by simp [jw]
theorem writes_calls (A : Option Addr) (c n : Nat) (l : List S105) (w : World) (hn : l.length = n) (hC : Kd.C k105 w A n l) (hc : n ≤ c) (hb : ∀ x ∈ l, x.f1.length < 140737488355328) (hn9 : n < 4398046511104) :
    Calls Try.prog 29 #[.slice A n c] w fun e w' => ∃ v A' c', e = .returned v ∧ v = .slice A' n c' ∧ Kd.S k102 102 w' w.heap.size (fun _ => True) v (jw l) ∧ Made102 w w' A' n (jw l) ∧ Fr (fun _ => False) w w' := by
  subst hn
  refine (redlinelaw24_writes.calls (l.length + 1) A c l (jw l) w hC hc ?_).mono ?_
  · unfold redlinelaw24_writes.f
    have := writes_l0 hb hn9 l.length 0 (by omega)
    simpa [jw] using this
  · rintro e w' ⟨v, rfl, hS, hB⟩
    have hR := Kd.S_R hS
    obtain ⟨A', c', rfl, _, _⟩ := Kd.R_reads hR
    rw [jw_length]
    refine ⟨_, A', c', rfl, rfl, by rw [jw_length] at hS; exact hS, fun B W' hBB f' => ?_, Fr.of_below hB _⟩
    have h1 := Kd.R_mono (Kd.R_bound hR) (fun k h => (⟨h.2.1, h.2.2.1⟩ : w.heap.size ≤ k ∧ k < w'.heap.size))
    have h2 := Kd.R_step (w1 := W') h1 (fun b hb hlt => f'.keep b hlt (fun h => by have := hBB b h; omega))
    obtain ⟨A2, c2, e2, _, hC2⟩ := Kd.R_reads h2
    rw [jw_length] at e2 hC2
    injection e2 with e3 _ _
    subst e3
    exact hC2
/-- One write, in a row of its own. -/
theorem one_write {W : World} {B : Nat → Prop} {rb ab : Nat} {s : Int} {b : List Int} (hr : W.heap[rb]? = some (.cells #[.int .i64 s, .slice (some ⟨ab, 0, none⟩) 64 64] 102 (0, 0))) (ha : IsBytes W ab b) (hb : b.length = 64) (h1 : ¬ B rb) (h2 : ¬ B ab) :
    ∀ W', Fr B W W' → Kd.C k102 W' (some ⟨rb, 0, none⟩) 1 [⟨s, b⟩] := fun W' f => by
  have r' := (f.keep rb (Array.getElem?_eq_some_iff.1 hr).1 h1).trans hr
  have a' := ha.kept (f.keep ab ha.lt h2)
  refine ⟨rfl, by omega, fun _ => ⟨_, rfl, fun j p hj => ?_⟩⟩
  have hj0 : j = 0 := by have := (List.getElem?_eq_some_iff.1 hj).1; simp at this; omega
  subst hj0
  obtain rfl := Option.some.inj hj
  refine ⟨_, ?_, k102_mk W' (⟨s, b⟩ : S102) (A1 := some ⟨ab, 0, none⟩) (c1 := 64) (by rw [hb]; exact Nat.le_refl _) (a'.C (by omega)), fun i u hu => ?_⟩
  · rfl
  · rw [Addr.add_mid, cell_of_row W' rb _ _ 102 (0, 0) r', ← hu]
    simp only [hb]
    show (#[.int .i64 s, .slice (some ⟨ab, 0, none⟩) 64 64] : Array Value)[0 + (0 * 2 + i)]? = _
    rw [show 0 + (0 * 2 + i) = i by omega]
    exact List.getElem?_toArray
end Go.Proofs.Ytppgbfkhiofjiaa.X


namespace Go.Proofs.Ytppgbfkhiofjiaa.X
open Go.RowKit Go.Proofs.YtppgbfkhiofjiaaW.PrintWords Go.Proofs.Ytppgbfkhiofjiaa.Y
set_option linter.unusedVariables false
set_option linter.unusedSimpArgs false

def BytL (l : List Int) : Prop := ∀ x ∈ l, 0 ≤ x ∧ x < 256
theorem BytL.append {a b : List Int} (h : BytL a) (h2 : BytL b) : BytL (a ++ b) := fun x hx => (List.mem_append.1 hx).elim (h x) (h2 x)
theorem BytL.take {a : List Int} (h : BytL a) (n : Nat) : BytL (a.take n) := fun x hx => h x (List.mem_of_mem_take hx)
theorem BytL.drop {a : List Int} (h : BytL a) (n : Nat) : BytL (a.drop n) := fun x hx => h x (List.mem_of_mem_drop hx)
theorem BytL.zeros (n : Nat) : BytL (List.replicate n 0) := fun x hx => by
  rw [(List.mem_replicate.1 hx).2]
  exact ⟨by decide, by decide⟩
theorem BytL.four (n : Int) : BytL (fourL n) := fun x hx => by
  unfold fourL at hx
  simp only [List.mem_cons, List.not_mem_nil, or_false] at hx
  omega
theorem BytL.head (a s : Int) : BytL (headL a s) := by
  unfold headL
  refine BytL.append (BytL.append (BytL.append (fun x hx => ?_) (BytL.four a)) (BytL.four s)) (BytL.zeros 52)
  simp only [List.mem_cons, List.not_mem_nil, or_false] at hx
  omega
/-- The sectors, lasting or pending, hold bytes. -/
structure Byt (D : DS) : Prop where
  f : ∀ k, BytL (D.f k)
  c : ∀ p ∈ D.c, BytL p.2
theorem readC_byt (n : Int) : ∀ (c : List (Int × List Int)) (b : List Int), (∀ p ∈ c, BytL p.2) → BytL b → BytL (readC n c b)
  | [], b, _, hb => hb
  | p :: c, b, hc, hb => by
    rw [readC]
    refine readC_byt n c _ (fun q hq => hc q (by simp [hq])) ?_
    split
    · exact hc p (by simp)
    · exact hb
theorem Byt.rd {D : DS} (h : Byt D) (k : Int) : BytL (rd64 D k) := readC_byt k D.c _ h.c (h.f k)
theorem Byt.sect {D : DS} (h : Byt D) (a : Int) : ∀ n, BytL (sectL D a n)
  | 0 => fun x hx => by simp [sectL] at hx
  | n + 1 => by rw [sectL]; exact (h.sect a n).append (h.rd _)
theorem Byt.of {D D' : DS} (h : Byt D) (e1 : D'.f = D.f) (e2 : D'.c = D.c) : Byt D' := ⟨by rw [e1]; exact h.f, by rw [e2]; exact h.c⟩
theorem Byt.step {D : DS} (h : Byt D) : Byt (stepD D).2 := h.of (stepD_c D).2.2.1 (stepD_c D).1
theorem settleF_byt (kp : Nat → Bool) : ∀ (i : Nat) (c : List (Int × List Int)) (f : Int → List Int), (∀ p ∈ c, BytL p.2) → (∀ k, BytL (f k)) → ∀ k, BytL (settleF kp i c f k)
  | _, [], f, _, hf => hf
  | i, p :: c, f, hc, hf => by
    rw [settleF]
    refine settleF_byt kp (i + 1) c _ (fun q hq => hc q (by simp [hq])) ?_
    split
    · intro k
      unfold upd
      split
      · exact hc p (by simp)
      · exact hf k
    · exact hf
theorem Byt.settle {D : DS} (h : Byt D) (kp : Nat → Bool) : Byt (settleD kp D) := ⟨settleF_byt kp 0 D.c D.f h.c h.f, fun p hp => by simp [settleD] at hp⟩
theorem Byt.write {D : DS} (h : Byt D) (n : Int) {b : List Int} (hb : BytL b) : Byt (writeD D n b).2 := by
  unfold writeD
  split
  · split
    · split
      · refine ⟨h.step.f, fun p hp => ?_⟩
        rcases List.mem_append.1 hp with hp | hp
        · exact h.step.c p hp
        · rw [List.mem_singleton.1 hp]
          exact hb
      · exact h.step
    · exact h
  · exact h
theorem Byt.flush {D : DS} (h : Byt D) : Byt (flushD D).2 := by
  unfold flushD
  split
  · exact h
  · split
    · exact h.step.settle _
    · exact h.step
theorem Byt.mend {D : DS} (h : Byt D) (l : List Bool) : Byt (mendD l D) := (h.settle (keepB l)).of rfl rfl
theorem Byt.seq {r : Int × DS} {f : DS → Int × DS} (h : Byt r.2) (hk : Byt r.2 → Byt (f r.2).2) : Byt (seqD r f).2 := by
  unfold seqD
  split
  · exact hk h
  · exact h
theorem Byt.lays {D : DS} (h : Byt D) {b : List Int} (hb : BytL b) : Byt (laysD b D).2 := Byt.seq (h.write 0 hb) (fun h1 => Byt.seq h1.flush (fun h2 => h2))
theorem Byt.writes : ∀ (l : List (Int × List Int)) {D : DS} (_ : Byt D) (_ : ∀ p ∈ l, BytL p.2), Byt (writesD l D).2
  | [], D, h, _ => h
  | p :: l, D, h, hl => by
    rw [writesD]
    exact Byt.seq (h.write p.1 (hl p (by simp))) (fun h1 => Byt.writes l h1 (fun q hq => hl q (by simp [hq])))
theorem chunk_byt (a : Int) : ∀ (n : Nat) (L : List Int), BytL L → ∀ p ∈ chunkD a n L, BytL p.2
  | 0, _, _, p, hp => by simp [chunkD] at hp
  | n + 1, L, hL, p, hp => by
    rw [chunkD] at hp
    rcases List.mem_cons.1 hp with rfl | hp
    · exact hL.take 64
    · exact chunk_byt (a + 1) n _ (hL.drop 64) p hp
theorem Byt.finish {D : DS} (h : Byt D) {l : List S102} (hl : ∀ x ∈ l, BytL x.f1) : Byt (finishD l D).2 := by
  refine Byt.seq (Byt.writes (wr69 l) h (fun p hp => ?_)) (fun h1 => Byt.seq h1.flush (fun h2 => Byt.seq (h2.lays (BytL.head 0 0)) (fun h3 => h3)))
  obtain ⟨x, hx, rfl⟩ := List.mem_map.1 hp
  exact hl x hx
theorem places_byt (l : List S102) : BytL (placesL l) := fun x hx => by
  obtain ⟨y, _, hy⟩ := List.mem_flatMap.1 hx
  exact BytL.four _ x hy
theorem data_byt {l : List S102} (hl : ∀ x ∈ l, BytL x.f1) : BytL (dataL l) := fun x hx => by
  obtain ⟨y, hy, hx⟩ := List.mem_flatMap.1 hx
  exact hl y hy x hx
theorem Byt.commit {D : DS} (h : Byt D) {l : List S102} (hl : ∀ x ∈ l, BytL x.f1) : Byt (commitD l D).2 :=
  Byt.seq (Byt.writes _ h (chunk_byt _ _ _ (data_byt hl))) (fun h1 => Byt.seq (Byt.writes _ h1 (chunk_byt _ _ _ ((places_byt l).append (BytL.zeros _))))
    (fun h2 => Byt.seq h2.flush (fun h3 => Byt.seq (h3.lays (BytL.head _ _)) (fun h4 => Byt.seq (h4.finish hl) (fun h5 => h5)))))
theorem Byt.logC {D : DS} (h : Byt D) {l : List S102} (hl : ∀ x ∈ l, BytL x.f1) (dn : Bool) : Byt (logC l D dn).2.1 := by
  unfold X.logC
  split
  · exact h
  · split
    · exact h
    · split
      · exact h
      · split
        · exact h
        · exact h.commit hl
theorem leftL_byt {P Dt : List Int} (hD : BytL Dt) : ∀ n, ∀ x ∈ leftL P Dt n, BytL x.f1
  | 0, x, hx => by simp [leftL] at hx
  | n + 1, x, hx => by
    rw [leftL] at hx
    rcases List.mem_append.1 hx with hx | hx
    · exact leftL_byt hD n x hx
    · rw [List.mem_singleton.1 hx]
      exact (hD.drop _).take _
theorem Byt.opened {D : DS} (h : Byt D) : Byt (openD D).2 := by
  unfold openD
  split
  · exact h
  · split
    · exact h
    · split
      · exact h
      · split
        · exact h
        · split
          · exact h
          · split
            · exact h
            · split
              · exact h
              · exact h.finish (leftL_byt (h.sect _ _) _)
theorem byt_new (n : Int) : Byt (newD n) := ⟨fun k => BytL.zeros 64, fun p hp => by cases hp⟩
theorem Byt.format {D : DS} (h : Byt D) : Byt (formatD D).2 := by
  unfold formatD
  split
  · exact h
  · exact h.lays (BytL.head 0 0)

/-! ### How the reference reads -/
theorem list4 {l : List Int} (h : 4 ≤ l.length) : ∃ a b c d r, l = a :: b :: c :: d :: r := by
  match l, h with
  | a :: b :: c :: d :: r, _ => exact ⟨a, b, c, d, r, rfl⟩
/-- The reference's number is the program's. -/
theorem rnum_f {l : List Int} (h : 4 ≤ l.length) (hb : BytL l) : redlineref24_number.f (l.take 4) = some (numL l) := by
  obtain ⟨a, b, c, d, r, rfl⟩ := list4 h
  have ha := hb a (by simp)
  have hb1 := hb b (by simp)
  have hc := hb c (by simp)
  have hd := hb d (by simp)
  rw [numL_bytes ha hb1 hc hd]
  have e : redlineref24_number.f ([a, b, c, d]) = some ((((a % 4294967296 + b % 4294967296 * 256 % 4294967296) % 4294967296 + c % 4294967296 * 65536 % 4294967296) % 4294967296 + d % 4294967296 * 16777216 % 4294967296) % 4294967296) := rfl
  have e2 : (a :: b :: c :: d :: r).take 4 = [a, b, c, d] := rfl
  rw [e2, e]
  congr 1
  omega
theorem four_num {a b c d : Int} (ha : 0 ≤ a ∧ a < 256) (hb : 0 ≤ b ∧ b < 256) (hc : 0 ≤ c ∧ c < 256) (hd : 0 ≤ d ∧ d < 256) (r : List Int) : fourL (numL (a :: b :: c :: d :: r)) = [a, b, c, d] := by
  rw [numL_bytes ha hb hc hd]
  unfold fourL
  have e1 : (a + b * 256 + c * 65536 + d * 16777216) % 256 = a := by omega
  have e2 : (a + b * 256 + c * 65536 + d * 16777216) / 256 % 256 = b := by omega
  have e3 : (a + b * 256 + c * 65536 + d * 16777216) / 65536 % 256 = c := by omega
  have e4 : (a + b * 256 + c * 65536 + d * 16777216) / 16777216 % 256 = d := by omega
  rw [e1, e2, e3, e4]
theorem byt_str {a b : List Int} (ha : BytL a) (hb : BytL b) (h : (strOfNums a).toList = (strOfNums b).toList) : a = b := by
  have key : ∀ (l : List Int), BytL l → (strOfNums l).toList = l.map fun n => UInt8.ofNat n.toNat := fun l _ => by
    unfold strOfNums
    rw [ByteArray.toList_eq]
  rw [key a ha, key b hb] at h
  clear key
  induction a generalizing b with
  | nil => cases b with
    | nil => rfl
    | cons y b => cases h
  | cons x a ih => cases b with
    | nil => cases h
    | cons y b =>
      rw [List.map_cons, List.map_cons] at h
      injection h with h1 h2
      have hx := ha x (by simp)
      have hy := hb y (by simp)
      have h3 := congrArg UInt8.toNat h1
      rw [UInt8.toNat_ofNat', UInt8.toNat_ofNat'] at h3
      have : x = y := by omega
      rw [this, ih (fun z hz => ha z (by simp [hz])) (fun z hz => hb z (by simp [hz])) h2]
/-- The four letters and the zeros: all that makes a sector a head. -/
theorem head_same {h : List Int} (hl : h.length = 64) (hb : BytL h) : (sameB h (headL (numL (h.drop 4)) (numL (h.drop 8))) = true) ↔ (h.take 4 = [82, 76, 74, 49] ∧ h.drop 12 = List.replicate 52 0) := by
  have e0 : sameB h (headL (numL (h.drop 4)) (numL (h.drop 8))) = true ↔ h = headL (numL (h.drop 4)) (numL (h.drop 8)) := by
    unfold sameB
    rw [beq_iff_eq]
    constructor
    · exact byt_str hb (BytL.head _ _)
    · intro e
      exact congrArg (fun l => (strOfNums l).toList) e
  rw [e0]
  obtain ⟨a0, a1, a2, a3, r1, rfl⟩ := list4 (l := h) (by omega)
  obtain ⟨b0, b1, b2, b3, r2, rfl⟩ := list4 (l := r1) (by simp only [List.length_cons] at hl; omega)
  obtain ⟨c0, c1, c2, c3, r3, rfl⟩ := list4 (l := r2) (by simp only [List.length_cons] at hl; omega)
  have hB : ∀ x ∈ [b0, b1, b2, b3, c0, c1, c2, c3], 0 ≤ x ∧ x < 256 := fun x hx => hb x (by
    simp only [List.mem_cons, List.not_mem_nil, or_false] at hx
    rcases hx with rfl | rfl | rfl | rfl | rfl | rfl | rfl | rfl <;> simp)
  have d4 : (a0 :: a1 :: a2 :: a3 :: b0 :: b1 :: b2 :: b3 :: c0 :: c1 :: c2 :: c3 :: r3).drop 4 = b0 :: b1 :: b2 :: b3 :: (c0 :: c1 :: c2 :: c3 :: r3) := rfl
  have d8 : (a0 :: a1 :: a2 :: a3 :: b0 :: b1 :: b2 :: b3 :: c0 :: c1 :: c2 :: c3 :: r3).drop 8 = c0 :: c1 :: c2 :: c3 :: r3 := rfl
  have d12 : (a0 :: a1 :: a2 :: a3 :: b0 :: b1 :: b2 :: b3 :: c0 :: c1 :: c2 :: c3 :: r3).drop 12 = r3 := rfl
  have t4 : (a0 :: a1 :: a2 :: a3 :: b0 :: b1 :: b2 :: b3 :: c0 :: c1 :: c2 :: c3 :: r3).take 4 = [a0, a1, a2, a3] := rfl
  rw [d4, d8, d12, t4]
  unfold headL
  rw [four_num (hB b0 (by simp)) (hB b1 (by simp)) (hB b2 (by simp)) (hB b3 (by simp)), four_num (hB c0 (by simp)) (hB c1 (by simp)) (hB c2 (by simp)) (hB c3 (by simp))]
  simp only [List.cons_append, List.nil_append, List.cons.injEq, true_and, and_true]
  constructor
  · rintro ⟨h1, h2, h3, h4, h5⟩
    exact ⟨⟨h1, h2, h3, h4⟩, h5⟩
  · rintro ⟨⟨h1, h2, h3, h4⟩, h5⟩
    exact ⟨h1, h2, h3, h4, h5⟩
end Go.Proofs.Ytppgbfkhiofjiaa.X
