/-
  The journal: the contract of left, and of Open.
-/
import Derived.Test.YtppgbfkhiofjiaaEJ8
import Derived.Test.YtppgbfkhiofjiaaEJ7
import Derived.WalkSpells
namespace Go.Proofs.Ytppgbfkhiofjiaa.X
open Go.RowKit Go.Proofs.YtppgbfkhiofjiaaW.PrintWords Go.Proofs.YtppgbfkhiofjiaaW.PrintLast Go.Proofs.YtppgbfkhiofjiaaW.PrintMore Go.Proofs.Ytppgbfkhiofjiaa.Y
set_option linter.unusedVariables false
set_option linter.unusedSimpArgs false

def numL (l : List Int) : Int := (journal_number.f l).getD 0
theorem numL_f {l : List Int} (h : 4 ≤ l.length) : journal_number.f l = some (numL l) := by
  unfold numL journal_number.f
  rw [if_pos (by omega), if_pos (by omega), if_pos (by omega), if_pos (by omega)]
  rfl
theorem numL_range (l : List Int) : 0 ≤ numL l ∧ numL l < 4294967296 := by
  have h : ∀ a b, 0 ≤ bits .or .u32 a b ∧ bits .or .u32 a b < 4294967296 := fun a b => by
    obtain ⟨n, h⟩ : ∃ n, bits .or .u32 a b = IntKind.u32.wrap n := ⟨_, rfl⟩
    rw [h, IntKind.wrap_u32]
    omega
  unfold numL journal_number.f
  split
  · split
    · split
      · split
        · exact h _ _
        · exact ⟨by decide, by decide⟩
      · exact ⟨by decide, by decide⟩
    · exact ⟨by decide, by decide⟩
  · exact ⟨by decide, by decide⟩
def placeN (P : List Int) (i : Nat) : Int := numL (P.drop (4 * i))
def leftL (P Dt : List Int) : Nat → List S102
  | 0 => []
  | k + 1 => leftL P Dt k ++ [⟨placeN P k, (Dt.drop (64 * k)).take 64⟩]
def okPl (m : Int) (P : List Int) : Nat → Bool
  | 0 => true
  | k + 1 => okPl m P k && decide (placeN P k < m)
def encV (g c : Nat) (P : List Int) : Nat → List Value
  | 0 => []
  | k + 1 => encV g c P k ++ [.int .i64 (placeN P k), .slice (some ⟨g, 64 * k, none⟩) 64 (c - 64 * k)]
theorem encV_length (g c : Nat) (P : List Int) : ∀ k, (encV g c P k).length = k * 2
  | 0 => rfl
  | k + 1 => by rw [encV, List.length_append, encV_length g c P k]; simp; omega
theorem leftL_length (P Dt : List Int) : ∀ k, (leftL P Dt k).length = k
  | 0 => rfl
  | k + 1 => by rw [leftL, List.length_append, leftL_length P Dt k]; rfl
theorem encV_at (g c : Nat) (P : List Int) : ∀ (n j : Nat), j < n → (encV g c P n)[j * 2]? = some (.int .i64 (placeN P j)) ∧ (encV g c P n)[j * 2 + 1]? = some (.slice (some ⟨g, 64 * j, none⟩) 64 (c - 64 * j))
  | 0, j, h => by omega
  | n + 1, j, h => by
    rw [encV]
    by_cases hj : j < n
    · obtain ⟨h1, h2⟩ := encV_at g c P n j hj
      rw [List.getElem?_append_left (by rw [encV_length]; omega), List.getElem?_append_left (by rw [encV_length]; omega)]
      exact ⟨h1, h2⟩
    · have : j = n := by omega
      subst this
      rw [List.getElem?_append_right (by rw [encV_length]; omega), List.getElem?_append_right (by rw [encV_length]; omega), encV_length]
      refine ⟨?_, ?_⟩
      · rw [show j * 2 - j * 2 = 0 by omega]; rfl
      · rw [show j * 2 + 1 - j * 2 = 1 by omega]; rfl
theorem leftL_at (P Dt : List Int) : ∀ (n j : Nat), j < n → (leftL P Dt n)[j]? = some ⟨placeN P j, (Dt.drop (64 * j)).take 64⟩
  | 0, j, h => by omega
  | n + 1, j, h => by
    rw [leftL]
    by_cases hj : j < n
    · rw [List.getElem?_append_left (by rw [leftL_length]; omega)]
      exact leftL_at P Dt n j hj
    · have : j = n := by omega
      subst this
      rw [List.getElem?_append_right (by rw [leftL_length]; omega), leftL_length, Nat.sub_self]
      rfl
theorem left_read {W : World} {base gR capR n g c : Nat} {P Dt : List Int} (hrow : W.ownsRow base 102 2 (.slice (some ⟨gR, 0, none⟩) n capR) n (encV g c P n)) (hdata : Kd.C (Kd.int .u8) W (some ⟨g, 0, none⟩) (n * 64) Dt) (hl : Dt.length = n * 64) (hc : n * 64 ≤ c) (hn : n ≤ 1000) :
    Kd.C k102 W (some ⟨gR, 0, none⟩) n (leftL P Dt n) := by
  refine ⟨leftL_length _ _ _, by omega, fun h0 => ⟨_, rfl, fun j p hj => ?_⟩⟩
  have hj' : j < n := by have := (List.getElem?_eq_some_iff.1 hj).1; rwa [leftL_length] at this
  rw [leftL_at P Dt n j hj'] at hj
  obtain rfl := Option.some.inj hj
  obtain ⟨e1, e2⟩ := encV_at g c P n j hj'
  have hlen : ((Dt.drop (64 * j)).take 64).length = 64 := by rw [List.length_take, List.length_drop, hl]; omega
  have hC : Kd.C (Kd.int .u8) W (some ⟨g, 64 * j, none⟩) ((Dt.drop (64 * j)).take 64).length ((Dt.drop (64 * j)).take 64) := by
    have h1 := hdata
    rw [← hl] at h1
    have h2 := Kd.C_drop (c := Dt.length + 1) h1 (m := 64 * j) (by omega) (by omega)
    rw [if_neg (by omega)] at h2
    have h3 := Kd.C_take h2 (m := 64) (by rw [List.length_drop]; omega)
    have e : (some (⟨g, 0, none⟩ : Addr)).map (·.add (64 * j * (Kd.int IntKind.u8).sz)) = some ⟨g, 64 * j, none⟩ := by
      have : (Kd.int IntKind.u8).sz = 1 := rfl
      rw [this, Option.map_some, Addr.add_mid, Nat.zero_add, Nat.mul_one]
    rw [e] at h3
    exact h3
  refine ⟨_, ?_, k102_mk W (⟨placeN P j, (Dt.drop (64 * j)).take 64⟩ : S102) (A1 := some ⟨g, 64 * j, none⟩) (c1 := c - 64 * j) (by rw [hlen]; omega) hC, fun i u hu => ?_⟩
  · rfl
  · rcases hrow.2 with ⟨h, _⟩ | ⟨gb, cap, cur, he, _, hb, _, _, _, hx⟩
    · cases h
    · injection he with he _ _
      injection he with he
      injection he with he
      subst he
      rw [Addr.add_mid, Nat.zero_add, cell_of_row W gR _ _ 102 (0, 0) hb]
      have hcell : ∀ k v, (encV g c P n)[k]? = some v → cur[k]? = some v := fun k v hv => by
        rw [← hx, List.getElem?_take] at hv
        split at hv
        · rw [← hv, ← Array.getElem?_toList]
        · cases hv
      match i, hu with
      | 0, hu =>
        obtain rfl := Option.some.inj hu
        exact hcell _ _ e1
      | 1, hu =>
        obtain rfl := Option.some.inj hu
        rw [hlen]
        exact hcell _ _ e2

def placesOf (D : DS) (n : Nat) : List Int := (sectL D 1 4).take (4 * n)
/-- What is wrong with the transaction that a head says. -/
def leftE (D : DS) (n : Nat) (s : Int) : Int := if sumV (placesOf D n ++ sectL D 5 n) ≠ s then 240 else if okPl (D.n - 69) (placesOf D n) n = true then 0 else 2
def leftW (D : DS) (n : Nat) : List S102 := leftL (placesOf D n) (sectL D 5 n) n

theorem wp_app_row {P : Program} {w : World} {ops : Array Oper} {rest : List Oper} {o : Oper} {a : Act} {Q : Exit → Act → World → Prop} (hgd : o.guard = none) (s x : Operand) (t : TypeId)
    (ho : o.op = .call { callee := .builtin .append, args := #[s, x], argTypes := #[t, t] })
    (base : Nat) (e : TypeId) (z : Value) (size bytes : Nat) (ht : P.underlying t = some (.slice e)) (hinfo : (P.info? e).map (fun i => (i.zero, i.size, i.bytes)) = some (some z, size, bytes)) (hzs : z.cells.size = size) (hsz : 0 < size)
    (v : Value) (n : Nat) (xs : List Value) (hs : a.eval s = v) (hown : w.ownsRow base e size v n xs)
    (ad : Addr) (m c : Nat) (news : List Value) (hx : a.eval x = .slice (some ad) m c) (hl : news.length = m * size) (hnews : ∀ j u, news[j]? = some u → w.cell? (ad.add j) = some u) (h1 : ∀ u ∈ news, u.oneCell' = true)
    (h63 : n + m ≤ maxLen) (hbytes : (n + m) * bytes ≤ 140737488355328) (hbase : base ≤ w.heap.size)
    (h : ∀ v' w', w'.ownsRow base e size v' (n + m) (xs ++ news) → w.grownBy w' v.ownBlock → (v'.ownBlock = v.ownBlock ∨ v'.ownBlock = some w.heap.size) → wpList P ops Q rest (a.put o.dst v') w') : wpList P ops Q (o :: rest) a w := by
  obtain ⟨i0, hi, hzz⟩ := Option.map_eq_some_iff.1 hinfo
  simp only [Prod.mk.injEq] at hzz
  obtain ⟨hz0, hz1, hz2⟩ := hzz
  refine wpList_plain hgd fun K hK => ?_
  obtain ⟨v', w', hr, h2, h3, _, h4⟩ := run_append_own_at (P := P) w base t o.type e i0 z size bytes ht hi hz0 hz1 hz2 hzs hsz v n xs hown ad m c news hl hnews h1 h63 hbytes hbase
  unfold Oper.wp execOp
  simp only [ho, resolve, invoke, builtin, Sem.run_bind, Sem.run_pure, Result.andThen_ok, List.map_toArray, List.map_cons, List.map_nil, hs, hx, hr]
  exact hK _ _ (h v' w' h2 h3 h4)

theorem slice22 (A : Addr) (m cp a b : Nat) (h1 : a ≤ b) (h2 : b ≤ cp) (h3 : a < cp) (x y : Int) (hx : x = (a : Int)) (hy : y = (b : Int)) (W : World) :
    (Instr.slice 22 (.slice (some A) m cp) (some (.int .i64 x)) (some (.int .i64 y)) none).run Try.prog W = .ok (.slice (some (A.add a)) (b - a) (cp - a)) W := by
  subst hx hy
  have hel : Try.prog.elem 22 = 5 := by simp [Program.elem, Try.underlying22]
  have hu : Try.prog.underlying 22 = some (.slice (Try.prog.elem 22)) := by rw [hel]; exact Try.underlying22
  obtain ⟨i0, hi0, hzz⟩ := Option.map_eq_some_iff.1 info5
  simp only [Prod.mk.injEq] at hzz
  rw [run_slice_lh W 22 (some A) m cp hu .i64 .i64 _ _ (by omega) (by omega) (by omega), hel]
  have e3 : ¬ cp = a := by omega
  simp [sizeOf, typeInfo, hi0, hzz.2.1, sliced, Result.andThen, e3]
theorem slice22h (A : Addr) (m cp b : Nat) (h2 : b ≤ cp) (h0 : 0 < cp) (y : Int) (hy : y = (b : Int)) (W : World) :
    (Instr.slice 22 (.slice (some A) m cp) none (some (.int .i64 y)) none).run Try.prog W = .ok (.slice (some A) b cp) W := by
  subst hy
  have hel : Try.prog.elem 22 = 5 := by simp [Program.elem, Try.underlying22]
  have hu : Try.prog.underlying 22 = some (.slice (Try.prog.elem 22)) := by rw [hel]; exact Try.underlying22
  obtain ⟨i0, hi0, hzz⟩ := Option.map_eq_some_iff.1 info5
  simp only [Prod.mk.injEq] at hzz
  rw [run_slice_h W 22 (some A) m cp hu .i64 _ (by omega) (by omega), hel]
  have e3 : ¬ cp = 0 := by omega
  have e4 : A.add 0 = A := by unfold Addr.add; simp
  simp [sizeOf, typeInfo, hi0, hzz.2.1, sliced, Result.andThen, e3, e4]
theorem slice22l (A : Addr) (m cp a : Nat) (h1 : a ≤ m) (h3 : a < cp) (x : Int) (hx : x = (a : Int)) (W : World) :
    (Instr.slice 22 (.slice (some A) m cp) (some (.int .i64 x)) none none).run Try.prog W = .ok (.slice (some (A.add a)) (m - a) (cp - a)) W := by
  subst hx
  have hel : Try.prog.elem 22 = 5 := by simp [Program.elem, Try.underlying22]
  have hu : Try.prog.underlying 22 = some (.slice (Try.prog.elem 22)) := by rw [hel]; exact Try.underlying22
  obtain ⟨i0, hi0, hzz⟩ := Option.map_eq_some_iff.1 info5
  simp only [Prod.mk.injEq] at hzz
  rw [run_slice_l W 22 (some A) m cp hu .i64 _ (by omega) (by omega), hel]
  have e3 : ¬ cp = a := by omega
  simp [sizeOf, typeInfo, hi0, hzz.2.1, sliced, Result.andThen, e3]

theorem okPl_false {m : Int} {P : List Int} : ∀ {n k : Nat}, k < n → ¬ placeN P k < m → okPl m P n = false
  | n + 1, k, h, hk => by
    rw [okPl]
    by_cases e : k = n
    · subst e
      simp [hk]
    · rw [okPl_false (show k < n by omega) hk]
      rfl
theorem own_reads64 {w : World} {base n g c : Nat} {l : List Int} (h : w.ownsRow base 5 1 (.slice (some ⟨g, 0, none⟩) n c) n (nums .u8 l)) (hn : l.length = n) : n ≤ c ∧ Kd.C (Kd.int .u8) w (some ⟨g, 0, none⟩) n l := by
  rw [← hn] at h
  obtain ⟨A', c', e', hcap, hC⟩ := Kd.R_reads (Kd.R_of_own (enc := Value.int .u8) (h1 := fun _ => rfl) (ok := fun _ => True) h (fun _ _ => trivial))
  injection e' with e1 _ e2
  subst e1 e2
  rw [hn] at hcap hC
  exact ⟨hcap, hC⟩
theorem C_dropAt {w : World} {g n a : Nat} {l : List Int} (h : Kd.C (Kd.int .u8) w (some ⟨g, 0, none⟩) n l) (hn : l.length = n) (ha : a ≤ n) : Kd.C (Kd.int .u8) w (some ((⟨g, 0, none⟩ : Addr).add a)) (n - a) (l.drop a) := by
  have h1 := h
  rw [← hn] at h1
  have h2 := Kd.C_drop (c := l.length + 1) h1 (m := a) (by omega) (by omega)
  rw [if_neg (by omega), List.length_drop, hn] at h2
  have : (Kd.int IntKind.u8).sz = 1 := rfl
  simpa [this] using h2
theorem C_takeAt {w : World} {A : Option Addr} {n a : Nat} {l : List Int} (h : Kd.C (Kd.int .u8) w A n l) (hn : l.length = n) (ha : a ≤ n) : Kd.C (Kd.int .u8) w A a (l.take a) := by
  have h1 := h
  rw [← hn] at h1
  have h2 := Kd.C_take h1 (m := a) (by omega)
  rwa [List.length_take, hn, Nat.min_eq_left ha] at h2
/-- What left's end says. -/
def LeftEnd (D : DS) (n : Nat) (s : Int) (w : World) (e : Ending) (w' : World) : Prop :=
  ∃ A m cp, e = .returned (.tuple #[.slice A m cp, .int .i64 (leftE D n s)]) ∧ Fr (fun _ => False) w w' ∧ (leftE D n s = 0 → m = n ∧ ∀ (B : Nat → Prop) W', (∀ k, B k → k < w.heap.size) → Fr B w' W' → Kd.C k102 W' A n (leftW D n))

set_option maxHeartbeats 8000000 in
set_option maxRecDepth 100000 in
theorem left_calls (g : Nat) (B : Nat → Prop) (D : DS) (n : Nat) (s : Int) (w : World) (h : IsDisk w B g D) (hd : D.down = false) (hD : 69 < D.n ∧ D.n ≤ 4096) (hn0 : 1 ≤ n) (hn : n ≤ 64) (hc : D.c.length ≤ 1000000) :
    Calls Try.prog 63 #[.pointer (some ⟨g, 0, none⟩), .int .i64 (n : Int), .int .u32 s] w (LeftEnd D n s w) := by
  obtain ⟨d1, d2⟩ := hD
  have H := Aside0.mk h
  have HD := Aside0.mk hd
  have HC := Aside0.mk hc
  have R1 := Aside0.mk (sectors_row g B D 1 4 w h hd (by omega) (by omega) (by omega) hc)
  have L1 := Aside0.mk (h.sectL_length 1 4)
  have L2 := Aside0.mk (h.sectL_length 5 n)
  clear h hd hc
  go_enter Try.func63, Try.ntmps63
  go_wp2_with fail
  refine R1.out.mono ?_
  rintro e w1 ⟨v8, rfl, ho8, hb1⟩
  rw [L1.out] at ho8
  obtain ⟨g8, c8, rfl, hz8⟩ := ho8.form (by omega)
  have HO8 := Aside0.mk ho8
  have HB1 := Aside0.mk hb1
  obtain ⟨hcap8, hC8⟩ := own_reads64 ho8 L1.out
  have HC8 : Aside0 (∀ W, Below w1.heap.size w1 W → Kd.C (Kd.int .u8) W (some ⟨g8, 0, none⟩) (4 * n) (placesOf D n)) := ⟨fun W hb => C_takeAt (Kd.C_below hC8 hb) L1.out (by omega)⟩
  have LP : Aside0 ((placesOf D n).length = 4 * n) := ⟨by unfold placesOf; rw [List.length_take, L1.out]; omega⟩
  have R2 := Aside0.mk (sectors_row g B D 5 n w1 (H.out.fr (Fr.of_below hb1 (fun _ => False)) (fun _ _ h => h)) HD.out (by omega) (by omega) (by omega) HC.out)
  have sl1 := slice22h ⟨g8, 0, none⟩ 256 c8 (4 * n) (by omega) (by omega) (4 * (n : Int)) (by omega)
  clear ho8 hb1 R1 hC8
  go_wp2_with fail
  refine R2.out.mono ?_
  rintro e w2 ⟨v9, rfl, ho9, hb2⟩
  rw [L2.out] at ho9
  obtain ⟨g9, c9, rfl, hz9⟩ := ho9.form (by omega)
  obtain ⟨hcap9, hC9⟩ := own_reads64 ho9 L2.out
  have HC9 : Aside0 (∀ W, Below w2.heap.size w2 W → Kd.C (Kd.int .u8) W (some ⟨g9, 0, none⟩) (n * 64) (sectL D 5 n)) := ⟨fun W hb => Kd.C_below hC9 hb⟩
  have HB2 : Aside0 (Below w.heap.size w w2) := ⟨HB1.out.trans (hb2.mono HB1.out.size)⟩
  have HB12 := Aside0.mk hb2
  have BC := Aside0.mk (bclone_calls ⟨g8, 0, none⟩ c8 (4 * n) (placesOf D n) w2 LP.out (by omega) (HC8.out w2 hb2))
  have hlt9 : g9 < w2.heap.size := hz9.2
  have hge9 : Aside0 (w.heap.size ≤ g9) := ⟨Nat.le_trans HB1.out.size hz9.1⟩
  clear ho9 hb2 hC9 R2 sl1 hz8 hz9
  go_wp2_with fail
  refine BC.out.mono ?_
  rintro e w3 ⟨v3, rfl, ho3, hb3⟩
  have HO3 := Aside0.mk ho3
  have HB3 := Aside0.mk hb3
  have HR9 : Aside0 (ReadsInt w3 .u8 (some ⟨g9, 0, none⟩) (n * 64) (sectL D 5 n)) := ⟨Kd.reads_of_C (enc := Value.int .u8) (d := (0 : Int)) (h1 := fun _ => rfl) (HC9.out w3 hb3)⟩
  clear ho3 hb3 BC
  go_wp2_with ((with_reducible refine gate_builtin (b := .append) (xs := #[.tmp 22, .tmp 23]) rfl ?_); at_builtin; refine print_append_row w2.heap.size rfl (.tmp 22) (.tmp 23) 22 5 .u8 1 rfl Try.underlying22 info5 (by omega) v3 (placesOf D n) (sectL D 5 n) (some ⟨g9, 0, none⟩) (n * 64) c9 rfl rfl HO3.out HR9.out HB3.out HB3.out.size (by have := LP.out; omega) ?_; intro v4 w4 h1 h2 h3 h4)
  obtain ⟨A4, c4, rfl, hcap4, hC4⟩ := Kd.R_reads (Kd.R_of_own (enc := Value.int .u8) (h1 := fun _ => rfl) (ok := fun _ => True) h1 (fun _ _ => trivial))
  have SC := Aside0.mk (journal_Sum.calls A4 c4 (placesOf D n ++ sectL D 5 n) (sumV (placesOf D n ++ sectL D 5 n)) w4 hC4 hcap4 rfl)
  have HB24 := Aside0.mk h2
  clear h1 h2 h3 h4 hcap4 hC4 HO3 HR9 HB3
  refine SC.out.mono ?_
  rintro e w5 ⟨rfl, ⟨nq, rfl⟩⟩
  clear SC
  have HB25 : Aside0 (Below w2.heap.size w2 (w4.drewN nq)) := ⟨HB24.out.trans ((Drawn0.below (⟨⟨nq, rfl⟩⟩ : Drawn0 w4 (w4.drewN nq))).mono HB24.out.size)⟩
  clear HB24
  generalize w4.drewN nq = W5 at *
  obtain ⟨s0, hs0⟩ : ∃ s0, sumV (placesOf D n ++ sectL D 5 n) = s0 := ⟨_, rfl⟩
  rw [hs0]
  have HS0 := Aside0.mk hs0
  clear hs0
  by_cases hs : s0 = s
  · subst hs
    have HF0 : Aside0 (W5.ownsRow W5.heap.size 102 2 (.slice none 0 0) 0 (encV g9 c9 (placesOf D n) 0)) := ⟨⟨rfl, .inl ⟨rfl, rfl⟩⟩⟩
    have HBW := Aside0.mk (Below.refl W5.heap.size W5)
    have HOK : Aside0 (okPl (D.n - 69) (placesOf D n) 0 = true) := ⟨rfl⟩
    go_wp2_with fail
    go_loopg [10, 29] n (fun kq v10 v29 W => ∃ (k : Nat), v29 = .int .i64 (k : Int) ∧ Aside0 (k + kq = n) ∧ Aside0 (okPl (D.n - 69) (placesOf D n) k = true) ∧ Aside0 (W.ownsRow W5.heap.size 102 2 v10 k (encV g9 c9 (placesOf D n) k)) ∧ Aside0 (Below W5.heap.size W5 W))
    case atStart => exact ⟨0, rfl, ⟨by omega⟩, HOK, HF0, HBW⟩
    case round =>
      clear HF0 HBW HOK
      obtain ⟨k, rfl, HI, HOK, HF, HBW⟩ := hrel
      have hk0 : (0 : Int) ≤ (k : Int) := by omega
      cases gk with
      | zero =>
        have hk : k = n := by have := HI.out; omega
        subst hk
        go_wp2_with fail
        go_ret2
        obtain ⟨gR, cR, rfl, hzR⟩ := HF.out.form (by omega)
        have hE : leftE D k s0 = 0 := by
          unfold leftE
          rw [HS0.out, if_neg (by simp), if_pos HOK.out]
        refine ⟨some ⟨gR, 0, none⟩, k, cR, by rw [hE]; rfl, Fr.of_below (HB2.out.trans ((HB25.out.trans (HBW.out.mono HB25.out.size)).mono HB2.out.size)) _, fun _ => ⟨rfl, fun B' W' hB' f' => ?_⟩⟩
        have hsz : w.heap.size ≤ W5.heap.size := Nat.le_trans HB2.out.size HB25.out.size
        have d1 := HC9.out wr (HB25.out.trans (HBW.out.mono HB25.out.size))
        have d2 := C_fr (0 : Int) d1 f' (fun ad e _ hb => by injection e with e; subst e; have h1 : g9 < w.heap.size := hB' _ hb; have := hge9.out; omega)
        have r2 := ownsRow_kept (w' := W') HF.out (fun b e => f'.keep b (own_lt HF.out b e) (fun hb => by have := hB' _ hb; have := own_base HF.out b e; omega))
        exact left_read r2 d2 L2.out hcap9 (by omega)
      | succ k1 =>
        have hk1 : (k : Int) < (n : Int) := by have := HI.out; omega
        have HI3 : Aside0 (k + 1 + k1 = n) := ⟨by have := HI.out; omega⟩
        have hbw : Below w2.heap.size w2 wr := HB25.out.trans (HBW.out.mono HB25.out.size)
        have NC : Aside0 (Calls Try.prog 60 #[.slice (some ⟨g8, 4 * k, none⟩) (4 * n - 4 * k) (c8 - 4 * k)] wr fun e w' => e = .returned (.int .u32 (placeN (placesOf D n) k)) ∧ Drawn0 wr w') := ⟨by
          have hl : ((placesOf D n).drop (4 * k)).length = 4 * n - 4 * k := by rw [List.length_drop, LP.out]
          have hr := C_dropAt (HC8.out wr (HB12.out.trans (hbw.mono HB12.out.size))) LP.out (a := 4 * k) (by omega)
          have h0 := journal_number.calls (some ((⟨g8, 0, none⟩ : Addr).add (4 * k))) (c8 - 4 * k) ((placesOf D n).drop (4 * k)) (placeN (placesOf D n) k) wr (by rw [hl]; exact hr) (by rw [hl]; omega) (numL_f (by rw [hl]; omega))
          rw [hl, Addr.add_mid, Nat.zero_add] at h0
          exact h0⟩
        have SC : Aside0 (∀ nq, Calls Try.prog 53 #[.pointer (some ⟨g, 0, none⟩)] (wr.drewN nq) fun e w' => e = .returned (.int .i64 D.n) ∧ w' = wr.drewN nq) := ⟨fun nq => sect_calls g B D (wr.drewN nq) ((H.out.fr (Fr.of_below (HB2.out.trans (hbw.mono HB2.out.size)) (fun _ => False)) (fun _ _ h => h)).drewN nq)⟩
        have sl1 := slice22l ⟨g8, 0, none⟩ (4 * n) c8 (4 * k) (by omega) (by omega) (4 * (k : Int)) (by omega)
        rw [Addr.add_mid, Nat.zero_add] at sl1
        have sl2 : ∀ W, (Instr.slice 22 (.slice (some ⟨g9, 0, none⟩) (n * 64) c9) (some (.int .i64 (64 * (k : Int)))) (some (.int .i64 (64 * ((k : Int) + 1)))) none).run Try.prog W = .ok (.slice (some ⟨g9, 64 * k, none⟩) 64 (c9 - 64 * k)) W := fun W => by
          have := slice22 ⟨g9, 0, none⟩ (n * 64) c9 (64 * k) (64 * (k + 1)) (by omega) (by omega) (by omega) (64 * (k : Int)) (64 * ((k : Int) + 1)) (by omega) (by omega) W
          rw [show 64 * (k + 1) - 64 * k = 64 by omega, Addr.add_mid, Nat.zero_add] at this
          exact this
        obtain ⟨pl, hpl⟩ : ∃ pl, placeN (placesOf D n) k = pl := ⟨_, rfl⟩
        have hpr := numL_range ((placesOf D n).drop (4 * k))
        have hpr' : 0 ≤ pl ∧ pl < 4294967296 := by rw [← hpl]; exact hpr
        obtain ⟨p1, p2⟩ := hpr'
        rw [hpl] at NC
        have HPL := Aside0.mk hpl
        clear hpl hpr hbw
        go_wp2_with fail
        refine NC.out.mono ?_
        rintro e w6 ⟨rfl, ⟨nq, rfl⟩⟩
        go_wp2_with fail
        refine (SC.out _).mono ?_
        rintro e w7 ⟨rfl, rfl⟩
        clear SC NC sl1
        by_cases hp : pl < D.n - 69
        · have HBn : Aside0 (Below W5.heap.size W5 (wr.drewN nq)) := ⟨HBW.out.trans ((Drawn0.below (⟨⟨nq, rfl⟩⟩ : Drawn0 wr (wr.drewN nq))).mono HBW.out.size)⟩
          have HFn : Aside0 ((wr.drewN nq).ownsRow W5.heap.size 102 2 u10 k (encV g9 c9 (placesOf D n) k)) := ⟨HF.out⟩
          clear HF HBW
          generalize wr.drewN nq = W6 at *
          have wa : Below W6.heap.size W6 (W6.alloc (.cells #[.int .i64 pl, .slice (some ⟨g9, 64 * k, none⟩) 64 (c9 - 64 * k)] 102)) := (Below.refl _ _).alloc (Nat.le_refl _) _
          have HB7 : Aside0 (Below W5.heap.size W5 (W6.alloc (.cells #[.int .i64 pl, .slice (some ⟨g9, 64 * k, none⟩) 64 (c9 - 64 * k)] 102))) := ⟨HBn.out.trans (wa.mono HBn.out.size)⟩
          have HF7 : Aside0 ((W6.alloc (.cells #[.int .i64 pl, .slice (some ⟨g9, 64 * k, none⟩) 64 (c9 - 64 * k)] 102)).ownsRow W5.heap.size 102 2 u10 k (encV g9 c9 (placesOf D n) k)) := ⟨ownsRow_kept HFn.out (fun b e => wa.block b (own_lt HFn.out b e))⟩
          have HNW : Aside0 (∀ (j : Nat) (u : Value), [Value.int .i64 pl, .slice (some ⟨g9, 64 * k, none⟩) 64 (c9 - 64 * k)][j]? = some u → (W6.alloc (.cells #[.int .i64 pl, .slice (some ⟨g9, 64 * k, none⟩) 64 (c9 - 64 * k)] 102)).cell? ((⟨W6.heap.size, 0, none⟩ : Addr).add j) = some u) := ⟨fun j u hj => by
            rw [Addr.add_mid, Nat.zero_add, cell_of_row _ _ _ _ _ _ (heap_alloc_new W6 _), ← hj]
            exact List.getElem?_toArray⟩
          have HOK2 : Aside0 (okPl (D.n - 69) (placesOf D n) (k + 1) = true) := ⟨by
            rw [okPl, HOK.out, HPL.out]
            simpa using hp⟩
          clear wa HBn HFn
          go_wp2_with ((with_reducible refine gate_builtin (b := .append) (xs := #[.tmp 43, .tmp 53]) rfl ?_); at_builtin; refine wp_app_row rfl (.tmp 43) (.tmp 53) 60 rfl W5.heap.size 102 _ 2 32 Try.underlying60 info102 rfl (by decide) u10 k (encV g9 c9 (placesOf D n) k) rfl HF7.out ⟨W6.heap.size, 0, none⟩ 1 1 [.int .i64 pl, .slice (some ⟨g9, 64 * k, none⟩) 64 (c9 - 64 * k)] rfl rfl HNW.out (by intro u hu; simp at hu; rcases hu with rfl | rfl <;> rfl) (by simp only [maxLen]; omega) (by omega) HB7.out.size ?_; intro v10 W8 h1 h2 h3)
          have HF8 : Aside0 (W8.ownsRow W5.heap.size 102 2 v10 (k + 1) (encV g9 c9 (placesOf D n) (k + 1))) := ⟨by rw [encV, HPL.out]; exact h1⟩
          have HB8 : Aside0 (Below W5.heap.size W5 W8) := ⟨HB7.out.grown h2 HB7.out.size (fun b e => own_base HF7.out b e)⟩
          clear h1 h2 h3 HF7 HB7 HNW sl2
          go_roundg k1
          case measure => omega
          case rel => exact ⟨k + 1, by go_num, HI3, HOK2, HF8, HB8⟩
        · have hE : Aside0 (leftE D n s0 = 2) := ⟨by
            unfold leftE
            rw [HS0.out, if_neg (by simp), okPl_false (k := k) (by omega) (by rw [HPL.out]; exact hp), if_neg (by decide)]⟩
          have hp' : D.n - 69 ≤ pl := by omega
          go_wp2_with fail
          go_ret2
          exact ⟨none, 0, 0, by rw [hE.out]; rfl, (Fr.of_below (HB2.out.trans ((HB25.out.trans (HBW.out.mono HB25.out.size)).mono HB2.out.size)) _).drewN _, fun h => by rw [hE.out] at h; cases h⟩
  · have hsn : (s0 != s) = true := by simpa using hs
    have HE : Aside0 (leftE D n s = 240) := ⟨by unfold leftE; rw [HS0.out, if_pos hs]⟩
    go_wp2_with fail
    go_ret2
    refine ⟨none, 0, 0, by rw [HE.out]; rfl, Fr.of_below (HB2.out.trans (HB25.out.mono HB2.out.size)) _, fun h => by rw [HE.out] at h; cases h⟩
end Go.Proofs.Ytppgbfkhiofjiaa.X
